/- Contracts of Go functions, and plain laws. No condition but those told. -/
import Derived.Test.YtipdiddjhimdcaaGreatDoorR02
import Derived.Test.YtipdiddjhimdcaaGreatDoorR01
import Derived.OwnWalk
import Derived.Deep.QuietTactic
import Derived.BigQuiet
import Derived.Test.YtipdiddjhimdcaaGreatDoorShelf
import Derived.Lib.Replace
import Derived.Lib.Split
import Derived.Laws.RangeAny
import Derived.Laws.Runes
import Derived.Deep.LoopGhost
import Derived.Lib.IndexAny
import Derived.Lib.OthersKept
import Derived.Shelf.Strings.AsciiSet
set_option linter.unusedSimpArgs false
set_option linter.unusedVariables false
set_option maxRecDepth 100000
namespace Go.Proofs.YtipdiddjhimdcaaGreatDoor
section
open Go.RowKit
theorem RStrs.form {w : World} {v : Value} {L : List (List UInt8)} (h : RStrs w v L) : ∃ ao cap, v = .slice ao L.length cap ∧ L.length ≤ maxLen ∧
  (0 < L.length → ∃ b off, ao = some ⟨b, off, none⟩ ∧ b < w.heap.size ∧ ∀ j (hj : j < L.length), w.cell? ⟨b, off + j, none⟩ = some (.string (bs L[j]))) := by
 rcases h.cases with ⟨⟨ao, cap, rfl⟩, rfl⟩ | ⟨b, off, cap, rfl, h2, h2', h3, h4⟩
 ·exact ⟨ao, cap, rfl, Nat.zero_le _, fun h => by simp at h⟩
 ·exact ⟨some ⟨b, off, none⟩, cap, rfl, Nat.le_trans h2 h2', fun _ => ⟨b, off, rfl, h3, h4⟩⟩
theorem lists_drop (L M : List (List UInt8)) (k : Nat) (h : k < L.length) (h' : k < M.length) :
  (L.drop k == M.drop k) = ((L[k] == M[k]) && (L.drop (k + 1) == M.drop (k + 1))) := by
 rw [List.drop_eq_getElem_cons h, List.drop_eq_getElem_cons h']; rfl
set_option maxHeartbeats 800000 in
theorem texts_c (v1 v2 : Value) (L M : List (List UInt8)) (w : World) (h1 : RStrs w v1 L) (h2 : RStrs w v2 M) :
  Calls Tryz.prog 44 #[v1, v2] w fun e w' => e = .returned (.bool (L == M)) ∧ Drn w w' := by
 obtain ⟨ao, cap, rfl, hm1, c1⟩ := h1.form
 obtain ⟨bo, cap', rfl, hm2, c2⟩ := h2.form
 have C1 := κ c1
 have C2 := κ c2
 clear c1 c2 h1 h2
 unfold maxLen at hm1 hm2
 by_cases hne : L.length = M.length
 ·have hle1 : L.length ≤ M.length := by omega
  have hle2 : M.length ≤ L.length := by omega
  have hn : ((L.length : Int) != (M.length : Int)) = false := by simp [hne]
  have HE := κ hne
  clear hne
  go_enter Tryz.func44, Tryz.ntmps44
  go_wp2
  go_loopw [5] (fun i wr => ∃ k : Nat, k ≤ L.length ∧ i = .int .i64 k ∧ Drn w wr ∧ (L.drop k == M.drop k) = (L == M)) (fun i _ => L.length - (intOf i).toNat)
  case atStart => exact ⟨0, Nat.zero_le _, rfl, Drn.refl _, rfl⟩
  case round =>
   obtain ⟨k, hk, rfl, hD, hb⟩ := hrel
   have HB := κ hb; clear hb
   by_cases hlt : k < L.length
   ·have hlt' : k < M.length := by omega
    obtain ⟨b, off, rfl, hb1, hc1⟩ := C1.out (by omega)
    obtain ⟨b', off', rfl, hb2, hc2⟩ := C2.out (by omega)
    have hd := κ (lists_drop L M k hlt hlt')
    have x1 : wr.cell? ⟨b, off + k, none⟩ = some (.string (bs L[k])) := by
     obtain ⟨n, rfl⟩ := hD; exact hc1 k hlt
    have x2 : wr.cell? ⟨b', off' + k, none⟩ = some (.string (bs M[k])) := by
     obtain ⟨n, rfl⟩ := hD; exact hc2 k hlt'
    have k0 : (0 : Int) ≤ (k : Int) := by omega
    have k1 : (k : Int) < (L.length : Int) := by omega
    have k2 : (k : Int) < (M.length : Int) := by omega
    clear hc1 hc2
    cases hq : (L[k] == M[k]) with
    | true =>
     have HQ := κ hq
     go_wp2
     go_quiet (fail)
     go_wp2
     go_roundw
     case rel => exact ⟨k + 1, by omega, by go_num, hD.step _, by rw [← HB.out, hd.out, HQ.out]; rfl⟩
     case measure => simp [intOf]; omega
    | false =>
     have HQ := κ hq
     go_wp2
     go_quiet (fail)
     go_wp2
     go_ret
     exact ⟨ret_bool (by rw [← HB.out, hd.out, HQ.out]; rfl), hD.step _⟩
   ·go_wp2
    go_ret
    refine ⟨ret_bool ?_, hD⟩
    rw [← HB.out, List.drop_eq_nil_iff.2 (by omega), List.drop_eq_nil_iff.2 (by omega)]; rfl
 ·have hn : ((L.length : Int) != (M.length : Int)) = true := by simp; omega
  have HN := κ (show (L == M) = false by
   rw [beq_eq_false_iff_ne]; intro e; exact hne (congrArg List.length e))
  clear hne
  go_enter Tryz.func44, Tryz.ntmps44
  go_wp2
  go_ret
  exact ⟨ret_bool HN.out.symm, Drn.refl _⟩
end
section
open Go.RowKit
theorem digits_neg (n : Int) (h : n < 0) : digits n = [] := by unfold digits; rw [if_pos h]
theorem digF_len : ∀ (f n : Nat), (digF f n).length ≤ f
 | 0, _ => ρ _
 | f + 1, n => by
  unfold digF
  split
  ·simp
  ·have := digF_len f (n / 10); simp; exact this
theorem digits_len (n : Int) : (digits n).length ≤ 20 := by
 unfold digits; split
 ·simp
 ·exact digF_len _ _
theorem dig_toNat (n : Nat) (h : n < 10) : (dig n).toNat = 48 + n := by
 have := (by decide : ∀ n : Fin 10, (dig n.val).toNat = 48 + n.val)
 exact this ⟨n, h⟩
theorem digF_small (p m : Nat) (h : m < 10) (hp : 1 ≤ p) : digF p m = [dig m] := by
 obtain ⟨q, rfl⟩ : ∃ q, p = q + 1 := ⟨p - 1, by omega⟩
 simp only [digF, if_pos h]
theorem digF_big (p m : Nat) (h : 10 ≤ m) (hp : 1 ≤ p) : digF p m = digF (p - 1) (m / 10) ++ [dig (m % 10)] := by
 obtain ⟨q, rfl⟩ : ∃ q, p = q + 1 := ⟨p - 1, by omega⟩
 rw [digF, if_neg (by omega)]; rfl
theorem pow_big (p m : Nat) (h : 10 ≤ m) (hm : m < 10 ^ p) : 2 ≤ p ∧ m / 10 < 10 ^ (p - 1) := by
 match p, hm with
 | 0, hm => simp at hm; omega
 | 1, hm => simp at hm; omega
 | q + 2, hm => exact ⟨by omega, Nat.div_lt_of_lt_mul (by rw [Nat.mul_comm]; exact hm)⟩
def arrAt (w : World) (e : TypeId) (g p : Nat) (ds : List UInt8) : Prop :=
 ∃ cur : Array Value, w.heap[g]? = some (.cells cur e (0, 0)) ∧ cur.size = 20 ∧ p ≤ 20 ∧ ds.length = 20 - p ∧ cur.toList.drop p = ds.map bv
theorem arrAt.cell {w : World} {e : TypeId} {g p : Nat} {ds : List UInt8} (h : arrAt w e g p ds) (j : Nat) (hj : j < ds.length) : w.cell? ⟨g, p + j, none⟩ = some (bv ds[j]) := by
 obtain ⟨cur, hg, h1, h2, h3, h4⟩ := h
 have e1 : cur[p + j]? = some (bv ds[j]) := by
  rw [← Array.getElem?_toList, ← List.getElem?_drop, h4]; simp [hj]
 simp [World.cell?, hg, e1]
theorem arrAt.some {w : World} {e : TypeId} {g p : Nat} {ds : List UInt8} (h : arrAt w e g p ds) (j : Nat) (hj : j < 20) : (∃ v, w.cell? ⟨g, j, none⟩ = some v) ∧ w.frozen? ⟨g, j, none⟩ = false := by
 obtain ⟨cur, hg, h1, h2, h3, h4⟩ := h
 refine ⟨⟨cur[j]'(by omega), by simp [World.cell?, hg, h1, hj]⟩, by simp [World.frozen?, hg]⟩
theorem arrAt.set {w : World} {e : TypeId} {g p : Nat} {ds : List UInt8} (h : arrAt w e g p ds) (hp : 1 ≤ p) (c : UInt8) : arrAt (w.setCell ⟨g, p - 1, none⟩ (bv c)) e g (p - 1) (c :: ds) := by
 obtain ⟨cur, hg, h1, h2, h3, h4⟩ := h
 refine ⟨cur.setIfInBounds (p - 1) (bv c), ?_, by simp [h1], by omega, by simp; omega, ?_⟩
 ·simp only [World.setCell, Array.getElem?_modify, hg]; simp
 ·have hl : p - 1 < cur.toList.length := by rw [Array.length_toList]; omega
  rw [Array.toList_setIfInBounds, List.drop_set, if_neg (Nat.lt_irrefl _), Nat.sub_self, List.drop_eq_getElem_cons hl, List.set_cons_zero, show p - 1 + 1 = p from by omega, h4]
  rfl
theorem run_slice_arr {P : Program} {t e : TypeId} {z : Value} {b : Nat} (ht : P.underlying t = some (.array 20 e)) (hi : infoIs P e z 1 b) (g p : Nat) (hp : p < 20) (w : World) :
  (Instr.sliceAt t (.pointer (some ⟨g, 0, none⟩)) (some (.int .i64 (p : Int))) none none).run P w = .ok (.slice (some ⟨g, p, none⟩) (20 - p) (20 - p)) w := by
 obtain ⟨i, hi0, hi1, hi2, hi3⟩ := info_parts hi
 have h1 : ¬ (20 = p) := by omega
 have h2 : (p : Int) ≤ 20 := by omega
 have h3 : (⟨g, 0, none⟩ : Addr).add p = ⟨g, p, none⟩ := by unfold Addr.add; split <;> simp_all
 simp [Instr.sliceAt, Instr.sureAddr, Instr.sliceBounds, Instr.sliceBound, run_underlying ht, asIntOf, sizeOf, typeInfo, hi0, hi2, Sem.run_bind, Result.andThen]
 rw [if_pos (by omega)]
 simp only [if_neg h1, h3]
set_option maxHeartbeats 1600000 in
theorem digits_c (n : Int) (h0 : -9223372036854775808 ≤ n) (h1 : n ≤ 9223372036854775807) (w : World) :
  Calls Tryz.prog 83 #[.int .i64 n] w fun e w' => e = .returned (.string (bs (digits n))) ∧ Below w.heap.size w w' := by
 by_cases h : n < 0
 ·have HN := κ (digits_neg n h)
  go_enter Tryz.func83, Tryz.ntmps83
  go_wp2
  go_ret
  exact ⟨by rw [HN.out]; rfl, Below.refl _ _⟩
 ·obtain ⟨k, rfl⟩ : ∃ k : Nat, n = (k : Int) := ⟨n.toNat, by omega⟩
  have hk : k ≤ 9223372036854775807 := by omega
  clear h h0 h1
  go_enter Tryz.func83, Tryz.ntmps83
  go_wp2
  go_loopw [0, 4, 5] (fun v i b wr => ∃ (m p : Nat) (ds : List UInt8) (ok : Bool), v = .int .i64 m ∧ i = .int .i64 p ∧ b = .bool ok ∧ m ≤ k ∧ p ≤ 20 ∧ arrAt wr 188 w.heap.size p ds ∧ (ok = true → digF p m ++ ds = digits k ∧ m < 10 ^ p ∧ 1 ≤ p) ∧ (ok = false → ds = digits k ∧ p < 20) ∧ Below w.heap.size w wr) (fun _ i b _ => 2 * (intOf i).toNat + (if b matches .bool true then 1 else 0))
  case atStart =>
   refine ⟨k, 20, [], true, rfl, rfl, rfl, ρ _, ρ _, ⟨_, heap_alloc_new w _, rfl, ρ _, rfl, rfl⟩, fun _ => ⟨?_, by omega, by omega⟩, (fun h => by cases h), (Below.refl _ _).alloc (ρ _) _⟩
   unfold digits; rw [if_neg (by omega), List.append_nil, Int.toNat_natCast]
  case round =>
   obtain ⟨m, p, ds, ok, rfl, rfl, rfl, hmk, hp, ha, ht, hf, hB⟩ := hrel
   cases ok with
   | true =>
    obtain ⟨hd, hm, hp1⟩ := ht rfl
    have HD := κ hd
    have HM := κ hm
    obtain ⟨⟨x, hx⟩, hfr⟩ := ha.some (p - 1) (by omega)
    have HA := κ (ha.set hp1 (dig (m % 10)))
    have hdg := κ (dig_toNat (m % 10) (by omega))
    clear hd hm ht hf ha
    have hv : bv (dig (m % 10)) = Value.int .u8 (48 + (m : Int) % 10) := by unfold bv; rw [hdg.out]; simp
    have HV := κ hv
    clear hv
    by_cases hs : m < 10
    ·have HE := κ (show dig m :: ds = digits k by rw [← HD.out, digF_small p m hs hp1]; rfl)
     have HMOD := κ (show m % 10 = m from Nat.mod_eq_of_lt hs)
     have q1 : decide ((0 : Int) < (m : Int) / 10) = false := by simp; omega
     go_wp2
     go_roundw
     case rel => exact ⟨m / 10, p - 1, _, false, by simp, by simp; omega, rfl, by omega, by omega, HV.out ▸ HA.out, (fun h => by cases h), fun _ => ⟨by rw [← HE.out, HMOD.out], by omega⟩, hB.setCell (ρ _) _⟩
     case measure => simp [intOf]; omega
    ·have hb := pow_big p m (by omega) HM.out
     have HP := κ hb.2
     have hp2 := hb.1
     have HE := κ (show digF (p - 1) (m / 10) ++ (dig (m % 10) :: ds) = digits k by rw [← HD.out, digF_big p m (by omega) hp1]; simp)
     have q1 : decide ((0 : Int) < (m : Int) / 10) = true := by simp; omega
     clear hb
     go_wp2
     go_roundw
     case rel => exact ⟨m / 10, p - 1, _, true, by simp, by simp; omega, rfl, by omega, by omega, HV.out ▸ HA.out, fun _ => ⟨HE.out, HP.out, by omega⟩, (fun h => by cases h), hB.setCell (ρ _) _⟩
     case measure => simp [intOf]; omega
   | false =>
    obtain ⟨hd, hp2⟩ := hf rfl
    have HA := κ ha
    have hl : ds.length = 20 - p := by obtain ⟨_, _, _, _, h, _⟩ := ha; exact h
    subst hd
    clear ht hf ha
    have HL := κ hl
    clear hl
    have hsl := fun wx => run_slice_arr (P := Tryz.prog) Tryz.underlying188 infoB w.heap.size p hp2 wx
    go_wp2_with (refine wpList_strAt (l := digits k) rfl rfl Tryz.underlying140 Tryz.underlying5 Tryz.underlying9 rfl HL.out ?_ ?_; (focus (intro j hj; exact HA.out.cell j hj)))
    go_ret
    exact ⟨rfl, hB⟩
end
section
open Go.RowKit
theorem pg_esc2 (sep : UInt8) (a : Bool) (cur : List UInt8) (s : ByteArray) (k : Nat) (h : k + 1 < s.size) (hc : s[k].toNat = 92) :
  partsGo sep true a cur ((us s).drop k) = partsGo sep true a ((cur ++ [s[k]]) ++ [s[k + 1]]) ((us s).drop (k + 2)) := by
 rw [drop_us s k (by omega), drop_us s (k + 1) h]; simp [partsGo, hc]
theorem pg_esc1 (sep : UInt8) (a : Bool) (cur : List UInt8) (s : ByteArray) (k : Nat) (h : k < s.size) (h1 : ¬ k + 1 < s.size) (hc : s[k].toNat = 92) :
  partsGo sep true a cur ((us s).drop k) = partsGo sep true a (cur ++ [s[k]]) ((us s).drop (k + 1)) := by
 rw [drop_us s k h, drop_us_end s (k + 1) (by omega)]; simp [partsGo, hc]
end
section
theorem pgo_esc (sep : UInt8) (a : Bool) (cur : List UInt8) (c : UInt8) (r : List UInt8) (hc : c.toNat = 92) :
  partsGo sep true a cur (c :: r) = match r with | [] => [cur ++ [c]] | d :: r' => partsGo sep true a (cur ++ [c, d]) r' := by
 rw [partsGo.eq_def]; simp only [hc, and_self, if_true]
 cases r <;> rfl
theorem pgo_cons (sep : UInt8) (q a : Bool) (cur : List UInt8) (c : UInt8) (r : List UInt8) (h : ¬ (q = true ∧ c.toNat = 92)) :
  partsGo sep q a cur (c :: r) = if c.toNat = 34 then partsGo sep (!q) a (cur ++ [c]) r
  else if q = true then partsGo sep q a (cur ++ [c]) r
  else if c.toNat = 60 then partsGo sep q true (cur ++ [c]) r
  else if c.toNat = 62 then partsGo sep q false (cur ++ [c]) r
  else if c.toNat = sep.toNat ∧ a = false then cur :: partsGo sep q a [] r
  else partsGo sep q a (cur ++ [c]) r := by
 rw [partsGo.eq_def]; simp only [if_neg h]
theorem partsGo_ne' (sep : UInt8) : ∀ (n : Nat) (l : List UInt8) (q a : Bool) (cur : List UInt8), l.length ≤ n → partsGo sep q a cur l ≠ []
 | _, [], q, a, cur, _ => by simp [partsGo]
 | 0, c :: r, q, a, cur, h => by simp at h
 | n + 1, c :: r, q, a, cur, h => by
  have hr : r.length ≤ n := by simpa using h
  by_cases hA : q = true ∧ c.toNat = 92
  ·obtain ⟨rfl, h92⟩ := hA
   rw [pgo_esc sep a cur c r h92]
   cases r with
   | nil => simp
   | cons d r' => exact partsGo_ne' sep n r' _ _ _ (by simp at hr; omega)
  ·rw [pgo_cons sep q a cur c r hA]
   repeat' split
   all_goals first | exact partsGo_ne' sep n r _ _ _ hr | simp
theorem partsGo_ne (sep : UInt8) (l : List UInt8) (q a : Bool) (cur : List UInt8) : partsGo sep q a cur l ≠ [] := partsGo_ne' sep l.length l q a cur (ρ _)
theorem glue_cons (sep x : List UInt8) (l : List (List UInt8)) (h : l ≠ []) : glue sep (x :: l) = x ++ (sep ++ glue sep l) := by
 cases l with
 | nil => exact absurd rfl h
 | cons y r => rfl
theorem glue_parts' (sep : UInt8) : ∀ (n : Nat) (l : List UInt8) (q a : Bool) (cur : List UInt8), l.length ≤ n → glue [sep] (partsGo sep q a cur l) = cur ++ l
 | _, [], q, a, cur, _ => by simp [partsGo, glue]
 | 0, c :: r, q, a, cur, h => by simp at h
 | n + 1, c :: r, q, a, cur, h => by
  have hr : r.length ≤ n := by simpa using h
  by_cases hA : q = true ∧ c.toNat = 92
  ·obtain ⟨rfl, h92⟩ := hA
   rw [pgo_esc sep a cur c r h92]
   cases r with
   | nil => simp [glue]
   | cons d r' => show glue [sep] (partsGo sep true a (cur ++ [c, d]) r') = _; rw [glue_parts' sep n r' _ _ _ (by simp at hr; omega)]; simp
  ·rw [pgo_cons sep q a cur c r hA]
   by_cases h1 : c.toNat = 34
   ·rw [if_pos h1, glue_parts' sep n r _ _ _ hr]; simp
   by_cases h2 : q = true
   ·rw [if_neg h1, if_pos h2, glue_parts' sep n r _ _ _ hr]; simp
   by_cases h3 : c.toNat = 60
   ·rw [if_neg h1, if_neg h2, if_pos h3, glue_parts' sep n r _ _ _ hr]; simp
   by_cases h4 : c.toNat = 62
   ·rw [if_neg h1, if_neg h2, if_neg h3, if_pos h4, glue_parts' sep n r _ _ _ hr]; simp
   by_cases h5 : c.toNat = sep.toNat ∧ a = false
   ·rw [if_neg h1, if_neg h2, if_neg h3, if_neg h4, if_pos h5, glue_cons _ _ _ (partsGo_ne sep _ _ _ _), glue_parts' sep n r _ _ _ hr]
    have : c = sep := UInt8.toNat_inj.1 h5.1
    rw [this]; simp
   ·rw [if_neg h1, if_neg h2, if_neg h3, if_neg h4, if_neg h5, glue_parts' sep n r _ _ _ hr]; simp
theorem glue_parts (sep : UInt8) (l : List UInt8) : glue [sep] (parts l sep) = l := glue_parts' sep l.length l false false [] (ρ _)
theorem trim_le (l : List UInt8) : (trim l).length ≤ l.length := by
 unfold trim trimR trimL
 rw [List.length_reverse]
 refine Nat.le_trans (List.dropWhile_sublist _).length_le ?_
 rw [List.length_reverse]
 exact (List.dropWhile_sublist _).length_le
end
section
open Go.RowKit
def cutb (c : UInt8) : List UInt8 → List UInt8 × List UInt8 × Bool
 | [] => ([], [], false)
 | x :: r => if x.toNat = c.toNat then ([], r, true) else (x :: (cutb c r).1, (cutb c r).2.1, (cutb c r).2.2)
theorem cutb_yes (c x : UInt8) (r : List UInt8) (h : x.toNat = c.toNat) : cutb c (x :: r) = ([], r, true) := by rw [cutb, if_pos h]
theorem cutb_no (c x : UInt8) (r : List UInt8) (h : ¬ x.toNat = c.toNat) : cutb c (x :: r) = (x :: (cutb c r).1, (cutb c r).2.1, (cutb c r).2.2) := by rw [cutb, if_neg h]
def ahead (xs : List UInt8) (p : List UInt8 × List UInt8 × Bool) : List UInt8 × List UInt8 × Bool := (xs ++ p.1, p.2.1, p.2.2)
theorem cut_step (s : ByteArray) (c : UInt8) (k : Nat) (h : k < s.size) (hn : ¬ s[k].toNat = c.toNat) (hp : cutb c (us s) = ahead ((us s).take k) (cutb c ((us s).drop k))) :
  cutb c (us s) = ahead ((us s).take (k + 1)) (cutb c ((us s).drop (k + 1))) := by
 rw [hp, drop_us s k h, cutb_no c _ _ hn, take_us s k h]; unfold ahead; simp
theorem cut_found (s : ByteArray) (c : UInt8) (k : Nat) (h : k < s.size) (hn : s[k].toNat = c.toNat) (hp : cutb c (us s) = ahead ((us s).take k) (cutb c ((us s).drop k))) :
  cutb c (us s) = ((us s).take k, (us s).drop (k + 1), true) := by
 rw [hp, drop_us s k h, cutb_yes c _ _ hn]; unfold ahead; simp
theorem cut_end (s : ByteArray) (c : UInt8) (k : Nat) (h : s.size ≤ k) (hp : cutb c (us s) = ahead ((us s).take k) (cutb c ((us s).drop k))) :
  cutb c (us s) = (us s, [], false) := by
 rw [hp, drop_us_end s k h, take_all s k h]; unfold ahead cutb; simp
theorem ret_cut {a b : ByteArray} {o : Bool} {p : List UInt8 × List UInt8 × Bool} (h : p = (us a, us b, o)) :
  Ending.returned (.tuple #[.string a, .string b, .bool o]) = .returned (.tuple #[.string (bs p.1), .string (bs p.2.1), .bool p.2.2]) := by rw [h]; simp
theorem cutR_c (s : ByteArray) (hs : s.size ≤ 9223372036854775807) (c : UInt8) (w : World) :
  Calls Tryz.prog 122 #[.string s, .int .u8 c.toNat] w fun e w' => e = .returned (.tuple #[.string (bs (cutb c (us s)).1), .string (bs (cutb c (us s)).2.1), .bool (cutb c (us s)).2.2]) ∧ Drn w w' := by
 go_enter Tryz.func122, Tryz.ntmps122
 go_wp2
 go_loopw [7] (fun i wr => ∃ k : Nat, k ≤ s.size ∧ i = .int .i64 k ∧ cutb c (us s) = ahead ((us s).take k) (cutb c ((us s).drop k)) ∧ Drn w wr) (fun i _ => s.size - (intOf i).toNat)
 case atStart => exact ⟨0, Nat.zero_le _, rfl, rfl, Drn.refl _⟩
 case round =>
  obtain ⟨k, hk, rfl, hp, hD⟩ := hrel
  have HP := κ hp; clear hp
  by_cases hlt : k < s.size
  ·by_cases h : s[k].toNat = c.toNat
   ·have HF := κ (cut_found s c k hlt h HP.out)
    have t1 : ((s[k].toNat : Int) == (c.toNat : Int)) = true := by simp; omega
    have H := κ h
    clear h
    have w1 : IntKind.i64.wrap ((k : Int) + 1) = (k : Int) + 1 := IntWalk.i64_in _ (by omega)
    have e1 : ((k : Int) + 1).toNat = k + 1 := by omega
    have q1 : (0 : Int) ≤ (k : Int) := by omega
    have q2 : (k : Int) ≤ (s.size : Int) := by omega
    have q3 : (k : Int) + 1 ≤ (s.size : Int) := by omega
    go_wp2
    go_quiet (fail)
    go_wp2
    go_ret3
    exact ⟨ret_cut (by rw [HF.out, us_extract, us_tail]; simp), hD.step _⟩
   ·have HN := κ (cut_step s c k hlt h HP.out)
    have t1 : ((s[k].toNat : Int) == (c.toNat : Int)) = false := by simp; omega
    clear h
    go_wp2
    go_roundw
    case rel => exact ⟨k + 1, by omega, by go_num, HN.out, hD⟩
    case measure => simp [intOf]; omega
  ·have HE := κ (cut_end s c k (by omega) HP.out)
   go_wp2
   go_ret3
   exact ⟨ret_cut (by rw [HE.out]; rfl), hD⟩
end
section
open Go.RowKit
def Ml (w : World) : Prop := ∃ m, w.cell? ⟨0, 0, none⟩ = some (.int .i64 m)
theorem cell_lt {w : World} {g o : Nat} {v : Value} (h : w.cell? ⟨g, o, none⟩ = some v) : g < w.heap.size := by
 rcases Nat.lt_or_ge g w.heap.size with hlt | hge
 ·exact hlt
 ·simp [World.cell?, Array.getElem?_eq_none hge] at h
theorem Ml.below {w w' : World} (h : Ml w) (hB : Below w.heap.size w w') : Ml w' := by
 obtain ⟨m, hm⟩ := h
 exact ⟨m, (hB.cell (p := ⟨0, 0, none⟩) (cell_lt hm)).trans hm⟩
theorem Ml.drewN {w : World} (h : Ml w) (n : Nat) : Ml (w.drewN n) := h.below (Drn.below ⟨n, rfl⟩)
theorem idx_cons (c b : UInt8) (l : List UInt8) : Lib.index (b :: l) [c] = if b.toNat = c.toNat then 0 else if Lib.index l [c] == -1 then -1 else Lib.index l [c] + 1 := by
 rw [Lib.index]
 have : ([c].isPrefixOf (b :: l) = true) ↔ b.toNat = c.toNat := by
  simp only [List.isPrefixOf, Bool.and_true, beq_iff_eq]
  constructor
  ·intro h; rw [h]
  ·intro h; exact (UInt8.toNat_inj.1 h).symm
 by_cases h : b.toNat = c.toNat
 ·rw [if_pos h, if_pos (this.2 h)]
 ·rw [if_neg h, if_neg (fun e => h (this.1 e))]
theorem idx_cut (c : UInt8) : ∀ l : List UInt8, (Lib.index l [c] = -1 ∧ cutb c l = (l, [], false)) ∨ (∃ i : Nat, Lib.index l [c] = i ∧ i < l.length ∧ cutb c l = (l.take i, l.drop (i + 1), true))
 | [] => .inl ⟨rfl, rfl⟩
 | b :: l => by
  rw [idx_cons]
  by_cases h : b.toNat = c.toNat
  ·refine .inr ⟨0, by rw [if_pos h]; rfl, by simp, by rw [cutb, if_pos h]; rfl⟩
  ·rw [if_neg h, cutb, if_neg h]
   rcases idx_cut c l with ⟨h1, h2⟩ | ⟨i, h1, h2, h3⟩
   ·exact .inl ⟨by rw [h1]; rfl, by rw [h2]⟩
   ·refine .inr ⟨i + 1, ?_, by simp; omega, by rw [h3]; rfl⟩
    have hn : (((i : Nat) : Int) == -1) = false := by rw [beq_eq_false_iff_ne]; omega
    rw [h1, hn, if_neg (by decide)]
    omega
theorem lib_cut (c : UInt8) (l : List UInt8) : Lib.cut l [c] = cutb c l := by
 unfold Lib.cut
 rcases idx_cut c l with ⟨h1, h2⟩ | ⟨i, h1, _, h3⟩
 ·rw [h1, if_neg (by decide), h2]
 ·rw [h1, if_pos (by omega), h3]; rfl
def splitc (c : UInt8) : List UInt8 → List (List UInt8)
 | [] => [[]]
 | x :: r => if x.toNat = c.toNat then [] :: splitc c r else (x :: (splitc c r).headD []) :: (splitc c r).tail
theorem splitc_cut (c : UInt8) : ∀ l : List UInt8, splitc c l = (cutb c l).1 :: (if (cutb c l).2.2 = true then splitc c (cutb c l).2.1 else [])
 | [] => rfl
 | x :: r => by
  by_cases h : x.toNat = c.toNat
  ·rw [splitc, if_pos h, cutb, if_pos h]; rfl
  ·rw [splitc, if_neg h, cutb, if_neg h, splitc_cut c r]; rfl
theorem lib_split (c : UInt8) : ∀ (k : Nat) (l : List UInt8), Lib.count l [c] = k → Lib.splitK [c] 0 k l = splitc c l
 | 0, l, hk => by
  rcases idx_cut c l with ⟨_, h2⟩ | ⟨i, h1, _, _⟩
  ·rw [splitc_cut, h2]; rfl
  ·have := Lib.count_hit (s := l) (sub := [c]) (by simp) h1; omega
 | k + 1, l, hk => by
  rcases idx_cut c l with ⟨h1, _⟩ | ⟨i, h1, _, h3⟩
  ·have := Lib.count_miss h1; omega
  ·have hc := Lib.count_hit (s := l) (sub := [c]) (by simp) h1
   rw [splitc_cut, h3]
   have hn : ¬ ((((i : Nat) : Int) == -1) = true) := by rw [beq_iff_eq]; omega
   rw [Lib.splitK, h1, if_neg hn]
   have e1 : ((i : Nat) : Int).toNat = i := by omega
   rw [e1, if_pos rfl]
   show l.take (i + 0) :: _ = _
   rw [Nat.add_zero]
   congr 1
   exact lib_split c k _ (by have : (l.drop (i + [c].length)) = l.drop (i + 1) := rfl; rw [this] at hc; show Lib.count (l.drop (i + 1)) [c] = k; omega)
theorem one_data (c : UInt8) : (⟨#[c]⟩ : ByteArray).data.toList = [c] := rfl
theorem cut_c (s : ByteArray) (hs : s.size < 4294967281) (c : UInt8) (w : World) (hm : Ml w) :
  Calls Tryz.prog 47 #[.string s, .string ⟨#[c]⟩] w fun e w' => e = .returned (.tuple #[.string (bs (cutb c (us s)).1), .string (bs (cutb c (us s)).2.1), .bool (cutb c (us s)).2.2]) ∧ Drn w w' := by
 obtain ⟨m, hm⟩ := hm
 refine (Tryz.strings_Cut s ⟨#[c]⟩ m w hs hm).mono ?_
 rintro e w' ⟨rfl, h⟩
 refine ⟨?_, h⟩
 rw [one_data, lib_cut]; rfl
def opens (c : UInt8) (l : List UInt8) : Bool := match l with | [] => false | x :: _ => x.toNat == c.toNat
theorem prefix_c (s : ByteArray) (c : UInt8) (w : World) :
  Calls Tryz.prog 104 #[.string s, .string ⟨#[c]⟩] w fun e w' => e = .returned (.bool (opens c (us s))) ∧ w = w' := by
 refine (Tryz.strings_HasPrefix s ⟨#[c]⟩ w).mono ?_
 rintro e w' ⟨rfl, rfl⟩
 refine ⟨?_, rfl⟩
 rw [one_data]
 unfold Lib.hasPrefix us opens
 cases s.data.toList with
 | nil => rfl
 | cons x r =>
  simp only [List.isPrefixOf, Bool.and_true]
  rw [show (c == x) = (x.toNat == c.toNat) from by
   rw [Bool.eq_iff_iff, beq_iff_eq, beq_iff_eq]; exact ⟨fun h => by rw [h], fun h => (UInt8.toNat_inj.1 h).symm⟩]
theorem split_c (s : ByteArray) (hs : s.size < 4294967281) (c : UInt8) (w : World) (hm : Ml w) :
  Calls Tryz.prog 111 #[.string s, .string ⟨#[c]⟩] w fun e w' => ∃ v, e = .returned v ∧ RStrs w' v (splitc c (us s)) ∧ Below w.heap.size w w' := by
 obtain ⟨m, hm⟩ := hm
 refine (Tryz.strings_Split s ⟨#[c]⟩ m w hs hm (ρ 1)).mono ?_
 rintro e w' ⟨rfl, rfl⟩
 refine ⟨_, rfl, ?_, (Below.refl _ _).alloc (ρ _) _⟩
 have hd := Lib.splitB_data ⟨#[c]⟩ 0 (Lib.countB s ⟨#[c]⟩) s
 have hk : Lib.splitK [c] 0 (Lib.countB s ⟨#[c]⟩) s.data.toList = splitc c (us s) := lib_split c _ _ rfl
 rw [one_data, hk] at hd
 have hl : Lib.countB s ⟨#[c]⟩ + 1 = (splitc c (us s)).length := by
  rw [← hd, List.length_map, Lib.splitB_all ⟨#[c]⟩ (ρ 1) 0 _ s rfl]
 have hsm : Lib.countB s ⟨#[c]⟩ ≤ s.size := Lib.countB_le ⟨#[c]⟩ (ρ 1) _ s (ρ _)
 rw [hl]
 refine .inr ⟨w.heap.size, 0, _, rfl, ρ _, by rw [← hl]; unfold maxLen; omega, by rw [World.size_alloc]; exact Nat.lt_succ_self _, fun j u hj => ?_⟩
 rw [World.cell?_alloc_at _ _ _ _ rfl]
 rw [← hd, List.map_map] at hj
 simpa [sv, bs, Function.comp_def] using hj
end
section
open Go.RowKit
def sixb (c : UInt8) : Bool := (c.toNat == 58) || (c.toNat == 46) || testc 4 c
def inner (l : List UInt8) (k : Nat) : List UInt8 := (l.take k).drop 1
def colons (l : List UInt8) : Nat := (l.filter fun c => c.toNat == 58).length
def sixS (l : List UInt8) : Bool := decide (4 ≤ l.length) && (l.getLast? == some 93) && (inner l (l.length - 1)).all sixb && decide (2 ≤ colons (inner l (l.length - 1)))
def label (p : List UInt8) : Bool := decide (1 ≤ p.length) && allc 64 p && !(p.head? == some 45) && !(p.getLast? == some 45)
def hostS (l : List UInt8) : Bool := decide (1 ≤ l.length) && decide (l.length ≤ 64) && (lowr l == l) && (if l.head? == some 91 then sixS l else (splitc 46 l).all label)
theorem inner_one (l : List UInt8) : inner l 1 = [] := by unfold inner; cases l <;> rfl
theorem inner_step (s : ByteArray) (k : Nat) (h0 : 1 ≤ k) (h : k < s.size) : inner (us s) (k + 1) = inner (us s) k ++ [s[k]] := by
 unfold inner
 rw [take_us s k h, List.drop_append_of_le_length]
 rw [List.length_take, length_us]; omega
theorem all_testc (a b : Int) (h : ∀ n : Fin 256, testc a (UInt8.ofNat n.val) = testc b (UInt8.ofNat n.val)) (l : List UInt8) : allc a l = allc b l := by
 unfold allc
 have : testc a = testc b := funext fun c => all_bytes (fun c => testc a c = testc b c) h c
 rw [this]
theorem allc_67 (l : List UInt8) : allc 67 l = allc 64 l := all_testc 67 64 (by decide +kernel) l
theorem sixb_colon (c : UInt8) (h : c.toNat = 58) : sixb c = true := by unfold sixb; simp [h]
theorem sixb_dot (c : UInt8) (h : c.toNat = 46) : sixb c = true := by unfold sixb; simp [h]
theorem sixb_hex (c : UInt8) (h : testc 4 c = true) : sixb c = true := by unfold sixb; simp [h]
theorem sixb_no (c : UInt8) (h1 : ¬ c.toNat = 58) (h2 : ¬ c.toNat = 46) (h3 : testc 4 c = false) : sixb c = false := by unfold sixb; simp [h1, h2, h3]
theorem inner_bad (s : ByteArray) (k : Nat) (h0 : 1 ≤ k) (h : k + 1 < s.size) (hb : sixb s[k] = false) : (inner (us s) (s.size - 1)).all sixb = false := by
 rw [← Bool.not_eq_true, List.all_eq_true]
 intro hall
 have hm : s[k] ∈ inner (us s) (s.size - 1) := by
  unfold inner
  refine List.mem_of_getElem? (i := k - 1) ?_
  rw [List.getElem?_drop, List.getElem?_take_of_lt (by omega), show 1 + (k - 1) = k from by omega, get_us s k (by omega)]
 have := hall _ hm
 rw [hb] at this; cases this
theorem inner_all (s : ByteArray) (k : Nat) (h0 : 1 ≤ k) (h : k < s.size) (hb : sixb s[k] = true) (hp : (inner (us s) k).all sixb = true) : (inner (us s) (k + 1)).all sixb = true := by
 rw [inner_step s k h0 h, List.all_append, hp]; simp [hb]
theorem colons_yes (s : ByteArray) (k : Nat) (h0 : 1 ≤ k) (h : k < s.size) (hb : s[k].toNat = 58) : colons (inner (us s) (k + 1)) = colons (inner (us s) k) + 1 := by
 rw [inner_step s k h0 h]; unfold colons; simp [hb]
theorem colons_no (s : ByteArray) (k : Nat) (h0 : 1 ≤ k) (h : k < s.size) (hb : ¬ s[k].toNat = 58) : colons (inner (us s) (k + 1)) = colons (inner (us s) k) := by
 rw [inner_step s k h0 h]; unfold colons; simp [hb]
theorem colons_le (l : List UInt8) (k : Nat) : colons (inner l k) ≤ l.length := by
 unfold colons inner
 refine Nat.le_trans (List.length_filter_le _ _) ?_
 rw [List.length_drop, List.length_take]; omega
theorem sixS_short (l : List UInt8) (h : l.length < 4) : sixS l = false := by unfold sixS; rw [show decide (4 ≤ l.length) = false from decide_eq_false (by omega)]; simp
theorem last_us (s : ByteArray) (h : 0 < s.size) : (us s).getLast? = some s[s.size - 1] := by
 rw [List.getLast?_eq_getElem?, length_us, get_us s _ (by omega)]
theorem last_is (s : ByteArray) (h : 0 < s.size) (n : Nat) (hn : n < 256) : ((us s).getLast? == some (UInt8.ofNat n)) = decide (s[s.size - 1].toNat = n) := by
 rw [last_us s h, Bool.eq_iff_iff, beq_iff_eq, decide_eq_true_iff]
 constructor
 ·intro e; injection e with e; rw [e]; simp; omega
 ·intro e; rw [← e]; simp
theorem head_is (s : ByteArray) (h : 0 < s.size) (n : Nat) (hn : n < 256) : ((us s).head? == some (UInt8.ofNat n)) = decide (s[0].toNat = n) := by
 rw [List.head?_eq_getElem?, get_us s 0 h, Bool.eq_iff_iff, beq_iff_eq, decide_eq_true_iff]
 constructor
 ·intro e; injection e with e; rw [e]; simp; omega
 ·intro e; rw [← e]; simp
theorem sixS_last (s : ByteArray) (h : 0 < s.size) (hl : ¬ s[s.size - 1].toNat = 93) : sixS (us s) = false := by
 unfold sixS
 have : ((us s).getLast? == some 93) = false := (last_is s h 93 (by decide)).trans (decide_eq_false hl)
 rw [this]; simp
theorem sixS_bad (s : ByteArray) (hb : (inner (us s) (s.size - 1)).all sixb = false) : sixS (us s) = false := by
 unfold sixS; rw [length_us, hb]; simp
theorem sixS_end (s : ByteArray) (h : 4 ≤ s.size) (hl : s[s.size - 1].toNat = 93) (hb : (inner (us s) (s.size - 1)).all sixb = true) : sixS (us s) = decide (2 ≤ colons (inner (us s) (s.size - 1))) := by
 unfold sixS
 have h1 : ((us s).getLast? == some 93) = true := (last_is s (by omega) 93 (by decide)).trans (decide_eq_true hl)
 rw [length_us, h1, hb]; simp [h]
set_option maxHeartbeats 800000 in
theorem six_c (s : ByteArray) (hs : s.size ≤ 4294967280) (w : World) :
  Calls Tryz.prog 179 #[.string s] w fun e w' => e = .returned (.bool (sixS (us s))) ∧ w = w' := by
 by_cases h4 : s.size < 4
 ·have HN := κ (sixS_short (us s) (by rw [length_us]; exact h4))
  go_enter Tryz.func179, Tryz.ntmps179
  go_wp2
  go_ret
  exact ⟨ret_bool (by rw [HN.out]), rfl⟩
 have q1 : s.size - 1 < s.size := by omega
 have q2 : (0 : Int) ≤ (s.size : Int) - 1 := by omega
 have q3 : ((s.size : Int) - 1).toNat = s.size - 1 := by omega
 by_cases hl : s[s.size - 1].toNat = 93
 ·have t1 : ((s[s.size - 1].toNat : Int) != 93) = false := by simp [hl]
  have HE := κ (sixS_end s (by omega) hl)
  clear hl
  go_enter Tryz.func179, Tryz.ntmps179
  go_wp2
  go_loop [3, 4] (fun n i => ∃ k : Nat, 1 ≤ k ∧ k + 1 ≤ s.size ∧ i = .int .i64 k ∧ n = .int .i64 (colons (inner (us s) k) : Nat) ∧ (inner (us s) k).all sixb = true) (fun _ i => s.size - (intOf i).toNat)
  case atStart => exact ⟨1, ρ _, by omega, rfl, by rw [inner_one]; rfl, by rw [inner_one]; rfl⟩
  case round =>
   obtain ⟨k, hk0, hk, rfl, rfl, hb⟩ := hrel
   have HB := κ hb; clear hb
   have hcl : colons (inner (us s) k) ≤ s.size := by rw [← length_us]; exact colons_le _ _
   by_cases hlt : k + 1 < s.size
   ·by_cases c1 : s[k].toNat = 58
    ·have a1 : ((s[k].toNat : Int) == 58) = true := by simp [c1]
     have HA := κ (inner_all s k hk0 (by omega) (sixb_colon _ c1) HB.out)
     have HC := κ (colons_yes s k hk0 (by omega) c1)
     clear c1
     go_wp2
     go_round
     case rel => exact ⟨k + 1, by omega, by omega, by go_num, by rw [HC.out]; go_num, HA.out⟩
     case measure => simp [intOf]; omega
    ·have a1 : ((s[k].toNat : Int) == 58) = false := by simp; omega
     have HC := κ (colons_no s k hk0 (by omega) c1)
     by_cases c2 : s[k].toNat = 46
     ·have a2 : ((s[k].toNat : Int) != 46) = false := by simp [c2]
      have HA := κ (inner_all s k hk0 (by omega) (sixb_dot _ c2) HB.out)
      clear c1 c2
      go_wp2
      go_round
      case rel => exact ⟨k + 1, by omega, by omega, by go_num, by rw [HC.out], HA.out⟩
      case measure => simp [intOf]; omega
     ·have a2 : ((s[k].toNat : Int) != 46) = true := by simp; omega
      by_cases ht : (bits BinOp.and IntKind.i64 (cls s[k]) 4 == 0) = true
      ·have HN := κ (sixS_bad s (inner_bad s k hk0 hlt (sixb_no _ c1 c2 (testc_t 4 _ ht))))
       clear c1 c2
       go_wp2_with (go_at_call 92; refine (class_c _ _).mono ?_; rintro e w' ⟨rfl, rfl⟩)
       go_ret
       exact ⟨ret_bool (by rw [HN.out]), rfl⟩
      ·have ht' : (bits BinOp.and IntKind.i64 (cls s[k]) 4 == 0) = false := by simpa using ht
       clear ht
       have HA := κ (inner_all s k hk0 (by omega) (sixb_hex _ (testc_f 4 _ ht')) HB.out)
       clear c1 c2
       go_wp2_with (go_at_call 92; refine (class_c _ _).mono ?_; rintro e w' ⟨rfl, rfl⟩)
       go_round
       case rel => exact ⟨k + 1, by omega, by omega, by go_num, by rw [HC.out], HA.out⟩
       case measure => simp [intOf]; omega
   ·obtain rfl : k = s.size - 1 := by omega
    have HX := κ (HE.out HB.out)
    go_wp2
    go_ret
    exact ⟨ret_bool (by rw [HX.out]; simp; omega), rfl⟩
 ·have t1 : ((s[s.size - 1].toNat : Int) != 93) = true := by simp; omega
  have HN := κ (sixS_last s (by omega) hl)
  clear hl
  go_enter Tryz.func179, Tryz.ntmps179
  go_wp2
  go_ret
  exact ⟨ret_bool (by rw [HN.out]), rfl⟩
end
section
open Go.RowKit
theorem label_zero (P : ByteArray) (h : P.size = 0) : label (us P) = false := by
 unfold label; rw [length_us, h]; rfl
theorem label_all (P : ByteArray) (h : allc 64 (us P) = false) : label (us P) = false := by
 unfold label; rw [h]; simp
theorem label_head (P : ByteArray) (h : 0 < P.size) (hb : P[0].toNat = 45) : label (us P) = false := by
 unfold label
 have : ((us P).head? == some 45) = true := (head_is P h 45 (by decide)).trans (decide_eq_true hb)
 rw [this]; simp
theorem label_last (P : ByteArray) (h : 0 < P.size) (hb : P[P.size - 1].toNat = 45) : label (us P) = false := by
 unfold label
 have : ((us P).getLast? == some 45) = true := (last_is P h 45 (by decide)).trans (decide_eq_true hb)
 rw [this]; simp
theorem label_yes (P : ByteArray) (h : 0 < P.size) (ha : allc 64 (us P) = true) (h0 : ¬ P[0].toNat = 45) (h1 : ¬ P[P.size - 1].toNat = 45) : label (us P) = true := by
 unfold label
 have e0 : ((us P).head? == some 45) = false := (head_is P h 45 (by decide)).trans (decide_eq_false h0)
 have e1 : ((us P).getLast? == some 45) = false := (last_is P h 45 (by decide)).trans (decide_eq_false h1)
 rw [ha, e0, e1, length_us]; simp; omega
theorem host_no (l : List UInt8) (h : l.length = 0 ∨ 64 < l.length ∨ ¬ lowr l = l) : hostS l = false := by
 unfold hostS
 rcases h with h | h | h
 ·rw [h]; rfl
 ·rw [show decide (l.length ≤ 64) = false from decide_eq_false (by omega)]; simp
 ·rw [show (lowr l == l) = false from by rw [beq_eq_false_iff_ne]; exact h]; simp
theorem host_six (s : ByteArray) (h0 : 0 < s.size) (h1 : s.size ≤ 64) (hl : lowr (us s) = us s) (hb : s[0].toNat = 91) : hostS (us s) = sixS (us s) := by
 unfold hostS
 have e0 : ((us s).head? == some 91) = true := (head_is s h0 91 (by decide)).trans (decide_eq_true hb)
 rw [e0, if_pos rfl, hl, length_us]; simp; omega
theorem host_split (s : ByteArray) (h0 : 0 < s.size) (h1 : s.size ≤ 64) (hl : lowr (us s) = us s) (hb : ¬ s[0].toNat = 91) : hostS (us s) = (splitc 46 (us s)).all label := by
 unfold hostS
 have e0 : ((us s).head? == some 91) = false := (head_is s h0 91 (by decide)).trans (decide_eq_false hb)
 rw [e0, if_neg (by decide), hl, length_us]; simp; omega
theorem labels_bad (L : List (List UInt8)) (k : Nat) (h : k < L.length) (hb : label L[k] = false) : L.all label = false := by
 rw [← Bool.not_eq_true, List.all_eq_true]
 intro hall
 have := hall _ (List.getElem_mem h)
 rw [hb] at this; cases this
theorem labels_next (L : List (List UInt8)) (k : Nat) (h : k < L.length) (hb : label L[k] = true) (hp : (L.take k).all label = true) : (L.take (k + 1)).all label = true := by
 rw [List.take_succ_eq_append_getElem h, List.all_append, hp]; simp [hb]
theorem splitc_bd (c : UInt8) : ∀ l : List UInt8, ∀ p ∈ splitc c l, p.length ≤ l.length
 | [], p, h => by simp [splitc] at h; rw [h]; exact ρ _
 | x :: r, p, h => by
  rw [splitc] at h
  split at h
  ·rcases List.mem_cons.1 h with rfl | h
   ·simp
   ·have := splitc_bd c r p h; simp; omega
  ·rcases List.mem_cons.1 h with rfl | h
   ·have := splitc_bd c r ((splitc c r).headD []) (by
     rw [splitc_cut]; simp)
    rw [List.length_cons, List.length_cons]; omega
   ·have := splitc_bd c r p (List.mem_of_mem_tail h); simp; omega
set_option maxHeartbeats 1600000 in
theorem host_c (s : ByteArray) (hs : s.size ≤ 4294967280) (w : World) (hm : Ml w) :
  Calls Tryz.prog 141 #[.string s] w fun e w' => e = .returned (.bool (hostS (us s))) ∧ Below w.heap.size w w' := by
 have hR : Below w.heap.size w w := Below.refl _ _
 by_cases hz : s.size = 0
 ·have HN := κ (host_no (us s) (.inl (by rw [length_us]; exact hz)))
  obtain rfl := eq_empty hz
  go_enter Tryz.func141, Tryz.ntmps141
  go_wp2
  all_goals
   go_ret
   exact ⟨ret_bool (by rw [HN.out]), hR⟩
 have hE := ne_empty hz
 have hF := isEmpty_f hz
 by_cases h64 : 64 < s.size
 ·have HN := κ (host_no (us s) (.inr (.inl (by rw [length_us]; exact h64))))
  go_enter Tryz.func141, Tryz.ntmps141
  go_wp2
  all_goals
   go_ret
   exact ⟨ret_bool (by rw [HN.out]), hR⟩
 have HL := κ (fun wx => lowerP_c s (by omega) wx)
 by_cases hlow : lowr (us s) = us s
 case neg =>
  have HN := κ (host_no (us s) (.inr (.inr hlow)))
  obtain ⟨t, ht⟩ : ∃ t, t = bs (lowr (us s)) := ⟨_, rfl⟩
  have hne : (t.toList == s.toList) = false := by
   rw [toList_us, toList_us, ht, us_bs, beq_eq_false_iff_ne]; exact hlow
  rw [← ht] at HL
  clear ht hlow
  go_enter Tryz.func141, Tryz.ntmps141
  go_wp2_with (go_at_call 96; refine (HL.out _).mono ?_; rintro e w1 ⟨rfl, hC⟩)
  go_ret
  exact ⟨ret_bool (by rw [HN.out]), hC⟩
 case pos =>
  rw [hlow, bs_us] at HL
  have h0 : 0 < s.size := by omega
  by_cases hb : s[0].toNat = 91
  ·have HN := κ (host_six s h0 (by omega) hlow hb)
   have H6 := κ (fun wx => six_c s hs wx)
   have t1 : ((s[0].toNat : Int) == 91) = true := by simp [hb]
   clear hlow hb
   go_enter Tryz.func141, Tryz.ntmps141
   go_wp2_with (first | (go_at_call 96; refine (HL.out _).mono ?_; rintro e w1 ⟨rfl, hC⟩) | (go_at_call 179; refine (H6.out _).mono ?_; rintro e w2 ⟨rfl, rfl⟩))
   go_ret
   exact ⟨ret_bool (by rw [HN.out]), hC⟩
  ·have HN := κ (host_split s h0 (by omega) hlow hb)
   have H6 := κ (fun wx hx => split_c s (by omega) 46 wx hx)
   have t1 : ((s[0].toNat : Int) == 91) = false := by simp; omega
   have HBD := κ (fun p hp => Nat.le_trans (splitc_bd 46 (us s) p hp) (by rw [length_us]; exact hs))
   clear hlow hb
   obtain ⟨L, hL⟩ : ∃ L, L = splitc 46 (us s) := ⟨_, rfl⟩
   rw [← hL] at HN H6 HBD
   clear hL
   have HM := κ hm
   clear hm
   go_enter Tryz.func141, Tryz.ntmps141
   go_wp2_with (first | (go_at_call 96; refine (HL.out _).mono ?_; rintro e w1 ⟨rfl, hC⟩) | (go_at_call 111; refine (H6.out _ (HM.out.below hC)).mono ?_; rintro e w2 ⟨v, rfl, hv, hC2⟩; obtain ⟨ao, cap, rfl, hm1, c1⟩ := hv.form; have C1 := κ c1; clear c1 hv; have HW := κ (hC.trans (hC2.mono hC.size)); clear hC hC2))
   unfold maxLen at hm1
   go_loop [26] (fun i => ∃ k : Nat, k ≤ L.length ∧ i = .int .i64 k ∧ (L.take k).all label = true) (fun i => L.length - (intOf i).toNat)
   case atStart => exact ⟨0, Nat.zero_le _, rfl, rfl⟩
   case round =>
    obtain ⟨k, hk, rfl, hb⟩ := hrel
    have HB := κ hb; clear hb
    by_cases hlt : k < L.length
    ·obtain ⟨b, off, rfl, hb1, hc1⟩ := C1.out (by omega)
     have x1 := hc1 k hlt
     have k0 : (0 : Int) ≤ (k : Int) := by omega
     have k1 : (k : Int) < (L.length : Int) := by omega
     clear hc1
     have HX := κ (fun h => HN.out.trans (labels_bad L k hlt h))
     have HY := κ (fun h => labels_next L k hlt h HB.out)
     have hps := HBD.out _ (List.getElem_mem hlt)
     obtain ⟨P, hP⟩ : ∃ P, P = bs L[k] := ⟨_, rfl⟩
     have hPu : L[k] = us P := by rw [hP]; simp
     rw [← hP] at x1
     rw [hPu] at HX HY hps
     rw [length_us] at hps
     clear hP hPu
     have HA := κ (fun wx => all_c P (by omega) 67 wx)
     rw [allc_67] at HA
     by_cases pz : P.size = 0
     ·have HF := κ (HX.out (label_zero P pz))
      obtain rfl := eq_empty pz
      go_wp2
      all_goals
       go_ret
       exact ⟨ret_bool (by rw [HF.out]), HW.out⟩
     have pE := ne_empty pz
     have pF := isEmpty_f pz
     have p0 : 0 < P.size := by omega
     cases ha : allc 64 (us P) with
     | false =>
      have HF := κ (HX.out (label_all P ha))
      rw [ha] at HA; clear ha
      go_wp2_with (go_at_call 78; refine (HA.out _).mono ?_; rintro e w3 ⟨rfl, rfl⟩)
      go_ret
      exact ⟨ret_bool (by rw [HF.out]), HW.out⟩
     | true =>
      by_cases d0 : P[0].toNat = 45
      ·have HF := κ (HX.out (label_head P p0 d0))
       have t2 : ((P[0].toNat : Int) == 45) = true := by simp [d0]
       rw [ha] at HA; clear ha d0
       go_wp2_with (go_at_call 78; refine (HA.out _).mono ?_; rintro e w3 ⟨rfl, rfl⟩)
       go_ret
       exact ⟨ret_bool (by rw [HF.out]), HW.out⟩
      have t2 : ((P[0].toNat : Int) == 45) = false := by simp; omega
      have q1 : P.size - 1 < P.size := by omega
      have q2 : (0 : Int) ≤ (P.size : Int) - 1 := by omega
      have q3 : ((P.size : Int) - 1).toNat = P.size - 1 := by omega
      by_cases d1 : P[P.size - 1].toNat = 45
      ·have HF := κ (HX.out (label_last P p0 d1))
       have t3 : ((P[P.size - 1].toNat : Int) == 45) = true := by simp [d1]
       rw [ha] at HA; clear ha d0 d1
       go_wp2_with (go_at_call 78; refine (HA.out _).mono ?_; rintro e w3 ⟨rfl, rfl⟩)
       go_ret
       exact ⟨ret_bool (by rw [HF.out]), HW.out⟩
      ·have t3 : ((P[P.size - 1].toNat : Int) == 45) = false := by simp; omega
       have HG := κ (HY.out (label_yes P p0 ha d0 d1))
       rw [ha] at HA; clear ha d0 d1
       go_wp2_with (go_at_call 78; refine (HA.out _).mono ?_; rintro e w3 ⟨rfl, rfl⟩)
       go_round
       case rel => exact ⟨k + 1, by omega, by go_num, HG.out⟩
       case measure => simp [intOf]; omega
    ·have hE2 : L.take k = L := List.take_of_length_le (by omega)
     rw [hE2] at HB
     clear hE2
     go_wp2
     go_ret
     exact ⟨ret_bool (by rw [HN.out, HB.out]), HW.out⟩
end
section
open Go.RowKit
theorem cutb_le (c : UInt8) : ∀ l : List UInt8, (cutb c l).1.length ≤ l.length ∧ (cutb c l).2.1.length ≤ l.length
 | [] => ⟨ρ _, ρ _⟩
 | x :: r => by
  by_cases hx : x.toNat = c.toNat
  ·rw [cutb, if_pos hx]; simp
  ·rw [cutb, if_neg hx]
   have := cutb_le c r
   simp; omega
theorem splitc_len (c : UInt8) : ∀ l : List UInt8, (splitc c l).length ≤ l.length + 1
 | [] => ρ _
 | x :: r => by
  have := splitc_len c r
  have h1 : 1 ≤ (splitc c r).length := by rw [splitc_cut]; simp
  rw [splitc]; split <;> simp <;> omega
def more (c : UInt8) (l : List UInt8) (m : Bool) : List (List UInt8) := if m = true then splitc c l else []
end
end Go.Proofs.YtipdiddjhimdcaaGreatDoor
namespace Go.Proofs.YtipdiddjhimdcaaGreatDoor
open Go.RowKit
theorem get_bang (s : ByteArray) (i : Nat) (h : i < s.size) : s.get! i = s[i]'h := get_at s i h
theorem decode_cont (s : ByteArray) (pos : Nat) (h : pos < s.size) (ha : 128 ≤ (s[pos]'h).toNat) (k : Nat) (h2 : k < (Utf8.decode s pos).2) (hj : pos + k < s.size) : 128 ≤ (s[pos + k]'hj).toNat := by
 have hn : ¬ (s[pos]'h).toNat < 128 := by omega
 have h0 := get_bang s pos h
 rw [← get_bang s (pos + k) hj]
 have ha' : 128 ≤ (s.get! pos).toNat := by rw [h0]; exact ha
 simp only [Utf8.decode, get_at s pos h, hn, if_false] at h2
 repeat' split at h2
 all_goals
  simp only [Bool.and_eq_true, beq_iff_eq, decide_eq_true_eq] at *
  have hk : k = 0 ∨ k = 1 ∨ k = 2 ∨ k = 3 := by omega
  rcases hk with rfl | rfl | rfl | rfl
 all_goals first
  | (simpa using ha')
  | (exfalso; omega)
  | omega
theorem validRune_c (r : Int) (w : World) : Calls Tryz.prog 189 #[.int .i32 r] w fun e w' => e = .returned (.bool (Utf8.valid r)) ∧ w = w' := by
 have HV := κ (show Utf8.valid r = (decide (0 ≤ r) && decide (r < 55296) || decide (57344 ≤ r) && decide (r ≤ 1114111)) from rfl)
 by_cases h0 : 0 ≤ r <;> by_cases h1 : r < 55296 <;> by_cases h2 : 57343 < r <;> by_cases h3 : r ≤ 1114111
 all_goals
  have HX := κ HV.out
  go_enter Tryz.func189, Tryz.ntmps189
  go_wp2
  all_goals
   go_ret
   refine ⟨ret_bool ?_, rfl⟩
   rw [HX.out]
   simp only [Bool.true_eq, Bool.false_eq, Bool.or_eq_true, Bool.and_eq_true, decide_eq_true_eq, Bool.or_eq_false_iff, Bool.and_eq_false_iff, decide_eq_false_iff_not]
   first | omega | (constructor <;> omega)
theorem quiet_same2 {P : Program} {f : FuncId} {args : Array Value} {w : World} {k n : Nat} {v : Value}
  (h : Calls P f args (w.drewN (k + n)) fun e w' => e = .returned v ∧ w.drewN (k + n) = w') : Calls P f args (w.drewN (k + n)) fun e w'' => e = .returned v ∧ ∃ m, w'' = w.drewN (k + m) :=
 h.mono fun _ _ ⟨a, b⟩ => ⟨a, n, b.symm⟩
set_option maxHeartbeats 6400000 in
theorem indexRune_high (T : ByteArray) (hT : T = ⟨#[32, 9]⟩) (r : Int) (h0 : 128 ≤ r) (h1 : r ≤ 2147483647) (w : World) :
  Calls Tryz.prog 155 #[.string T, .int .i32 r] w fun e w' => e = .returned (.int .i64 (-1)) ∧ Below w.heap.size w w' := by
 have hz : ¬ (r < 128) := by omega
 have h00 : (0 : Int) ≤ r := by omega
 by_cases hR : r = 65533
 ·subst hR
  subst hT
  have n0 := fun ty => run_next_ascii (P := Tryz.prog) w ⟨#[32, 9]⟩ 0 ty (by decide) (by decide)
  have n1 := fun ty => run_next_ascii (P := Tryz.prog) w ⟨#[32, 9]⟩ 1 ty (by decide) (by decide)
  have n2 := run_next_end (P := Tryz.prog) w ⟨#[32, 9]⟩ 2
  go_enter Tryz.func155, Tryz.ntmps155
  go_wp2
  go_loopg [5, 6] 2 (fun g _ _ wx => ∃ i : Nat, i + g = 2 ∧ wx = w.iter ⟨#[32, 9]⟩ i)
  case atStart => exact ⟨0, rfl, rfl⟩
  case round =>
   obtain ⟨i, hig, rfl⟩ := hrel
   have hi : i = 0 ∨ i = 1 ∨ i = 2 := by omega
   rcases hi with rfl | rfl | rfl
   ·obtain rfl : gk = 2 := by omega
    go_wp2
    go_roundg 1
    case measure => omega
    case rel => exact ⟨1, rfl, rfl⟩
   ·obtain rfl : gk = 1 := by omega
    go_wp2
    go_roundg 0
    case measure => omega
    case rel => exact ⟨2, rfl, rfl⟩
   ·go_wp2
    go_ret
    exact ⟨rfl, (Below.refl _ _).alloc (ρ _) _⟩
 ·have hRb : (r == 65533) = false := by simpa using hR
  have HVR := κ (fun wx => validRune_c r wx)
  cases hv : Utf8.valid r
  ·rw [hv] at HVR
   clear hv
   go_enter Tryz.func155, Tryz.ntmps155
   go_wp2_with (go_at_call 189; refine (HVR.out _).mono ?_; rintro e wx ⟨rfl, rfl⟩)
   go_ret
   exact ⟨rfl, Below.refl _ _⟩
  ·obtain ⟨e1, e2, e3⟩ := encode_facts r hv h0
   rw [hv] at HVR
   clear hv
   obtain ⟨S, hS⟩ : ∃ S, Utf8.encode r = S := ⟨_, rfl⟩
   rw [hS] at e1 e2 e3
   by_cases h2 : S.size = 2
   ·have p1 : 1 < S.size := by omega
    have zS : (S.size : Int) = 2 := by omega
    have hb : 128 ≤ (S[1]'p1).toNat := by
     have := e3 (by omega)
     simpa [h2] using this
    have z1 : 1 < T.size := by rw [hT]; decide
    have q1 : ((((T[1]'z1).toNat : Int)) == ((S[1]'p1).toNat : Int)) = false := by subst hT; show ((9 : Int) == _) = false; simp; omega
    have HI := κ (fun wx => show Calls Tryz.prog 58 #[.string (T.extract 2 T.size), .int .u8 ((S[1]'p1).toNat : Int)] wx fun e w' => e = .returned (.int .i64 (-1)) ∧ wx = w' from
     (Tryz.strings_IndexByte _ ((S[1]'p1).toNat : Int) wx).mono fun e w' ⟨a, b⟩ => ⟨a.trans (by rw [hT]; rfl), b.symm⟩)
    have z2 : (T.size : Int) = 2 := by rw [hT]; rfl
    have w2 : IntKind.i64.wrap 2 = 2 := by decide
    have q3 : ((((T[1]'z1).toNat : Int)) != ((S[1]'p1).toNat : Int)) = true := by simpa using q1
    clear hT e1 e2 e3 h2 hb
    go_enter Tryz.func155, Tryz.ntmps155
    go_wp2_with (go_at_call 189; refine (HVR.out _).mono ?_; rintro e wx ⟨rfl, rfl⟩)
    go_wp2
    go_step3
    go_wp2
    go_loopg [9] 0 (fun _ x wr => x = .int .i64 1 ∧ wr = w)
    case atStart => exact ⟨rfl, rfl⟩
    case round =>
     obtain ⟨rfl, rfl⟩ := hrel
     go_wp2
     go_step3
     go_wp2
     go_quiet (fail)
     go_wp2
     go_quiet ((go_at_call 58; exact quiet_same2 (HI.out _)))
     go_wp2
     rw [Exit.noGoto_ret]
     simp only [Exit.inBlock, Exit.then, Exit.noGoto_ret]
     go_ret
     exact ⟨rfl, Drn.below ⟨_, rfl⟩⟩
   ·have h3 : ¬ ((S.size : Int) - 1 < 2) := by omega
    have w1 : IntKind.i64.wrap ((S.size : Int) - 1) = (S.size : Int) - 1 := IntWalk.i64_in _ (by omega)
    clear e1 e2 e3 h2
    have z2 : (T.size : Int) = 2 := by rw [hT]; rfl
    clear hT
    go_enter Tryz.func155, Tryz.ntmps155
    go_wp2_with (go_at_call 189; refine (HVR.out _).mono ?_; rintro e wx ⟨rfl, rfl⟩)
    go_wp2
    go_step3
    go_wp2
    go_loopg [9] 0 (fun _ x wr => x = .int .i64 ((S.size : Int) - 1) ∧ wr = w)
    case atStart => exact ⟨rfl, rfl⟩
    case round =>
     obtain ⟨rfl, rfl⟩ := hrel
     go_wp2
     rw [Exit.noGoto_ret]
     go_ret
     exact ⟨rfl, Below.refl _ _⟩
theorem blank_idx (c : UInt8) : decide ((0 : Int) ≤ Lib.indexByte [32, 9] c) = blank c :=
 all_bytes (fun c => decide ((0 : Int) ≤ Lib.indexByte [32, 9] c) = blank c) (by decide +kernel) c
theorem blank_high (c : UInt8) (h : 128 ≤ c.toNat) : blank c = false := by
 have := all_bytes (fun c => 128 ≤ c.toNat → blank c = false) (by decide +kernel) c
 exact this h
theorem any_more (s : ByteArray) (i : Nat) (hi : i < s.size) (hp : ((us s).take i).any blank = false) (hb : blank s[i] = false) : ((us s).take (i + 1)).any blank = false := by
 rw [take_us s i hi, List.any_append, hp]; simp [hb]
theorem any_hit (s : ByteArray) (i : Nat) (hi : i < s.size) (hb : blank s[i] = true) : (us s).any blank = true :=
 List.any_eq_true.2 ⟨_, by have := get_us s i hi; exact List.mem_of_getElem? this, hb⟩
theorem any_high (s : ByteArray) (i : Nat) (hi : i < s.size) (ha : 128 ≤ (s[i]'hi).toNat) (hp : ((us s).take i).any blank = false) : ∀ n, n ≤ (Utf8.decode s i).2 → ((us s).take (i + n)).any blank = false
 | 0, _ => hp
 | n + 1, hn => by
  have ih := any_high s i hi ha hp n (by omega)
  by_cases hj : i + n < s.size
  ·exact any_more s (i + n) hj ih (blank_high _ (decode_cont s i hi ha n (by omega) hj))
  ·rw [take_all s _ (by omega)] at ih
   rw [take_all s _ (by omega)]; exact ih
set_option maxHeartbeats 6400000 in
theorem indexAny_short (T : ByteArray) (hT : T = ⟨#[32, 9]⟩) (s : ByteArray) (h8 : s.size ≤ 8) (w : World) :
  Calls Tryz.prog 102 #[.string s, .string T] w fun e w' => ∃ i, e = .returned (.int .i64 i) ∧ decide (0 ≤ i) = (us s).any blank ∧ Below w.heap.size w w' := by
 have HT := κ hT
 have hemp : T.toList.isEmpty = false := by rw [hT, isEmpty_us]; rfl
 have hn1 : ((T.size : Int) == 1) = false := by rw [hT]; rfl
 have h8z : decide ((8 : Int) < (s.size : Int)) = false := decide_eq_false (by omega)
 have HA := κ (fun (x : UInt8) (hx : x.toNat < 128) wx => show Calls Tryz.prog 155 #[.string T, .int .i32 x.toNat] wx fun e w' => e = .returned (.int .i64 (Lib.indexByte [32, 9] x)) ∧ wx = w' from
  (Tryz.strings_IndexRune_ascii T x.toNat wx (by omega) (by omega)).mono fun e w' ⟨a, b⟩ => ⟨a.trans (by rw [hT]; simp), b.symm⟩)
 have HH := κ (fun r h0 h1 wx => indexRune_high T hT r h0 h1 wx)
 clear hT
 go_enter Tryz.func102, Tryz.ntmps102
 go_wp2_with (go_at_call 156; refine (Tryz.strings_shouldUseASCIISet _ _).mono ?_; rintro e w' ⟨rfl, hw⟩; rw [hw, h8z])
 go_loopg [9, 10] s.size (fun g _ _ wx => ∃ i : Nat, s.size ≤ i + g ∧ wx.heap[w.heap.size]? = some (.stringIter s i) ∧ Below w.heap.size w wx ∧ ((us s).take i).any blank = false)
 case atStart => exact ⟨0, by omega, World.iter_heap _ _ _, (Below.refl _ _).alloc (ρ _) _, rfl⟩
 case round =>
  obtain ⟨i, hig, hit, hB, hno⟩ := hrel
  have HN := κ hno
  have HIT := κ hit
  have HB := κ hB
  clear hno hB
  by_cases hi : i < s.size
  ·cases gk with
   | zero => omega
   | succ g =>
    obtain ⟨x, hx⟩ : ∃ x : UInt8, s[i]'hi = x := ⟨_, rfl⟩
    by_cases hx128 : x.toNat < 128
    ·have hnx := fun ty => Lib.run_next_ascii_at (P := Tryz.prog) wr w.heap.size s i ty hit hi (by rw [hx]; exact hx128)
     rw [hx] at hnx
     have HA' := κ (HA.out x hx128)
     have hbi := blank_idx x
     cases hin : blank x
     ·have HB2 := κ (any_more s i hi HN.out (by rw [hx]; exact hin))
      rw [hin] at hbi
      have hlt : ¬ ((0 : Int) ≤ Lib.indexByte [32, 9] x) := of_decide_eq_false hbi
      obtain ⟨z, hz⟩ : ∃ z, z = Lib.indexByte [32, 9] x := ⟨_, rfl⟩
      rw [← hz] at HA' hlt
      clear hbi hin hx hit hz
      go_wp2_with (go_at_call 155; refine (HA'.out _).mono ?_; rintro e w' ⟨rfl, rfl⟩)
      go_roundg g
      case measure => omega
      case rel => exact ⟨i + 1, by omega, Lib.iterAt_heap _ _ _ _ _ HIT.out, Lib.below_iterAt HB.out (ρ _) _ _, HB2.out⟩
     ·have HB2 := κ (any_hit s i hi (by rw [hx]; exact hin))
      rw [hin] at hbi
      have hge : ((0 : Int) ≤ Lib.indexByte [32, 9] x) := of_decide_eq_true hbi
      obtain ⟨z, hz⟩ : ∃ z, z = Lib.indexByte [32, 9] x := ⟨_, rfl⟩
      rw [← hz] at HA' hge
      clear hbi hin hx hit hz
      go_wp2_with (go_at_call 155; refine (HA'.out _).mono ?_; rintro e w' ⟨rfl, rfl⟩)
      go_ret
      exact ⟨_, rfl, by rw [HB2.out]; exact decide_eq_true (by omega), Lib.below_iterAt HB.out (ρ _) _ _⟩
    ·have hnx := fun ty => Lib.run_next_any_at (P := Tryz.prog) wr w.heap.size s i ty hit hi
     have hr := decode_high s i hi (by rw [hx]; omega)
     have hr2 := decode_le s i
     have HB2 := κ (any_high s i hi (by rw [hx]; omega) HN.out _ (ρ _))
     obtain ⟨d, hd⟩ : ∃ d, d = Utf8.decode s i := ⟨_, rfl⟩
     rw [← hd] at hnx hr hr2 HB2
     obtain ⟨r, wd⟩ := d
     dsimp only at hnx hr hr2 HB2
     have HA' := κ (HH.out (r : Int) (by omega) (by omega))
     have hm1 : ¬ ((0 : Int) ≤ -1) := by decide
     have hw1 : 1 ≤ wd := hr.2
     clear hd hx hit hx128 hr hr2
     go_wp2_with (go_at_call 155; refine (HA'.out _).mono ?_; rintro e w' ⟨rfl, hC⟩)
     go_roundg g
     case measure => omega
     case rel =>
      refine ⟨i + wd, by omega, ?_, ?_, HB2.out⟩
      ·rw [hC.block _ (by rw [Lib.iterAt_size]; exact (Array.getElem?_eq_some_iff.1 HIT.out).1)]
       exact Lib.iterAt_heap _ _ _ _ _ HIT.out
      ·have h1 := Lib.below_iterAt HB.out (ρ _) s (i + wd)
       exact h1.trans (hC.mono h1.size)
  ·have hnx := fun ty => Lib.run_next_end_at (P := Tryz.prog) wr w.heap.size s i ty hit hi
   have HB2 := κ (show (us s).any blank = false by rw [← take_all s i (by omega)]; exact HN.out)
   clear hit
   go_wp2
   go_ret
   exact ⟨_, rfl, by rw [HB2.out]; rfl, HB.out⟩
theorem indexAny_any (l : List UInt8) : decide ((0 : Int) ≤ Lib.indexAny l [32, 9]) = l.any blank := by
 induction l with
 | nil => rfl
 | cons c r ih =>
  have hb := all_bytes (fun c => ([32, 9] : List UInt8).contains c = blank c) (by decide +kernel) c
  have hg := Lib.indexAny_ge [32, 9] r
  rw [Lib.indexAny, hb, List.any_cons, ← ih]
  cases blank c
  ·simp only [Bool.false_or, Bool.false_eq_true, if_false]
   by_cases h : Lib.indexAny r [32, 9] = -1
   ·rw [h]; rfl
   ·rw [if_neg (by simpa using h)]
    rw [decide_eq_decide]; omega
  ·rfl
theorem indexAny_c (T : ByteArray) (hT : T = ⟨#[32, 9]⟩) (s : ByteArray) (hs : s.size < 4294967281) (w : World) :
  Calls Tryz.prog 102 #[.string s, .string T] w fun e w' => ∃ i, e = .returned (.int .i64 i) ∧ decide (0 ≤ i) = (us s).any blank ∧ Below w.heap.size w w' := by
 by_cases h8 : s.size ≤ 8
 ·exact indexAny_short T hT s h8 w
 ·subst hT
  refine (Tryz.strings_IndexAny_long (zero_of_info (show (Tryz.prog.info? 157).map (fun i => (i.zero, i.size)) = some (some (.agg (Array.replicate 256 (.bool false))), 256) by kernel_rfl)).1 s ⟨#[32, 9]⟩ w (by decide) (by omega) hs (by decide) ?_).mono ?_
  ·intro j b hj
   have : b ∈ ([32, 9] : List UInt8) := List.mem_of_getElem? hj
   simp only [List.mem_cons, List.not_mem_nil, or_false] at this
   rcases this with rfl | rfl <;> decide
  ·rintro e w' ⟨rfl, rfl⟩
   exact ⟨_, rfl, indexAny_any _, ((Below.refl _ _).alloc (ρ _) _).alloc (by simp) _⟩
theorem containsAny_c (s : ByteArray) (hs : s.size < 4294967281) (w : World) :
  Calls Tryz.prog 57 #[.string s, .string ⟨#[32, 9]⟩] w fun e w' => e = .returned (.bool ((us s).any blank)) ∧ Below w.heap.size w w' := by
 have H := κ (indexAny_c _ rfl s hs w)
 go_enter Tryz.func57, Tryz.ntmps57
 go_wp2_with (go_at_call 102; refine H.out.mono ?_; rintro e wx ⟨i, rfl, hi, hB⟩; have HI := κ hi; clear hi)
 go_ret
 exact ⟨ret_bool HI.out, hB⟩
end Go.Proofs.YtipdiddjhimdcaaGreatDoor
