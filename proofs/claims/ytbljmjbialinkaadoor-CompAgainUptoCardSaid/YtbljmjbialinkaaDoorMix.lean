/-
  comp: how a mixer lies in memory; comp.free.
-/
import Derived.Test.YtbljmjbialinkaaDoorPck
import Derived.WideKeyEntry
namespace Go.Proofs.YtbljmjbialinkaaDoor
set_option linter.unusedSimpArgs false
set_option linter.unusedVariables false
open Go.RowKit Go.Sort Go.Maps

/-- the name of the k-th try -/
def candP (n : Int) (k : Nat) : List UInt8 := if k ≤ 1000 then 112 :: (digits n ++ 45 :: digits (k : Int)) else List.replicate k 0
theorem digits_apart : ∀ {j k : Nat}, j ≤ 1000 → k ≤ 1000 → digits (j : Int) = digits (k : Int) → j = k := by
  intro j k hj hk h
  have h1 := valF_digits (j : Int) (by omega) (by omega)
  have h2 := valF_digits (k : Int) (by omega) (by omega)
  rw [h] at h1
  omega
theorem candP_inj (n : Int) (j k : Nat) (h : candP n j = candP n k) : j = k := by
  unfold candP at h
  have l1 := digits_len n
  by_cases hj : j ≤ 1000 <;> by_cases hk : k ≤ 1000
  · rw [if_pos hj, if_pos hk] at h
    injection h with _ h
    have := List.append_cancel_left h
    injection this with _ this
    exact digits_apart hj hk this
  · rw [if_pos hj, if_neg hk] at h
    have := congrArg List.length h
    have l2 := digits_len (j : Int)
    simp only [List.length_cons, List.length_append, List.length_replicate] at this
    omega
  · rw [if_neg hj, if_pos hk] at h
    have := congrArg List.length h
    have l2 := digits_len (k : Int)
    simp only [List.length_cons, List.length_append, List.length_replicate] at this
    omega
  · rw [if_neg hj, if_neg hk] at h
    have := congrArg List.length h
    simpa using this
theorem candP_len (n : Int) (k : Nat) (hk : k ≤ 1000) : (candP n k).length ≤ 42 := by
  unfold candP
  rw [if_pos hk]
  have l1 := digits_len n
  have l2 := digits_len (k : Int)
  simp only [List.length_cons, List.length_append]
  omega
theorem candP_bs (n : Int) (k : Nat) (hk : k ≤ 1000) : (((⟨#[112]⟩ : ByteArray) ++ bs (digits n)) ++ (⟨#[45]⟩ : ByteArray)) ++ bs (digits (k : Int)) = bs (candP n k) := by
  apply us_inj
  rw [us_append, us_append, us_append, us_bs, us_bs, us_bs]
  unfold candP
  rw [if_pos hk]
  simp [us]

set_option maxRecDepth 100000 in
set_option maxHeartbeats 6400000 in
theorem free_c (g kn n : Nat) (D : DataW Unit) (ids : List (List UInt8)) (I : List UInt8) (num : Int) (hI : I.length ≤ 1048576) (hn0 : -9223372036854775808 ≤ num) (hn1 : num ≤ 9223372036854775807) (hl : ids.length ≤ 16) (w : World)
    (hg : w.cell? ⟨g, 3, none⟩ = some (.map (some kn))) (hgl : g < w.heap.size) (hown : w.ownsMap Tryd.prog 9 (plainElem Tryd.prog 3) kn n D) (hC : CntS D ids) :
    Calls Tryd.prog 19 #[.pointer (some ⟨g, 0, none⟩), .string (bs I), .int .i64 num] w fun e w' => ∃ i : List UInt8, e = .returned (.string (bs i)) ∧ i = freeS candP ids num I ∧ i.length ≤ 1048576 ∧ Below w.heap.size w w' := by
  have HG := Lib.hid hg
  have HO := Lib.hid hown
  have HC := Lib.hid hC
  have HD1 := Lib.hid (fun wx => digits_c num hn0 hn1 wx)
  have hlt := hown.lt
  have HS0 : Hid (freeS candP ids num I = freeR candP ids num 1 I) := Lib.hid rfl
  obtain ⟨FS, hFS⟩ : ∃ x, x = freeS candP ids num I := ⟨_, rfl⟩
  rw [← hFS] at HS0 ⊢
  clear hg hown hC hFS
  have HA0 := Lib.hid (freeAt_start candP ids num I)
  go_enter Tryd.func19, Tryd.ntmps19
  go_wp2
  go_loopw [1, 7] (fun x y wr => ∃ (i : List UInt8) (k : Nat), x = .string (bs i) ∧ y = .int .i64 k ∧ k ≤ 18 ∧ i.length ≤ 1048576 ∧ Hid (Below w.heap.size w wr) ∧ Hid (FreeAt candP ids num k i) ∧ Hid (FS = freeR candP ids num k i)) (fun _ y _ => 18 - (intOf y).toNat)
  case atStart => exact ⟨I, 1, rfl, rfl, by decide, hI, Lib.hid (Below.refl _ _), HA0, HS0⟩
  case round =>
    obtain ⟨i, k, rfl, rfl, hk, hi, HB, HA, HF⟩ := hrel
    have hgood : goodS i := by unfold goodS; omega
    have x3 : wr.cell? ⟨g, 3, none⟩ = some (.map (some kn)) := by rw [HB.out.cell (p := ⟨g, 3, none⟩) hgl]; exact HG.out
    have hown := own_below HO.out HB.out hlt
    have hkey := key_str i hgood
    obtain ⟨c1, hrun1, hat1, hwc1⟩ := hown.lookup_int lawS undM undI (zeroI _) hkey
    have hct := cntA_at HC.out i hgood c1 hat1
    have hps := cntN_pos ids i
    unfold sv at hrun1
    clear hat1 hwc1 hkey hown
    by_cases hm : i ∈ ids
    · have hc : (0 : Int) < c1 := by have := hps.2 hm; omega
      obtain ⟨hk2, hnx⟩ := freeR_next candP candP_inj HA.out hm
      have hk17 : k ≤ 17 := by omega
      have k1 : 1 ≤ k := HA.out.1
      have HN := Lib.hid (freeAt_next candP HA.out hm).1
      have HF2 := Lib.hid (HF.out.trans hnx)
      have hcl := candP_len num k (by omega)
      have HCB := Lib.hid (candP_bs num k (by omega))
      have HD2 := Lib.hid (fun wx => digits_c (k : Int) (by omega) (by omega) wx)
      have l1 := digits_len num
      have l2 := digits_len (k : Int)
      obtain ⟨A, hA⟩ : ∃ A, A = bs (digits num) := ⟨_, rfl⟩
      have hAs : A.size ≤ 20 := by rw [hA, size_bs]; exact l1
      rw [← hA] at HD1 HCB
      obtain ⟨B, hB⟩ : ∃ A, A = bs (digits (k : Int)) := ⟨_, rfl⟩
      have hBs : B.size ≤ 20 := by rw [hB, size_bs]; exact l2
      rw [← hB] at HD2 HCB
      have z1 : ((⟨#[112]⟩ : ByteArray) ++ A).size = 1 + A.size := by rw [ByteArray.size_append]; rfl
      have z2 : (((⟨#[112]⟩ : ByteArray) ++ A) ++ (⟨#[45]⟩ : ByteArray)).size = 1 + A.size + 1 := by rw [ByteArray.size_append, z1]; rfl
      clear hps hct hm hnx hA hB l1 l2
      go_wp2_with (first | (go_at_call 24; ((with_reducible refine (HD1.out _).mono ?_); rintro e w1 ⟨rfl, hC1⟩; have hB1 := HB.out.trans (hC1.mono HB.out.size))) | (go_at_call 24; ((with_reducible refine (HD2.out _).mono ?_); rintro e w2 ⟨rfl, hC2⟩; have hB2 := hB1.trans (hC2.mono hB1.size))))
      go_roundw
      case rel => exact ⟨candP num k, k + 1, by rw [← HCB.out], by go_num, by omega, by omega, Lib.hid hB2, HN, HF2⟩
      case measure => simp [intOf]; omega
    · have hc : ¬ (0 : Int) < c1 := by
        intro h
        exact hm (hps.1 (by omega))
      have HE := Lib.hid (HF.out.trans (freeR_end candP ids num k i hm))
      clear hps hct hm
      go_wp2
      go_ret
      exact ⟨i, rfl, HE.out.symm, hi, HB.out⟩

end Go.Proofs.YtbljmjbialinkaaDoor
