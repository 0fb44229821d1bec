/-
  rosterlaw07.awake.
-/
import Derived.Test.YtjohecbmeoalaaaDoorVpa
namespace Go.Proofs.YtjohecbmeoalaaaDoor
open Go.RowKit Go.Sort

def exP : Prm := ⟨nBranch, [122, 57, 104, 71, 52, 98, 75, 49], true⟩
theorem ex_parse : parseV [115, 105, 112, 47, 50, 46, 48, 47, 117, 100, 112, 32, 32, 65, 46, 98, 58, 53, 48, 55, 48, 32, 59, 98, 114, 97, 110, 99, 104, 61, 122, 57, 104, 71, 52, 98, 75, 49] = (⟨[97, 46, 98], 5070, [exP]⟩, 0) := by decide +kernel
theorem ex_branch : branchV ⟨[97, 46, 98], 5070, [exP]⟩ = ([122, 57, 104, 71, 52, 98, 75, 49], true) := by decide +kernel
theorem ex_by : byV ⟨[97, 46, 98], 5070, [exP]⟩ = [97, 46, 98, 58, 53, 48, 55, 48] := by decide +kernel
theorem exP_bd : ∀ p ∈ [exP], p.name.length ≤ 4294967280 := by intro p hp; rw [List.mem_singleton.1 hp]; decide

set_option maxHeartbeats 3200000 in
theorem awake_c (w : World) (hm : Ml w) : Calls Tryd.prog 9 #[] w fun e w' => e = .returned (.bool true) ∧ Below w.heap.size w w' := by
  have HM := Lib.hid hm
  clear hm
  have HP := Lib.hid (fun wx hx => parseV_c ⟨#[115, 105, 112, 47, 50, 46, 48, 47, 117, 100, 112, 32, 32, 65, 46, 98, 58, 53, 48, 55, 48, 32, 59, 98, 114, 97, 110, 99, 104, 61, 122, 57, 104, 71, 52, 98, 75, 49]⟩ (by decide) wx hx)
  unfold HopPost at HP
  rw [show us ⟨#[115, 105, 112, 47, 50, 46, 48, 47, 117, 100, 112, 32, 32, 65, 46, 98, 58, 53, 48, 55, 48, 32, 59, 98, 114, 97, 110, 99, 104, 61, 122, 57, 104, 71, 52, 98, 75, 49]⟩ = [115, 105, 112, 47, 50, 46, 48, 47, 117, 100, 112, 32, 32, 65, 46, 98, 58, 53, 48, 55, 48, 32, 59, 98, 114, 97, 110, 99, 104, 61, 122, 57, 104, 71, 52, 98, 75, 49] from rfl, ex_parse] at HP
  have HB := Lib.hid (fun wx u hu => branchV_c ⟨#[97, 46, 98]⟩ 5070 u [exP] wx hu exP_bd (by decide +kernel))
  have HY := Lib.hid (fun wx u hu => byV_c ⟨#[97, 46, 98]⟩ 5070 u [exP] (by decide) (by decide) (by decide) wx hu)
  rw [show us ⟨#[97, 46, 98]⟩ = [97, 46, 98] from rfl] at HB HY
  rw [ex_branch] at HB
  rw [ex_by] at HY
  dsimp only at HP HB HY
  unfold sv bs at HP
  unfold bs at HB HY
  go_enter Tryd.func9, Tryd.ntmps9
  go_wp2_with (first | (go_at_call 10; refine (HP.out _ HM.out).mono ?_; rintro e w1 ⟨u, rfl, hu, _, hB1⟩; obtain ⟨ao, cp, rfl, _, _⟩ := hu.form; have hZ := hB1.alloc hB1.size (.cells #[.string ⟨#[97, 46, 98]⟩, .int .i64 5070, .slice ao [exP].length cp] 25); have hU := hu.below ((Below.refl _ _).alloc (Nat.le_refl _) (.cells #[.string ⟨#[97, 46, 98]⟩, .int .i64 5070, .slice ao [exP].length cp] 25)) (Nat.le_refl _); clear hu; have bm := Blk.new w1 25 #[.string ⟨#[97, 46, 98]⟩, .int .i64 5070, .slice ao [exP].length cp]; obtain ⟨p0, p1, p2, _, _, _, _⟩ := bm.f3) | (go_at_call 18; refine (HB.out _ _ hU).mono ?_; rintro e w2 ⟨rfl, hC2⟩; have bm := bm.call hC2; obtain ⟨p0, p1, p2, _, _, _, _⟩ := bm.f3; have hU := hU.below hC2 (Nat.le_refl _); have hZ := hZ.trans (hC2.mono hZ.size)) | (go_at_call 22; refine (HY.out _ _ hU).mono ?_; rintro e w3 ⟨rfl, hC3⟩; have hZ := hZ.trans (hC3.mono hZ.size)))
  go_ret
  exact ⟨rfl, hZ⟩

theorem value_le (B : Nat) (n : List UInt8) : ∀ F : List Prm, (∀ p ∈ F, p.value.length ≤ B) → (valueGo n F).1.length ≤ B
  | [], _ => Nat.zero_le _
  | p :: r, h => by
    rw [valueGo]
    split
    · exact h p (List.mem_cons_self ..)
    · exact value_le B n r (fun q hq => h q (List.mem_cons_of_mem _ hq))
theorem textGo_bd : ∀ (L done : List Prm) (s : List UInt8), textGo done L = some s → ∀ p ∈ L, p.name.length ≤ 64 ∧ p.value.length ≤ 64
  | [], _, _, _, p, hp => by cases hp
  | q :: r, done, s, h, p, hp => by
    rw [textGo] at h
    split at h
    · rename_i hm
      cases hq : textGo (done ++ [q]) r with
      | none => rw [hq] at h; cases h
      | some t =>
        rcases List.mem_cons.1 hp with rfl | hp
        · exact mayS_len hm
        · exact textGo_bd r _ t hq p hp
    · cases h
theorem check_bd (v : Hop) (h : checkV v = 0) : v.host.length ≤ 64 ∧ 0 ≤ v.port ∧ v.port ≤ 65535 ∧ ∀ p ∈ v.ps, p.name.length ≤ 64 ∧ p.value.length ≤ 64 := by
  obtain ⟨h1, h2, h3, h4⟩ := check_parts v h
  exact ⟨(host_low _ h1).2.2, h2, h3, textGo_bd _ _ _ (textS_ok v.ps h4).2⟩
theorem same_yes (N : ByteArray) (x : Int) (F : List Prm) (u v : Value) (w : World) (hu : RPrms w u F) (hv : RPrms w v F) :
    Calls Tryd.prog 12 #[.agg #[.string N, .int .i64 x, u], .agg #[.string N, .int .i64 x, v]] w fun e w' => e = .returned (.bool true) ∧ Below w.heap.size w w' := by
  have := sameV_c N x u F N x v F w hu hv
  have e : ((N.toList == N.toList) && (x == x) && (F == F)) = true := by simp
  rw [e] at this
  exact this

end Go.Proofs.YtjohecbmeoalaaaDoor
