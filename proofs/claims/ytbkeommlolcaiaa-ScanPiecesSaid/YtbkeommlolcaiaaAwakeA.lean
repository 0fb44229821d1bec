/-
  The chapter's examples hold.
-/
import Derived.Test.YtbkeommlolcaiaaScanL
namespace Go.Proofs.Ytbkeommlolcaiaa
open Go.RowKit

theorem aw1 (w : World) : Calls Try.prog 15 #[.string ⟨#[48, 48, 55]⟩, .int .i64 9] w fun e w' => e = .returned (.tuple #[.int .i64 7, .int .i64 0]) ∧ w = w' :=
  number_c ⟨#[48, 48, 55]⟩ (by decide) 9 (by omega) (by omega) w
theorem aw2 (w : World) : Calls Try.prog 15 #[.string ⟨#[49, 48]⟩, .int .i64 9] w fun e w' => e = .returned (.tuple #[.int .i64 0, .int .i64 9]) ∧ w = w' :=
  number_c ⟨#[49, 48]⟩ (by decide) 9 (by omega) (by omega) w
theorem aw3 (w : World) : Calls Try.prog 19 #[.string ⟨#[97, 34, 98]⟩] w fun e w' => e = .returned (.tuple #[.string ⟨#[34, 97, 92, 34, 98, 34]⟩, .int .i64 0]) ∧ Below w.heap.size w w' :=
  quote_c ⟨#[97, 34, 98]⟩ (by decide) w
theorem aw4 (w : World) : Calls Try.prog 35 #[.int .u8 102] w fun e w' => e = .returned (.int .i64 94) ∧ w = w' := class_c 102 w
theorem aw5 (w : World) : Calls Try.prog 33 #[.string ⟨#[97, 32, 98]⟩, .string ⟨#[]⟩] w fun e w' => e = .returned (.string ⟨#[97, 37, 50, 48, 98]⟩) ∧ Below w.heap.size w w' :=
  escape_c ⟨#[97, 32, 98]⟩ ⟨#[]⟩ (by decide) (by decide) w
theorem aw6 (w : World) : Calls Try.prog 11 #[.string ⟨#[97, 44, 34, 98, 44, 99, 34, 44, 60, 100, 44, 101, 62]⟩, .int .u8 44] w fun e w' => ∃ ao cap, e = .returned (.slice ao 3 cap) ∧ Below w.heap.size w w' := by
  refine (parts_c ⟨#[97, 44, 34, 98, 44, 99, 34, 44, 60, 100, 44, 101, 62]⟩ (by decide) 44 w).mono ?_
  rintro e w' ⟨v, rfl, hv, hB⟩
  have hL : (parts (us ⟨#[97, 44, 34, 98, 44, 99, 34, 44, 60, 100, 44, 101, 62]⟩) 44).length = 3 := by decide
  obtain ⟨ao, cap, rfl, _, _⟩ := hv.form
  rw [hL]
  exact ⟨ao, cap, rfl, hB⟩

set_option maxHeartbeats 1600000 in
theorem awake_c (w : World) : Calls Try.prog 13 #[] w fun e w' => e = .returned (.bool true) ∧ Below w.heap.size w w' := by
  go_enter Try.func13, Try.ntmps13
  go_wp2_with fail
  refine (aw1 _).mono ?_
  rintro e w' ⟨rfl, rfl⟩
  go_wp2_with fail
  refine (aw2 _).mono ?_
  rintro e w' ⟨rfl, rfl⟩
  go_wp2_with fail
  refine (aw3 _).mono ?_
  rintro e w1 ⟨rfl, hB1⟩
  go_wp2_with fail
  refine (aw4 _).mono ?_
  rintro e w' ⟨rfl, rfl⟩
  go_wp2_with fail
  refine (aw5 _).mono ?_
  rintro e w2 ⟨rfl, hB2⟩
  go_wp2_with fail
  refine (aw6 _).mono ?_
  rintro e w3 ⟨ao, cap, rfl, hB3⟩
  go_wp2_with fail
  go_ret
  exact ⟨rfl, hB1.trans ((hB2.mono hB1.size).trans (hB3.mono (Nat.le_trans hB1.size hB2.size)))⟩

end Go.Proofs.Ytbkeommlolcaiaa
