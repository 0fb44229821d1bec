/-
  Escapes, of the program and of the reference.
-/
import Derived.Test.YteiafgoigfehgaaDoorScanF
import Derived.Deep.RegionLaw
namespace Go.Proofs.YteiafgoigfehgaaDoor
open Go.RowKit

theorem ebyte_len (keep : List UInt8) (c : UInt8) : (ebyte keep c).length ≤ 3 := by unfold ebyte; split <;> simp

/-- the sixteen digits -/
def sixt : ByteArray := ⟨#[48, 49, 50, 51, 52, 53, 54, 55, 56, 57, 65, 66, 67, 68, 69, 70]⟩
theorem sixt_at (i : Nat) (h : i < 16) : ∃ h' : i < sixt.size, sixt[i] = hexd i :=
  ⟨h, (by decide : ∀ i : Fin 16, sixt[i.val]'i.isLt = hexd i.val) ⟨i, h⟩⟩
theorem run_index_at {P : Program} {ty : TypeId} (hty : P.underlying ty = some .string) (s : ByteArray) (k : IntKind) (i : Nat) (h : i < s.size) (w : World) :
    (Instr.index ty (.string s) (.int k (i : Int))).run P w = .ok (.int .u8 s[i].toNat) w := by
  have : s[i]? = some s[i] := getElem?_pos s i h
  have hi : 0 ≤ (i : Int) ∧ (i : Int) < s.size := by omega
  rw [run_index_string w ty s k (i : Int) hty, dif_pos hi]
  rfl
theorem sixt_run {P : Program} {ty : TypeId} (hty : P.underlying ty = some .string) (k : IntKind) (i : Nat) (h : i < 16) {E : Int} (hE : E = (i : Int)) (w : World) :
    (Instr.index ty (.string ⟨#[48, 49, 50, 51, 52, 53, 54, 55, 56, 57, 65, 66, 67, 68, 69, 70]⟩) (.int k E)).run P w = .ok (.int .u8 (hexd i).toNat) w := by
  obtain ⟨h', e⟩ := sixt_at i h
  rw [hE, ← e]
  exact run_index_at hty sixt k i h' w

theorem hex_and (c : UInt8) : bits BinOp.and IntKind.u8 c.toNat 15 = ((c.toNat % 16 : Nat) : Int) :=
  all_bytes (fun c => bits BinOp.and IntKind.u8 c.toNat 15 = ((c.toNat % 16 : Nat) : Int)) (by decide +kernel) c
theorem testc16 (c : UInt8) (b : Bool) (h : testc 16 c = b) : (bits BinOp.and IntKind.i64 (cls c) 16 != 0) = b := by
  rw [← h]; rfl
theorem ebyte_plain (keep : List UInt8) (c : UInt8) (h : c.toNat ≠ 37) (h' : testc 16 c = true ∨ hasb keep c = true) : ebyte keep c = [c] := by
  unfold ebyte; rw [if_pos ⟨h, h'⟩]
theorem ebyte_esc (keep : List UInt8) (c : UInt8) (h : c.toNat = 37 ∨ (testc 16 c = false ∧ hasb keep c = false)) : ebyte keep c = [37, hexd (c.toNat / 16), hexd (c.toNat % 16)] := by
  unfold ebyte; rw [if_neg]
  rintro ⟨h1, h2⟩
  rcases h with h | ⟨h3, h4⟩
  · exact h1 h
  · rw [h3, h4] at h2; simp at h2
theorem ebyte_cases (keep : List UInt8) (c : UInt8) :
    (((c.toNat : Int) != 37) = true ∧ testc 16 c = true ∧ ebyte keep c = [c]) ∨ (((c.toNat : Int) != 37) = true ∧ testc 16 c = false ∧ hasb keep c = true ∧ ebyte keep c = [c]) ∨
    (((c.toNat : Int) != 37) = true ∧ testc 16 c = false ∧ hasb keep c = false ∧ ebyte keep c = [37, hexd (c.toNat / 16), hexd (c.toNat % 16)]) ∨
    (((c.toNat : Int) != 37) = false ∧ ebyte keep c = [37, hexd (c.toNat / 16), hexd (c.toNat % 16)]) := by
  by_cases h : c.toNat = 37
  · exact .inr (.inr (.inr ⟨by simp; omega, ebyte_esc keep c (.inl h)⟩))
  have hn : ((c.toNat : Int) != 37) = true := by simp; omega
  cases h1 : testc 16 c with
  | true => exact .inl ⟨hn, rfl, ebyte_plain keep c h (.inl h1)⟩
  | false =>
    cases h2 : hasb keep c with
    | true => exact .inr (.inl ⟨hn, rfl, rfl, ebyte_plain keep c h (.inr h2)⟩)
    | false => exact .inr (.inr (.inl ⟨hn, rfl, rfl, ebyte_esc keep c (.inr ⟨h1, h2⟩)⟩))

end Go.Proofs.YteiafgoigfehgaaDoor
