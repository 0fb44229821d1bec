/-
  Escapes read and written by the reference.
-/
import Derived.Test.YteiafgoigfehgaaDoorScanH
import Derived.Test.YteiafgoigfehgaaDoorMem2
namespace Go.Proofs.YteiafgoigfehgaaDoor
open Go.RowKit

theorem hex_add (a b : Nat) (ha : a < 16) (hb : b < 16) : IntKind.u8.wrap (IntKind.i64.wrap (IntKind.i64.wrap (16 * (a : Int)) + (b : Int))) = ((UInt8.ofNat (16 * a + b)).toNat : Int) := by
  have := (by decide +kernel : ∀ a b : Fin 16, IntKind.u8.wrap (IntKind.i64.wrap (IntKind.i64.wrap (16 * (a.val : Int)) + (b.val : Int))) = ((UInt8.ofNat (16 * a.val + b.val)).toNat : Int))
  exact this ⟨a, ha⟩ ⟨b, hb⟩

theorem sixt_get {P : Program} {ty : TypeId} (hty : P.underlying ty = some .string) (c : UInt8) (wx : World) :
    (Instr.index ty (.string ⟨#[48, 49, 50, 51, 52, 53, 54, 55, 56, 57, 65, 66, 67, 68, 69, 70]⟩) (.int .i64 ((c.toNat : Int) / 16))).run P wx = .ok (.int .u8 (hexd (c.toNat / 16)).toNat) wx ∧
    (Instr.index ty (.string ⟨#[48, 49, 50, 51, 52, 53, 54, 55, 56, 57, 65, 66, 67, 68, 69, 70]⟩) (.int .i64 ((c.toNat : Int) % 16))).run P wx = .ok (.int .u8 (hexd (c.toNat % 16)).toNat) wx :=
  ⟨sixt_run hty .i64 (c.toNat / 16) (by have := c.toNat_lt; omega) (by omega) wx, sixt_run hty .i64 (c.toNat % 16) (by omega) (by omega) wx⟩

end Go.Proofs.YteiafgoigfehgaaDoor
