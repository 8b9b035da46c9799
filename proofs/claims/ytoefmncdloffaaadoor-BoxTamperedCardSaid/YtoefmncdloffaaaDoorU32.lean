
/-
  The model's arithmetic on uint32 and bytes, as Lean's UInt32 and UInt8 have it.
-/
import Derived.WalkKit
import Derived.Laws.BitsAllLaws
namespace Go.Proofs.YtoefmncdloffaaaDoor
open Go.RowKit

theorem lt32 (a : UInt32) : 0 ≤ (a.toNat : Int) ∧ (a.toNat : Int) < 4294967296 := by have := a.toNat_lt; omega
theorem lt8 (a : UInt8) : 0 ≤ (a.toNat : Int) ∧ (a.toNat : Int) < 256 := by have := a.toNat_lt; omega
theorem or32 (a b : UInt32) : bits BinOp.or IntKind.u32 (a.toNat : Int) (b.toNat : Int) = ((a ||| b).toNat : Int) := by
  rw [u32_or _ _ (lt32 a).1 (lt32 a).2 (lt32 b).1 (lt32 b).2]; simp
theorem and32 (a b : UInt32) : bits BinOp.and IntKind.u32 (a.toNat : Int) (b.toNat : Int) = ((a &&& b).toNat : Int) := by
  rw [u32_and _ _ (lt32 a).1 (lt32 a).2 (lt32 b).1 (lt32 b).2]; simp
theorem xor32 (a b : UInt32) : bits BinOp.xor IntKind.u32 (a.toNat : Int) (b.toNat : Int) = ((a ^^^ b).toNat : Int) := by
  rw [u32_xor _ _ (lt32 a).1 (lt32 a).2 (lt32 b).1 (lt32 b).2]; simp
theorem add32 (a b : UInt32) : ((a.toNat : Int) + (b.toNat : Int)) % 4294967296 = ((a + b).toNat : Int) := by
  rw [UInt32.toNat_add]; omega
theorem xor8 (a b : UInt8) : bits BinOp.xor IntKind.u8 (a.toNat : Int) (b.toNat : Int) = ((a ^^^ b).toNat : Int) := by
  rw [u8_xor _ _ (lt8 a).1 (lt8 a).2 (lt8 b).1 (lt8 b).2]; simp
theorem shr32 (a : UInt32) (n : Nat) (hn : n < 32) : (a.toNat : Int) / 2 ^ n = ((a >>> UInt32.ofNat n).toNat : Int) := by
  rw [UInt32.toNat_shiftRight, Nat.shiftRight_eq_div_pow]
  have : (UInt32.ofNat n).toNat % 32 = n := by simp; omega
  rw [this]
  simp
theorem shl32 (a : UInt32) (n : Nat) (hn : n < 32) : (a.toNat : Int) * 2 ^ n % 4294967296 = ((a <<< UInt32.ofNat n).toNat : Int) := by
  rw [UInt32.toNat_shiftLeft, Nat.shiftLeft_eq]
  have : (UInt32.ofNat n).toNat % 32 = n := by simp; omega
  rw [this]
  simp

theorem addW (a b : UInt32) : IntKind.u32.wrap ((a.toNat : Int) + (b.toNat : Int)) = ((a + b).toNat : Int) := by rw [IntKind.wrap_u32]; exact add32 a b
theorem not32 (a : UInt32) : bits BinOp.xor IntKind.u32 IntKind.u32.max (a.toNat : Int) = ((~~~a).toNat : Int) := by
  rw [show IntKind.u32.max = (((-1 : UInt32)).toNat : Int) from rfl, xor32, UInt32.neg_one_xor]

end Go.Proofs.YtoefmncdloffaaaDoor
