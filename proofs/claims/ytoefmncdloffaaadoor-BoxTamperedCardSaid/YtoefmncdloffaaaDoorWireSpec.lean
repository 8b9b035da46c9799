
/-
  The encodings of integers and byte strings, as plain functions.
-/
import Derived.WalkKit
import Derived.Laws.BitsAllLaws
namespace Go.Proofs.YtoefmncdloffaaaDoor
open Go.RowKit

def zig (n : Int) : Nat := if 0 ≤ n then (2 * n).toNat else (-2 * n - 1).toNat
def varint : Nat → Nat → List UInt8
  | 0, u => [UInt8.ofNat u]
  | f + 1, u => if u < 128 then [UInt8.ofNat u] else UInt8.ofNat (128 + u % 128) :: varint f (u / 128)
def wInt (n : Int) : List UInt8 := varint 9 (zig n)
def wBytes (l : List UInt8) : List UInt8 := wInt l.length ++ l
theorem varint_small {f u : Nat} (h : u < 128) : varint f u = [UInt8.ofNat u] := by cases f with
  | zero => rfl
  | succ f => rw [varint, if_pos h]
theorem varint_big {f u : Nat} (h : ¬ u < 128) : varint (f + 1) u = UInt8.ofNat (128 + u % 128) :: varint f (u / 128) := by rw [varint, if_neg h]
theorem varint_length (f u : Nat) : (varint f u).length ≤ f + 1 := by
  induction f generalizing u with
  | zero => simp [varint]
  | succ f ih =>
    rw [varint]
    split
    · simp
    · simp; exact ih _
theorem wInt_length (n : Int) : (wInt n).length ≤ 10 := varint_length 9 _
theorem wBytes_length (l : List UInt8) : (wBytes l).length ≤ 10 + l.length := by unfold wBytes; have := wInt_length l.length; simp; omega
theorem zig_lt {n : Int} (h1 : -9223372036854775808 ≤ n) (h2 : n < 9223372036854775808) : zig n < 18446744073709551616 := by unfold zig; split <;> omega
theorem or128 : ∀ x, x < 256 → x ||| 128 = 128 + x % 128 := by decide +kernel
theorem or_byte (u : Nat) : bits BinOp.or IntKind.u8 ((u : Int) % 256) 128 = ((UInt8.ofNat (128 + u % 128)).toNat : Int) := by
  rw [u8_or _ _ (by omega) (by omega) (by omega) (by omega)]
  have e : ((u : Int) % 256).toNat = u % 256 := by omega
  rw [e, show (128 : Int).toNat = 128 from rfl, or128 _ (by omega)]
  simp
  omega
theorem byte_mod (u : Nat) : (u : Int) % 256 = ((UInt8.ofNat u).toNat : Int) := by simp

end Go.Proofs.YtoefmncdloffaaaDoor
