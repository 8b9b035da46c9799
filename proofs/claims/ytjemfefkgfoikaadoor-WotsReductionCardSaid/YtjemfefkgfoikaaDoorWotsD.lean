/-
  The arrays of digits, plain.
-/
import Derived.Test.YtjemfefkgfoikaaDoorWotsS
import Derived.Laws.Bits128
namespace Go.Proofs.YtjemfefkgfoikaaDoor
open Go.RowKit

theorem and3 (n : Int) : bits .and .i64 n 3 = n % 4 := by
  have h3 : (BitVec.ofInt 64 3).toNat = 2 ^ 2 - 1 := by decide
  have key : (BitVec.ofInt 64 n &&& BitVec.ofInt 64 3).toNat = (n % ((2 ^ 64 : Nat) : Int)).toNat % 2 ^ 2 := by
    rw [BitVec.toNat_and, BitVec.toNat_ofInt, h3, Nat.and_two_pow_sub_one_eq_mod]
  show IntKind.i64.wrap ((BitVec.ofInt 64 n &&& BitVec.ofInt 64 3).toNat : Nat) = n % 4
  rw [key, IntKind.wrap_i64]
  omega
/-- n numbers as cells. -/
def icells (f : Nat → Nat) (n : Nat) : List Value := (List.range n).map fun j => Value.int .i64 ((f j : Nat) : Int)
theorem icells_length (f : Nat → Nat) (n : Nat) : (icells f n).length = n := by unfold icells; simp
theorem icells_get (f : Nat → Nat) {n k : Nat} (h : k < n) : (icells f n)[k]? = some (.int .i64 ((f k : Nat) : Int)) := by
  unfold icells
  rw [List.getElem?_map, List.getElem?_range h]
  rfl
theorem icells_congr {f g : Nat → Nat} {n : Nat} (h : ∀ j, j < n → f j = g j) : icells f n = icells g n := by
  unfold icells
  apply List.map_congr_left
  intro j hj
  rw [h j (List.mem_range.1 hj)]
theorem icells_set (f g : Nat → Nat) {n k : Nat} (v : Nat) (hk : k < n) (h : ∀ j, j < n → g j = if j = k then v else f j) : (icells f n).toArray.setIfInBounds k (.int .i64 (v : Int)) = (icells g n).toArray := by
  apply Array.ext_getElem?
  intro j
  rw [Array.getElem?_setIfInBounds]
  simp only [List.size_toArray, icells_length, List.getElem?_toArray]
  by_cases hj : k = j
  · subst hj
    rw [if_pos rfl, if_pos hk, icells_get g hk, h k hk, if_pos rfl]
  · rw [if_neg hj]
    rcases Nat.lt_or_ge j n with hlt | hge
    · rw [icells_get f hlt, icells_get g hlt, h j hlt, if_neg (fun e => hj e.symm)]
    · rw [List.getElem?_eq_none (by rw [icells_length]; exact hge), List.getElem?_eq_none (by rw [icells_length]; exact hge)]
theorem icells_step (f : Nat → Nat) (n : Nat) : icells f (n + 1) = icells f n ++ [.int .i64 ((f n : Nat) : Int)] := by unfold icells; rw [List.range_succ, List.map_append]; rfl
theorem icells_zero (n : Nat) : (icells (fun _ => 0) n).toArray = Array.replicate n (.int .i64 0) := by
  unfold icells
  apply Array.ext
  · simp
  · intro i h1 h2
    simp
def fillD (m : List UInt8) (k : Nat) : Nat → Nat := fun j => if j < k then dig m j else 0
def fillC (m : List UInt8) (k : Nat) : Nat → Nat := fun j => if j < 64 then dig m j else if 67 - j < k then digC m j else 0
theorem fillD_step (m : List UInt8) (k j : Nat) : fillD m (k + 1) j = if j = k then dig m k else fillD m k j := by
  unfold fillD
  by_cases h : j = k
  · subst h; rw [if_pos (by omega), if_pos rfl]
  · rw [if_neg h]
    by_cases h2 : j < k
    · rw [if_pos (by omega), if_pos h2]
    · rw [if_neg (by omega), if_neg h2]
theorem fillC_step (m : List UInt8) (k j : Nat) (hk : k < 4) (hj : j < 68) : fillC m (k + 1) j = if j = 67 - k then chk m / 4 ^ k % 4 else fillC m k j := by
  unfold fillC
  by_cases h : j = 67 - k
  · subst h
    rw [if_neg (by omega), if_pos (by omega), if_pos rfl, digC, if_neg (by omega), show 67 - (67 - k) = k from by omega]
  · rw [if_neg h]
    by_cases h1 : j < 64
    · rw [if_pos h1, if_pos h1]
    · rw [if_neg h1, if_neg h1]
      by_cases h2 : 67 - j < k
      · rw [if_pos (by omega), if_pos h2]
      · rw [if_neg (by omega), if_neg h2]
theorem fill_meet (m : List UInt8) : (icells (fillD m 64) 68) = icells (fillC m 0) 68 := icells_congr fun j hj => by
  unfold fillD fillC
  split
  · rfl
  · rw [if_neg (by omega)]
theorem fill_end (m : List UInt8) : icells (fillC m 4) 68 = icells (digC m) 68 := icells_congr fun j hj => by
  unfold fillC
  split
  · rename_i h; unfold digC; rw [if_pos h]
  · rw [if_pos (by omega)]
theorem dig_shift (m : List UInt8) (k : Nat) : dig m k = ((m.getD (k / 4) 0).toNat / 2 ^ (6 - 2 * (k % 4))) % 4 := by
  unfold dig
  congr 2
  have : k % 4 < 4 := Nat.mod_lt _ (by omega)
  rcases (by omega : k % 4 = 0 ∨ k % 4 = 1 ∨ k % 4 = 2 ∨ k % 4 = 3) with h | h | h | h <;> rw [h]
/-- A fresh copy, as a list of numbers. -/
def Ints (w : World) (v : Value) (f : Nat → Nat) (n : Nat) : Prop := Reads w 1 v n (icells f n)

end Go.Proofs.YtjemfefkgfoikaaDoor
