/-
  One-time signatures as plain functions of lists of bytes, and what they keep: no program in sight.
-/
import Derived.Test.YtjemfefkgfoikaaDoorShaJ
namespace Go.Proofs.YtjemfefkgfoikaaDoor

/-- Digit k of a message. -/
def dig (m : List UInt8) (k : Nat) : Nat := (m.getD (k / 4) 0).toNat / 4 ^ (3 - k % 4) % 4
def sumTo (m : List UInt8) : Nat → Nat
  | 0 => 0
  | k + 1 => sumTo m k + (3 - dig m k)
def chk (m : List UInt8) : Nat := sumTo m 64
/-- Digit k of a message with its checksum. -/
def digC (m : List UInt8) (k : Nat) : Nat := if k < 64 then dig m k else chk m / 4 ^ (67 - k) % 4
def digitsS (m : List UInt8) : List Nat := (List.range 68).map (digC m)
theorem dig_le (m : List UInt8) (k : Nat) : dig m k ≤ 3 := by unfold dig; omega
theorem digC_le (m : List UInt8) (k : Nat) : digC m k ≤ 3 := by
  unfold digC
  split
  · exact dig_le m k
  · omega
theorem digitsS_length (m : List UInt8) : (digitsS m).length = 68 := by unfold digitsS; simp
theorem digitsS_get (m : List UInt8) (k : Nat) (h : k < 68) : (digitsS m)[k]? = some (digC m k) := by
  unfold digitsS
  rw [List.getElem?_map, List.getElem?_range h]
  rfl
theorem sumTo_le (m : List UInt8) : ∀ k, sumTo m k ≤ 3 * k
  | 0 => Nat.le_refl _
  | k + 1 => by have := sumTo_le m k; rw [sumTo]; omega
theorem chk_le (m : List UInt8) : chk m ≤ 192 := sumTo_le m 64
theorem chk_base (m : List UInt8) : chk m = ((digC m 64 * 4 + digC m 65) * 4 + digC m 66) * 4 + digC m 67 := by
  have h := chk_le m
  have e4 : digC m 64 = chk m / 64 % 4 := rfl
  have e5 : digC m 65 = chk m / 16 % 4 := rfl
  have e6 : digC m 66 = chk m / 4 % 4 := rfl
  have e7 : digC m 67 = chk m / 1 % 4 := rfl
  rw [e4, e5, e6, e7]
  omega

/-- Digits that are nowhere less: the sums the other way round, and equal only if all digits are. -/
theorem sum_mono (a b : List UInt8) : ∀ n, (∀ k, k < n → dig b k ≤ dig a k) → sumTo a n ≤ sumTo b n
  | 0, _ => Nat.le_refl _
  | n + 1, h => by
    have ih := sum_mono a b n fun k hk => h k (by omega)
    have h1 := h n (by omega)
    have := dig_le a n
    rw [sumTo, sumTo]
    omega
theorem sum_strict (a b : List UInt8) : ∀ n, (∀ k, k < n → dig b k ≤ dig a k) → sumTo a n = sumTo b n → ∀ k, k < n → dig a k = dig b k
  | 0, _, _ => fun k hk => by omega
  | n + 1, h, he => by
    have ih1 := sum_mono a b n fun k hk => h k (by omega)
    have h1 := h n (by omega)
    have h2 := dig_le a n
    rw [sumTo, sumTo] at he
    have ih := sum_strict a b n (fun k hk => h k (by omega)) (by omega)
    intro k hk
    rcases Nat.lt_or_ge k n with hlt | hge
    · exact ih k hlt
    · obtain rfl : k = n := by omega
      omega
theorem byte_digits (x : UInt8) : x.toNat = ((x.toNat / 64 % 4 * 4 + x.toNat / 16 % 4) * 4 + x.toNat / 4 % 4) * 4 + x.toNat % 4 := by
  have := x.toNat_lt
  omega
theorem digits_inj (a b : List UInt8) (ha : a.length = 16) (hb : b.length = 16) (h : ∀ k, k < 64 → dig a k = dig b k) : a = b := by
  apply List.ext_getElem (by omega)
  intro i h1 h2
  have g : ∀ j, j < 4 → a[i].toNat / 4 ^ (3 - j) % 4 = b[i].toNat / 4 ^ (3 - j) % 4 := fun j hj => by
    have := h (4 * i + j) (by omega)
    unfold dig at this
    rw [show (4 * i + j) / 4 = i from by omega, show (4 * i + j) % 4 = j from by omega, List.getD_eq_getElem?_getD, List.getD_eq_getElem?_getD, List.getElem?_eq_getElem h1, List.getElem?_eq_getElem h2] at this
    exact this
  have g0 := g 0 (by omega)
  have g1 := g 1 (by omega)
  have g2 := g 2 (by omega)
  have g3 := g 3 (by omega)
  apply UInt8.toNat_inj.1
  rw [byte_digits a[i], byte_digits b[i]]
  simp at g0 g1 g2 g3
  omega
theorem antichain (a b : List UInt8) (ha : a.length = 16) (hb : b.length = 16) (h : ∀ k, k < 68 → digC b k ≤ digC a k) : a = b := by
  have h1 : ∀ k, k < 64 → dig b k ≤ dig a k := fun k hk => by
    have := h k (by omega)
    unfold digC at this
    rwa [if_pos hk, if_pos hk] at this
  have s1 : chk a ≤ chk b := sum_mono a b 64 h1
  have s2 : chk b ≤ chk a := by
    rw [chk_base a, chk_base b]
    have := h 64 (by omega)
    have := h 65 (by omega)
    have := h 66 (by omega)
    have := h 67 (by omega)
    omega
  exact digits_inj a b ha hb (sum_strict a b 64 h1 (Nat.le_antisymm s1 s2))

/-- One step of chain k, and several. -/
def stepS (k : Nat) (v : List UInt8) : List UInt8 := digestS 3 [wInt k, v]
def advS (k : Nat) (v : List UInt8) : Nat → List UInt8
  | 0 => v
  | n + 1 => stepS k (advS k v n)
theorem advS_add (k : Nat) (v : List UInt8) (a : Nat) : ∀ b, advS k (advS k v a) b = advS k v (a + b)
  | 0 => rfl
  | b + 1 => by rw [advS, advS_add k v a b, show a + (b + 1) = (a + b) + 1 from rfl, advS]
theorem advS_length (k : Nat) (v : List UInt8) (h : v.length = 16) : ∀ n, (advS k v n).length = 16
  | 0 => h
  | n + 1 => digestS_length _ _
def wotsL : List UInt8 := [119, 111, 116, 115]
def startS (seed : List UInt8) (index : Int) (k : Nat) : List UInt8 := deriveS seed wotsL [wInt index, wInt k]
theorem startS_length (seed : List UInt8) (index : Int) (k : Nat) : (startS seed index k).length = 16 := deriveS_length _ _ _
def endsS (f : Nat → List UInt8) (n : Nat) : List UInt8 := (List.range n).flatMap f
def keyOf (f : Nat → List UInt8) : List UInt8 := digestS 4 [endsS f 68]
def publicS (seed : List UInt8) (index : Int) : List UInt8 := keyOf fun k => advS k (startS seed index k) 3
def signAt (seed : List UInt8) (index : Int) (m : List UInt8) (k : Nat) : List UInt8 := advS k (startS seed index k) (digC m k)
def recoverS (m : List UInt8) (c : Nat → List UInt8) : List UInt8 := keyOf fun k => advS k (c k) (3 - digC m k)
theorem wots_verifies (seed : List UInt8) (index : Int) (m : List UInt8) : recoverS m (signAt seed index m) = publicS seed index := by
  unfold recoverS publicS
  congr 1
  funext k
  unfold signAt
  rw [advS_add, show digC m k + (3 - digC m k) = 3 from by have := digC_le m k; omega]
theorem wots_advance (seed : List UInt8) (index : Int) (a b : List UInt8) (k : Nat) (h : digC a k ≤ digC b k) : advS k (signAt seed index a k) (digC b k - digC a k) = signAt seed index b k := by
  unfold signAt
  rw [advS_add, show digC a k + (digC b k - digC a k) = digC b k from by omega]

end Go.Proofs.YtjemfefkgfoikaaDoor
