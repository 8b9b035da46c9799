/-
  What the sanity of the laws of one-time signatures asks of two public keys, by evaluation.
-/
import Derived.Test.YtjemfefkgfoikaaDoorWotsS
import Derived.Test.YtjemfefkgfoikaaDoorFastB
namespace Go.Proofs.YtjemfefkgfoikaaDoor

def stepN (k : Nat) (v : List Nat) : List Nat := digestN 3 [bN (wInt k), v]
def advN (k : Nat) (v : List Nat) : Nat → List Nat
  | 0 => v
  | n + 1 => stepN k (advN k v n)
theorem adv_N (k : Nat) (v : List UInt8) : ∀ n, bN (advS k v n) = advN k (bN v) n
  | 0 => rfl
  | n + 1 => by rw [advS, advN, stepS, stepN, digest_N, List.map_cons, List.map_cons, List.map_nil, adv_N k v n]
def startN (seed : List Nat) (index : Int) (k : Nat) : List Nat := deriveN seed [119, 111, 116, 115] [bN (wInt index), bN (wInt k)]
theorem start_N (seed : List UInt8) (index : Int) (k : Nat) : bN (startS seed index k) = startN (bN seed) index k := by
  unfold startS startN
  rw [derive_N]
  rfl
def publicN (seed : List Nat) (index : Int) : List Nat := digestN 4 [(List.range 68).flatMap fun k => advN k (startN seed index k) 3]
theorem flat_N (f : Nat → List UInt8) (g : Nat → List Nat) (h : ∀ k, bN (f k) = g k) : ∀ l : List Nat, bN (l.flatMap f) = l.flatMap g
  | [] => rfl
  | k :: l => by rw [List.flatMap_cons, List.flatMap_cons, bN_append, flat_N f g h l, h]
theorem public_N (seed : List UInt8) (index : Int) : bN (publicS seed index) = publicN (bN seed) index := by
  unfold publicS keyOf publicN endsS
  rw [digest_N, List.map_cons, List.map_nil, flat_N _ (fun k => advN k (startN (bN seed) index k) 3) fun k => by rw [adv_N, start_N]]
def zero16 : List UInt8 := List.replicate 16 0
set_option maxRecDepth 1000000 in
theorem pub12N : (publicN (bN zero16) 1 == publicN (bN zero16) 2) = false := by decide +kernel
theorem pub12 : ¬ publicS zero16 1 = publicS zero16 2 := fun h => by
  have h1 := pub12N
  rw [← public_N, ← public_N, h] at h1
  simp at h1

end Go.Proofs.YtjemfefkgfoikaaDoor
