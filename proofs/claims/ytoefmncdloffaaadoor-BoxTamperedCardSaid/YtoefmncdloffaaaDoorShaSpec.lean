
/-
  SHA-256, HMAC and what is made of them, as plain functions of lists of bytes: no program in sight.
-/
import Derived.WalkKit
namespace Go.Proofs.YtoefmncdloffaaaDoor

def rotrW (x : UInt32) (n : UInt32) : UInt32 := (x >>> n) ||| (x <<< (32 - n))
def shaK : List UInt32 := [
  0x428a2f98, 0x71374491, 0xb5c0fbcf, 0xe9b5dba5, 0x3956c25b, 0x59f111f1, 0x923f82a4, 0xab1c5ed5,
  0xd807aa98, 0x12835b01, 0x243185be, 0x550c7dc3, 0x72be5d74, 0x80deb1fe, 0x9bdc06a7, 0xc19bf174,
  0xe49b69c1, 0xefbe4786, 0x0fc19dc6, 0x240ca1cc, 0x2de92c6f, 0x4a7484aa, 0x5cb0a9dc, 0x76f988da,
  0x983e5152, 0xa831c66d, 0xb00327c8, 0xbf597fc7, 0xc6e00bf3, 0xd5a79147, 0x06ca6351, 0x14292967,
  0x27b70a85, 0x2e1b2138, 0x4d2c6dfc, 0x53380d13, 0x650a7354, 0x766a0abb, 0x81c2c92e, 0x92722c85,
  0xa2bfe8a1, 0xa81a664b, 0xc24b8b70, 0xc76c51a3, 0xd192e819, 0xd6990624, 0xf40e3585, 0x106aa070,
  0x19a4c116, 0x1e376c08, 0x2748774c, 0x34b0bcb5, 0x391c0cb3, 0x4ed8aa4a, 0x5b9cca4f, 0x682e6ff3,
  0x748f82ee, 0x78a5636f, 0x84c87814, 0x8cc70208, 0x90befffa, 0xa4506ceb, 0xbef9a3f7, 0xc67178f2]
def shaH0 : List UInt32 := [0x6a09e667, 0xbb67ae85, 0x3c6ef372, 0xa54ff53a, 0x510e527f, 0x9b05688c, 0x1f83d9ab, 0x5be0cd19]
/-- The big-endian number of four bytes. -/
def beWord (l : List UInt8) : UInt32 := l.foldl (fun n b => (n <<< 8) ||| b.toUInt32) 0
/-- The message schedule's word i, given the words before it. -/
def schedNext (w : List UInt32) : UInt32 :=
  let i := w.length
  let x := w.getD (i - 15) 0
  let y := w.getD (i - 2) 0
  w.getD (i - 16) 0 + ((rotrW x 7 ^^^ rotrW x 18) ^^^ (x >>> 3)) + w.getD (i - 7) 0 + ((rotrW y 17 ^^^ rotrW y 19) ^^^ (y >>> 10))
/-- The first i words of the message schedule. -/
def schedAt (b : List UInt8) : Nat → List UInt32
  | 0 => []
  | i + 1 => schedAt b i ++ [if i < 16 then beWord ((b.drop (4 * i)).take 4) else schedNext (schedAt b i)]
def sched (b : List UInt8) : List UInt32 := schedAt b 64
theorem schedAt_length (b : List UInt8) (i : Nat) : (schedAt b i).length = i := by induction i with
  | zero => rfl
  | succ i ih => simp [schedAt, ih]
/-- One round. -/
def shaRound (v : List UInt32) (k w : UInt32) : List UInt32 :=
  let a := v.getD 0 0; let b := v.getD 1 0; let c := v.getD 2 0; let d := v.getD 3 0
  let e := v.getD 4 0; let f := v.getD 5 0; let g := v.getD 6 0; let h := v.getD 7 0
  let t := h + ((rotrW e 6 ^^^ rotrW e 11) ^^^ rotrW e 25) + ((e &&& f) ^^^ (~~~e &&& g)) + k + w
  let u := ((rotrW a 2 ^^^ rotrW a 13) ^^^ rotrW a 22) + (((a &&& b) ^^^ (a &&& c)) ^^^ (b &&& c))
  [t + u, a, b, c, d + t, e, f, g]
/-- The state after k rounds. -/
def roundsAt (b : List UInt8) (v : List UInt32) : Nat → List UInt32
  | 0 => v
  | k + 1 => shaRound (roundsAt b v k) (shaK.getD k 0) ((sched b).getD k 0)
def shaRounds (b : List UInt8) (v : List UInt32) : List UInt32 := roundsAt b v 64
theorem roundsAt_length (b : List UInt8) (v : List UInt32) (h : v.length = 8) (k : Nat) : (roundsAt b v k).length = 8 := by cases k with
  | zero => exact h
  | succ k => rfl
def shaBlock (v : List UInt32) (b : List UInt8) : List UInt32 := List.zipWith (· + ·) (shaRounds b v) v
def beBytes (n : Nat) : Nat → List UInt8
  | 0 => []
  | k + 1 => UInt8.ofNat (n / 256 ^ k) :: beBytes n k
def shaPad (m : List UInt8) : List UInt8 := m ++ [128] ++ List.replicate ((119 - m.length % 64) % 64) 0 ++ beBytes (8 * m.length) 8
def shaBlocks : Nat → List UInt32 → List UInt8 → List UInt32
  | 0, v, _ => v
  | n + 1, v, m => shaBlocks n (shaBlock v (m.take 64)) (m.drop 64)
def sha (m : List UInt8) : List UInt8 := (shaBlocks ((shaPad m).length / 64) shaH0 (shaPad m)).flatMap fun w => beBytes w.toNat 4
def hmac (key m : List UInt8) : List UInt8 :=
  let k := if key.length > 64 then sha key else key
  let pad := fun (x : UInt8) => (List.range 64).map fun i => k.getD i 0 ^^^ x
  sha (pad 0x5c ++ sha (pad 0x36 ++ m))
def mac (key m : List UInt8) : List UInt8 := (hmac key m).take 16

theorem sha_nil : (sha []).take 4 = [0xe3, 0xb0, 0xc4, 0x42] := by decide +kernel
theorem sha_abc : (sha [97, 98, 99]).take 4 = [0xba, 0x78, 0x16, 0xbf] := by decide +kernel

end Go.Proofs.YtoefmncdloffaaaDoor
