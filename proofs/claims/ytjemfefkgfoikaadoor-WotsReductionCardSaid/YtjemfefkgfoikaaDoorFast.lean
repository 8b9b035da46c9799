/-
  SHA-256's rounds over natural numbers, quick to evaluate in the kernel, and that they are the rounds.
-/
import Derived.Test.YtjemfefkgfoikaaDoorRefC
namespace Go.Proofs.YtjemfefkgfoikaaDoor

/-- n, evaluated first. -/
def forceN {α : Type} (n : Nat) (f : Nat → α) : α := Nat.rec (motive := fun _ => α) (f 0) (fun m _ => f (Nat.succ m)) n
theorem forceN_eq {α : Type} (n : Nat) (f : Nat → α) : forceN n f = f n := by cases n <;> rfl

def addN (a b : Nat) : Nat := Nat.mod (Nat.add a b) 4294967296
def rotN (x n m : Nat) : Nat := Nat.lor (Nat.shiftRight x n) (Nat.mod (Nat.shiftLeft x m) 4294967296)
def sig0N (x : Nat) : Nat := Nat.xor (Nat.xor (rotN x 7 25) (rotN x 18 14)) (Nat.shiftRight x 3)
def sig1N (x : Nat) : Nat := Nat.xor (Nat.xor (rotN x 17 15) (rotN x 19 13)) (Nat.shiftRight x 10)
def t1N (e f g h k w : Nat) : Nat := addN (addN (addN (addN h (Nat.xor (Nat.xor (rotN e 6 26) (rotN e 11 21)) (rotN e 25 7))) (Nat.xor (Nat.land e f) (Nat.land (Nat.sub 4294967295 e) g))) k) w
def t2N (a b c : Nat) : Nat := addN (Nat.xor (Nat.xor (rotN a 2 30) (rotN a 13 19)) (rotN a 22 10)) (Nat.xor (Nat.xor (Nat.land a b) (Nat.land a c)) (Nat.land b c))
def nwN (w0 w1 w9 w14 : Nat) : Nat := addN (addN (addN w0 (sig0N w1)) w9) (sig1N w14)
def fRounds : List Nat → Nat → Nat → Nat → Nat → Nat → Nat → Nat → Nat → Nat → Nat → Nat → Nat → Nat → Nat → Nat → Nat → Nat → Nat → Nat → Nat → Nat → Nat → Nat → Nat → List Nat
  | [], _, _, _, _, _, _, _, _, _, _, _, _, _, _, _, _, a, b, c, d, e, f, g, h => [a, b, c, d, e, f, g, h]
  | k :: ks, w0, w1, w2, w3, w4, w5, w6, w7, w8, w9, w10, w11, w12, w13, w14, w15, a, b, c, d, e, f, g, h =>
    forceN (t1N e f g h k w0) fun t => forceN (addN t (t2N a b c)) fun x => forceN (addN d t) fun y => forceN (nwN w0 w1 w9 w14) fun n =>
      fRounds ks w1 w2 w3 w4 w5 w6 w7 w8 w9 w10 w11 w12 w13 w14 w15 n x a b c y e f g

/-- The same over words. -/
def t1W (e f g h k w : UInt32) : UInt32 := h + ((rotrW e 6 ^^^ rotrW e 11) ^^^ rotrW e 25) + ((e &&& f) ^^^ (~~~e &&& g)) + k + w
def t2W (a b c : UInt32) : UInt32 := ((rotrW a 2 ^^^ rotrW a 13) ^^^ rotrW a 22) + (((a &&& b) ^^^ (a &&& c)) ^^^ (b &&& c))
def nwW (w0 w1 w9 w14 : UInt32) : UInt32 := w0 + ((rotrW w1 7 ^^^ rotrW w1 18) ^^^ (w1 >>> 3)) + w9 + ((rotrW w14 17 ^^^ rotrW w14 19) ^^^ (w14 >>> 10))
def gRounds : List UInt32 → UInt32 → UInt32 → UInt32 → UInt32 → UInt32 → UInt32 → UInt32 → UInt32 → UInt32 → UInt32 → UInt32 → UInt32 → UInt32 → UInt32 → UInt32 → UInt32 → UInt32 → UInt32 → UInt32 → UInt32 → UInt32 → UInt32 → UInt32 → UInt32 → List UInt32
  | [], _, _, _, _, _, _, _, _, _, _, _, _, _, _, _, _, a, b, c, d, e, f, g, h => [a, b, c, d, e, f, g, h]
  | k :: ks, w0, w1, w2, w3, w4, w5, w6, w7, w8, w9, w10, w11, w12, w13, w14, w15, a, b, c, d, e, f, g, h =>
    gRounds ks w1 w2 w3 w4 w5 w6 w7 w8 w9 w10 w11 w12 w13 w14 w15 (nwW w0 w1 w9 w14) (t1W e f g h k w0 + t2W a b c) a b c (d + t1W e f g h k w0) e f g

theorem add_N (a b : UInt32) : addN a.toNat b.toNat = (a + b).toNat := (UInt32.toNat_add a b).symm
theorem rot_N (x : UInt32) (n m : Nat) (hn : 0 < n) (hn2 : n < 32) (hm : m = 32 - n) : rotN x.toNat n m = (rotrW x (UInt32.ofNat n)).toNat := by
  subst hm
  unfold rotN rotrW
  have e1 : (UInt32.ofNat n).toNat = n := by simp; omega
  have e2 : (32 - UInt32.ofNat n : UInt32).toNat = 32 - n := by
    rw [UInt32.toNat_sub]
    simp
    omega
  rw [UInt32.toNat_or, UInt32.toNat_shiftRight, UInt32.toNat_shiftLeft, e1, e2, Nat.mod_eq_of_lt hn2, Nat.mod_eq_of_lt (show 32 - n < 32 by omega)]
  rfl
theorem xor_N (a b : UInt32) : Nat.xor a.toNat b.toNat = (a ^^^ b).toNat := (UInt32.toNat_xor a b).symm
theorem and_N (a b : UInt32) : Nat.land a.toNat b.toNat = (a &&& b).toNat := (UInt32.toNat_and a b).symm
theorem not_N (a : UInt32) : Nat.sub 4294967295 a.toNat = (~~~a).toNat := by rw [UInt32.toNat_not]; rfl
theorem shr_N (a : UInt32) (n : Nat) (hn : n < 32) : Nat.shiftRight a.toNat n = (a >>> UInt32.ofNat n).toNat := by
  have e1 : (UInt32.ofNat n).toNat = n := by simp; omega
  rw [UInt32.toNat_shiftRight, e1, Nat.mod_eq_of_lt hn]
  rfl
theorem t1_N (e f g h k w : UInt32) : t1N e.toNat f.toNat g.toNat h.toNat k.toNat w.toNat = (t1W e f g h k w).toNat := by
  unfold t1N t1W
  rw [rot_N e 6 26 (by omega) (by omega) rfl, rot_N e 11 21 (by omega) (by omega) rfl, rot_N e 25 7 (by omega) (by omega) rfl, not_N, and_N, and_N, xor_N, xor_N, xor_N, add_N, add_N, add_N, add_N]
  rfl
theorem t2_N (a b c : UInt32) : t2N a.toNat b.toNat c.toNat = (t2W a b c).toNat := by
  unfold t2N t2W
  rw [rot_N a 2 30 (by omega) (by omega) rfl, rot_N a 13 19 (by omega) (by omega) rfl, rot_N a 22 10 (by omega) (by omega) rfl, and_N, and_N, and_N, xor_N, xor_N, xor_N, xor_N, add_N]
  rfl
theorem nw_N (w0 w1 w9 w14 : UInt32) : nwN w0.toNat w1.toNat w9.toNat w14.toNat = (nwW w0 w1 w9 w14).toNat := by
  unfold nwN nwW sig0N sig1N
  rw [rot_N w1 7 25 (by omega) (by omega) rfl, rot_N w1 18 14 (by omega) (by omega) rfl, rot_N w14 17 15 (by omega) (by omega) rfl, rot_N w14 19 13 (by omega) (by omega) rfl, shr_N w1 3 (by omega), shr_N w14 10 (by omega), xor_N, xor_N, xor_N, xor_N, add_N, add_N, add_N]
  rfl
theorem rounds_N : ∀ (ks : List UInt32) (w0 w1 w2 w3 w4 w5 w6 w7 w8 w9 w10 w11 w12 w13 w14 w15 a b c d e f g h : UInt32),
    fRounds (ks.map UInt32.toNat) w0.toNat w1.toNat w2.toNat w3.toNat w4.toNat w5.toNat w6.toNat w7.toNat w8.toNat w9.toNat w10.toNat w11.toNat w12.toNat w13.toNat w14.toNat w15.toNat a.toNat b.toNat c.toNat d.toNat e.toNat f.toNat g.toNat h.toNat =
      (gRounds ks w0 w1 w2 w3 w4 w5 w6 w7 w8 w9 w10 w11 w12 w13 w14 w15 a b c d e f g h).map UInt32.toNat
  | [], _, _, _, _, _, _, _, _, _, _, _, _, _, _, _, _, _, _, _, _, _, _, _, _ => rfl
  | k :: ks, w0, w1, w2, w3, w4, w5, w6, w7, w8, w9, w10, w11, w12, w13, w14, w15, a, b, c, d, e, f, g, h => by
    rw [List.map_cons, fRounds, gRounds, forceN_eq, forceN_eq, forceN_eq, forceN_eq, t1_N, t2_N, nw_N, add_N, add_N]
    exact rounds_N ks _ _ _ _ _ _ _ _ _ _ _ _ _ _ _ _ _ _ _ _ _ _ _ _

theorem sched_stable (b : List UInt8) (i m n : Nat) (h1 : i < m) (h2 : m ≤ n) : (schedAt b n).getD i 0 = (schedAt b m).getD i 0 := by
  induction n with
  | zero => omega
  | succ n ih =>
    rcases Nat.lt_or_ge m (n + 1) with h | h
    · rw [schedAt, List.getD_eq_getElem?_getD, List.getElem?_append_left (by rw [schedAt_length]; omega), ← List.getD_eq_getElem?_getD, ih (by omega)]
    · rw [show m = n + 1 by omega]
/-- Word i of the schedule, however far it goes. -/
def sw (b : List UInt8) (i : Nat) : UInt32 := (schedAt b (i + 1)).getD i 0
theorem sw_eq (b : List UInt8) (i n : Nat) (h : i < n) : (schedAt b n).getD i 0 = sw b i := sched_stable b i (i + 1) n (by omega) (by omega)
theorem sw_next (b : List UInt8) (j : Nat) : sw b (j + 16) = nwW (sw b j) (sw b (j + 1)) (sw b (j + 9)) (sw b (j + 14)) := by
  rw [sw, sched_next, List.getD_eq_getElem?_getD, List.getElem?_append_right (by rw [schedAt_length]; omega), schedAt_length, Nat.sub_self]
  rw [sw_eq b j _ (by omega), sw_eq b (j + 1) _ (by omega), sw_eq b (j + 9) _ (by omega), sw_eq b (j + 14) _ (by omega)]
  rfl
theorem g_ok (b : List UInt8) (v : List UInt32) (hv : v.length = 8) : ∀ (n i : Nat), n + i = 64 →
    gRounds (shaK.drop i) (sw b i) (sw b (i + 1)) (sw b (i + 2)) (sw b (i + 3)) (sw b (i + 4)) (sw b (i + 5)) (sw b (i + 6)) (sw b (i + 7)) (sw b (i + 8)) (sw b (i + 9)) (sw b (i + 10)) (sw b (i + 11)) (sw b (i + 12)) (sw b (i + 13)) (sw b (i + 14)) (sw b (i + 15))
      ((roundsAt b v i).getD 0 0) ((roundsAt b v i).getD 1 0) ((roundsAt b v i).getD 2 0) ((roundsAt b v i).getD 3 0) ((roundsAt b v i).getD 4 0) ((roundsAt b v i).getD 5 0) ((roundsAt b v i).getD 6 0) ((roundsAt b v i).getD 7 0) = roundsAt b v 64
  | 0, i, h => by
    obtain rfl : i = 64 := by omega
    rw [show shaK.drop 64 = [] from rfl, gRounds]
    have := roundsAt_length b v hv 64
    match hr : roundsAt b v 64, this with
    | [a, b, c, d, e, f, g, h], _ => rfl
  | n + 1, i, h => by
    have hi : i < 64 := by omega
    have ih := g_ok b v hv n (i + 1) (by omega)
    rw [List.drop_eq_getElem_cons (show i < shaK.length from hi), gRounds, ← sw_next b i]
    have hk : shaK[i]'(show i < shaK.length from hi) = shaK.getD i 0 := by rw [List.getD_eq_getElem?_getD, List.getElem?_eq_getElem hi]; rfl
    rw [hk]
    have hs : roundsAt b v (i + 1) = shaRound (roundsAt b v i) (shaK.getD i 0) (sw b i) := by
      rw [roundsAt, sched, sw_eq b i 64 hi]
    rw [hs] at ih
    rw [show i + 1 + 1 = i + 2 from rfl, show i + 1 + 2 = i + 3 from rfl, show i + 1 + 3 = i + 4 from rfl, show i + 1 + 4 = i + 5 from rfl, show i + 1 + 5 = i + 6 from rfl, show i + 1 + 6 = i + 7 from rfl, show i + 1 + 7 = i + 8 from rfl, show i + 1 + 8 = i + 9 from rfl, show i + 1 + 9 = i + 10 from rfl, show i + 1 + 10 = i + 11 from rfl, show i + 1 + 11 = i + 12 from rfl, show i + 1 + 12 = i + 13 from rfl, show i + 1 + 13 = i + 14 from rfl, show i + 1 + 14 = i + 15 from rfl, show i + 1 + 15 = i + 16 from rfl] at ih
    exact ih

end Go.Proofs.YtjemfefkgfoikaaDoor
