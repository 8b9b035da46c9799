/-
  SHA-256, HMAC and what is made of them over natural numbers, quick to evaluate in the kernel, and that they are those of the plain functions.
-/
import Derived.Test.YtjemfefkgfoikaaDoorFast
import Derived.Test.YtjemfefkgfoikaaDoorShaJ
namespace Go.Proofs.YtjemfefkgfoikaaDoor

def bN (l : List UInt8) : List Nat := l.map UInt8.toNat
theorem bN_inj {a b : List UInt8} (h : bN a = bN b) : a = b := by
  unfold bN at h
  induction a generalizing b with
  | nil => cases b with
    | nil => rfl
    | cons y b => simp at h
  | cons x a ih => cases b with
    | nil => simp at h
    | cons y b =>
      simp only [List.map_cons, List.cons.injEq] at h
      rw [UInt8.toNat_inj.1 h.1, ih h.2]
def wordsN : List Nat → List Nat
  | a :: b :: c :: d :: r => Nat.add (Nat.mul (Nat.add (Nat.mul (Nat.add (Nat.mul a 256) b) 256) c) 256) d :: wordsN r
  | _ => []
def kN : List Nat := shaK.map UInt32.toNat
def fBlock (v w : List Nat) : List Nat :=
  match w, v with
  | [w0, w1, w2, w3, w4, w5, w6, w7, w8, w9, w10, w11, w12, w13, w14, w15], [a, b, c, d, e, f, g, h] =>
    List.zipWith addN (fRounds kN w0 w1 w2 w3 w4 w5 w6 w7 w8 w9 w10 w11 w12 w13 w14 w15 a b c d e f g h) [a, b, c, d, e, f, g, h]
  | _, _ => []
theorem be_step (n : UInt32) (b : UInt8) (h : n.toNat < 16777216) : ((n <<< 8) ||| b.toUInt32).toNat = n.toNat * 256 + b.toNat := by
  have hb := b.toNat_lt
  rw [UInt32.toNat_or, UInt32.toNat_shiftLeft, UInt8.toNat_toUInt32, show (8 : UInt32).toNat % 32 = 8 from rfl, Nat.shiftLeft_eq, Nat.mod_eq_of_lt (by omega), ← Nat.shiftLeft_eq, ← Nat.shiftLeft_add_eq_or_of_lt (by omega), Nat.shiftLeft_eq]
theorem be_toNat (a b c d : UInt8) : (beWord [a, b, c, d]).toNat = ((a.toNat * 256 + b.toNat) * 256 + c.toNat) * 256 + d.toNat := by
  have ha := a.toNat_lt
  have hb := b.toNat_lt
  have hc := c.toNat_lt
  unfold beWord
  simp only [List.foldl_cons, List.foldl_nil]
  have h0 : (0 : UInt32).toNat = 0 := rfl
  have h1 := be_step 0 a (by rw [h0]; omega)
  rw [h0, Nat.zero_mul, Nat.zero_add] at h1
  have h2 := be_step _ b (show ((0 : UInt32) <<< 8 ||| a.toUInt32).toNat < 16777216 by rw [h1]; omega)
  rw [h1] at h2
  have h3 := be_step _ c (show (((0 : UInt32) <<< 8 ||| a.toUInt32) <<< 8 ||| b.toUInt32).toNat < 16777216 by rw [h2]; omega)
  rw [h2] at h3
  have h4 := be_step _ d (show ((((0 : UInt32) <<< 8 ||| a.toUInt32) <<< 8 ||| b.toUInt32) <<< 8 ||| c.toUInt32).toNat < 16777216 by rw [h3]; omega)
  rw [h4, h3]
/-- Four bytes at a time. -/
theorem words_N : ∀ (n : Nat) (b : List UInt8), b.length = 4 * n → wordsN (bN b) = (List.range n).map fun i => (beWord ((b.drop (4 * i)).take 4)).toNat
  | 0, b, h => by
    obtain rfl : b = [] := List.length_eq_zero_iff.1 (by omega)
    rfl
  | n + 1, b, h => by
    match b, h with
    | w :: x :: y :: z :: r, h =>
      have ih := words_N n r (by simp at h; omega)
      rw [List.range_succ_eq_map, List.map_cons, List.map_map]
      have e : wordsN (bN (w :: x :: y :: z :: r)) = (((w.toNat * 256 + x.toNat) * 256 + y.toNat) * 256 + z.toNat) :: wordsN (bN r) := rfl
      rw [e, ih, ← be_toNat]
      congr 1
theorem range16 (f : Nat → Nat) : (List.range 16).map f = [f 0, f 1, f 2, f 3, f 4, f 5, f 6, f 7, f 8, f 9, f 10, f 11, f 12, f 13, f 14, f 15] := rfl
theorem fBlock_eq (w0 w1 w2 w3 w4 w5 w6 w7 w8 w9 w10 w11 w12 w13 w14 w15 a b c d e f g h : Nat) : fBlock [a, b, c, d, e, f, g, h] [w0, w1, w2, w3, w4, w5, w6, w7, w8, w9, w10, w11, w12, w13, w14, w15] =
    List.zipWith addN (fRounds kN w0 w1 w2 w3 w4 w5 w6 w7 w8 w9 w10 w11 w12 w13 w14 w15 a b c d e f g h) [a, b, c, d, e, f, g, h] := rfl
theorem zip_N : ∀ (r v : List UInt32), List.zipWith addN (r.map UInt32.toNat) (v.map UInt32.toNat) = (List.zipWith (· + ·) r v).map UInt32.toNat
  | [], v => by simp
  | x :: r, [] => by simp
  | x :: r, y :: v => by simp only [List.map_cons, List.zipWith_cons_cons]; rw [zip_N r v, add_N]
theorem g_all (b : List UInt8) (a b' c d e f g h : UInt32) : gRounds shaK (sw b 0) (sw b 1) (sw b 2) (sw b 3) (sw b 4) (sw b 5) (sw b 6) (sw b 7) (sw b 8) (sw b 9) (sw b 10) (sw b 11) (sw b 12) (sw b 13) (sw b 14) (sw b 15) a b' c d e f g h = shaRounds b [a, b', c, d, e, f, g, h] := by
  have := g_ok b [a, b', c, d, e, f, g, h] rfl 64 0 rfl
  rw [List.drop_zero, roundsAt] at this
  exact this
set_option maxRecDepth 100000 in
theorem block_N (v : List UInt32) (b : List UInt8) (hv : v.length = 8) (hb : b.length = 64) : fBlock (v.map UInt32.toNat) (wordsN (bN b)) = (shaBlock v b).map UInt32.toNat := by
  rw [words_N 16 b hb]
  have hw : ∀ i, i < 16 → (beWord ((b.drop (4 * i)).take 4)) = sw b i := fun i hi => by
    rw [sw, schedAt, List.getD_eq_getElem?_getD, List.getElem?_append_right (by rw [schedAt_length]; omega), schedAt_length, Nat.sub_self, if_pos hi]
    first | done | rfl
  have hl : ((List.range 16).map fun i => (beWord ((b.drop (4 * i)).take 4)).toNat) = ((List.range 16).map fun i => (sw b i).toNat) := List.map_congr_left fun i hi => by rw [hw i (List.mem_range.1 hi)]
  rw [hl, range16]
  match v, hv with
  | [a, b', c, d, e, f, g, h], hv =>
    rw [List.map_cons, List.map_cons, List.map_cons, List.map_cons, List.map_cons, List.map_cons, List.map_cons, List.map_cons, List.map_nil, fBlock_eq, kN, rounds_N, g_all]
    exact zip_N _ [a, b', c, d, e, f, g, h]

/-- A list's numbers, evaluated first. -/
def forceL {α : Type} : List Nat → (List Nat → α) → α
  | [], k => k []
  | x :: r, k => forceN x fun y => forceL r fun s => k (y :: s)
theorem forceL_eq {α : Type} : ∀ (l : List Nat) (k : List Nat → α), forceL l k = k l
  | [], k => rfl
  | x :: r, k => by rw [forceL, forceN_eq, forceL_eq r]
def fBlocks : Nat → List Nat → List Nat → List Nat
  | 0, v, _ => v
  | n + 1, v, m => forceL (fBlock v (wordsN (m.take 64))) fun s => fBlocks n s (m.drop 64)
theorem blocks_N : ∀ (n : Nat) (v : List UInt32) (m : List UInt8), v.length = 8 → m.length = 64 * n → fBlocks n (v.map UInt32.toNat) (bN m) = (shaBlocks n v m).map UInt32.toNat
  | 0, v, m, _, _ => rfl
  | n + 1, v, m, hv, hm => by
    have e1 : (bN m).take 64 = bN (m.take 64) := (List.map_take ..).symm
    have e2 : (bN m).drop 64 = bN (m.drop 64) := (List.map_drop ..).symm
    rw [fBlocks, forceL_eq, e1, e2, block_N v _ hv (by rw [List.length_take]; omega)]
    have hl : (shaBlock v (m.take 64)).length = 8 := by
      have := shaFold_length (m.take 64) [0] v hv
      unfold shaFold at this
      simp only [List.foldl_cons, List.foldl_nil, Nat.mul_zero, List.drop_zero] at this
      rwa [List.take_take] at this
    exact blocks_N n _ _ hl (by rw [List.length_drop]; omega)
def beNs (n : Nat) : Nat → List Nat
  | 0 => []
  | k + 1 => Nat.mod (Nat.div n (256 ^ k)) 256 :: beNs n k
theorem be_N (n : Nat) : ∀ k, bN (beBytes n k) = beNs n k
  | 0 => rfl
  | k + 1 => by
    have := be_N n k
    unfold bN at this ⊢
    rw [beBytes, beNs, List.map_cons, this]
    congr 1
def padN' (l : List Nat) : List Nat := l ++ [128] ++ List.replicate ((119 - l.length % 64) % 64) 0 ++ beNs (8 * l.length) 8
theorem bN_length (l : List UInt8) : (bN l).length = l.length := List.length_map ..
theorem bN_append (a b : List UInt8) : bN (a ++ b) = bN a ++ bN b := List.map_append ..
theorem pad_N (l : List UInt8) : bN (shaPad l) = padN' (bN l) := by
  unfold shaPad padN'
  rw [bN_append, bN_append, bN_append, be_N, bN_length]
  congr 2
  unfold bN
  rw [List.map_replicate]
  rfl
def h0N : List Nat := shaH0.map UInt32.toNat
def outN (v : List Nat) : List Nat := v.flatMap fun w => beNs w 4
def shaN (l : List Nat) : List Nat := outN (fBlocks ((padN' l).length / 64) h0N (padN' l))
theorem out_N (v : List UInt32) : bN (v.flatMap fun w => beBytes w.toNat 4) = outN (v.map UInt32.toNat) := by
  unfold outN
  induction v with
  | nil => rfl
  | cons x v ih => rw [List.flatMap_cons, bN_append, ih, List.map_cons, List.flatMap_cons, be_N]
theorem pad_len (l : List UInt8) : ∃ m, (shaPad l).length = 64 * m := by
  refine ⟨(shaPad l).length / 64, ?_⟩
  unfold shaPad
  simp [beBytes_length]
  omega
theorem sha_N (l : List UInt8) : bN (sha l) = shaN (bN l) := by
  obtain ⟨m, hm⟩ := pad_len l
  unfold sha shaN
  rw [out_N, ← pad_N, bN_length, hm, Nat.mul_div_cancel_left _ (by omega), h0N, blocks_N m shaH0 _ rfl hm]
def padXN (k : List Nat) (x : Nat) : List Nat := (List.range 64).map fun i => Nat.xor (k.getD i 0) x
def hmacN (key m : List Nat) : List Nat := forceL (if key.length > 64 then shaN key else key) fun k => forceL (shaN (padXN k 54 ++ m)) fun h => shaN (padXN k 92 ++ h)
theorem padX_N (k : List UInt8) (x : UInt8) : bN (padOf k x) = padXN (bN k) x.toNat := by
  unfold padOf padN padXN
  unfold bN
  rw [List.map_map]
  apply List.map_congr_left
  intro i _
  show ((k.getD i 0) ^^^ x).toNat = _
  rw [UInt8.toNat_xor]
  have : (k.map UInt8.toNat).getD i 0 = (k.getD i 0).toNat := by
    rw [List.getD_eq_getElem?_getD, List.getD_eq_getElem?_getD, List.getElem?_map]
    cases k[i]? <;> rfl
  rw [this]
  rfl
theorem hmac_N (key m : List UInt8) : bN (hmac key m) = hmacN (bN key) (bN m) := by
  rw [hmac_eq, sha_N, bN_append, padX_N, sha_N, bN_append, padX_N]
  have hk : bN (if key.length > 64 then sha key else key) = if (bN key).length > 64 then shaN (bN key) else bN key := by
    rw [bN_length]
    split
    · exact sha_N key
    · rfl
  rw [hk]
  unfold hmacN
  rw [forceL_eq, forceL_eq]
  rfl
def macN (key m : List Nat) : List Nat := (hmacN key m).take 16
theorem mac_N (key m : List UInt8) : bN (mac key m) = macN (bN key) (bN m) := by
  unfold mac macN
  rw [← hmac_N]
  exact List.map_take ..
def encsN (ps : List (List Nat)) : List Nat := ps.flatMap fun p => bN (wInt p.length) ++ p
theorem encs_N (ps : List (List UInt8)) : bN (encs ps) = encsN (ps.map bN) := by
  unfold encs encsN
  induction ps with
  | nil => rfl
  | cons p ps ih => rw [List.flatMap_cons, bN_append, ih, List.map_cons, List.flatMap_cons, wBytes, bN_append, bN_length]
def digestN (tag : Int) (ps : List (List Nat)) : List Nat := forceL ((shaN ((tagByte tag).toNat :: encsN ps)).take 16) fun d => d
theorem digest_N (tag : Int) (ps : List (List UInt8)) : bN (digestS tag ps) = digestN tag (ps.map bN) := by
  unfold digestS digestN
  rw [forceL_eq, ← encs_N]
  have : (tagByte tag).toNat :: bN (encs ps) = bN ([tagByte tag] ++ encs ps) := rfl
  rw [this, ← sha_N]
  exact List.map_take ..
def deriveN (key label : List Nat) (ps : List (List Nat)) : List Nat := forceL (macN key (bN (wInt label.length) ++ label ++ encsN ps)) fun d => d
theorem derive_N (key label : List UInt8) (ps : List (List UInt8)) : bN (deriveS key label ps) = deriveN (bN key) (bN label) (ps.map bN) := by
  unfold deriveS deriveN
  rw [forceL_eq, mac_N, bN_append, encs_N, wBytes, bN_append, bN_length]

end Go.Proofs.YtjemfefkgfoikaaDoor
