
/-
  sha's compress: what its three loops keep.
-/
import Derived.Test.YtoefmncdloffaaaDoorShaC
import Derived.Test.YtoefmncdloffaaaDoorArr
import Derived.Deep.RegionHeld3
import Derived.Deep.DeepCutAuto
import Derived.Outline
namespace Go.Proofs.YtoefmncdloffaaaDoor
open Go.RowKit

/-- Words, and zeros behind them up to n. -/
def wordsTo (n : Nat) (l : List UInt32) : Array Value := (l.map w32 ++ List.replicate (n - l.length) (Value.int .u32 0)).toArray
theorem wordsTo_get {n : Nat} {l : List UInt32} {i : Nat} (h : i < l.length) : (wordsTo n l)[i]? = some (.int .u32 ((l.getD i 0).toNat : Int)) := by
  unfold wordsTo
  rw [List.getElem?_toArray, List.getElem?_append_left (by simpa using h), List.getElem?_map, List.getD_eq_getElem?_getD, List.getElem?_eq_getElem h]
  rfl
theorem wordsTo_set {n : Nat} {l : List UInt32} (x : UInt32) (h : l.length < n) : (wordsTo n l).setIfInBounds l.length (.int .u32 (x.toNat : Int)) = wordsTo n (l ++ [x]) := by
  unfold wordsTo
  rw [show n - l.length = (n - (l ++ [x]).length) + 1 from by simp; omega, List.replicate_succ]
  simp [w32]
theorem wordsTo_set' {n k : Nat} {l : List UInt32} (x : UInt32) (hl : l.length = k) (h : k < n) : (wordsTo n l).setIfInBounds k (.int .u32 (x.toNat : Int)) = wordsTo n (l ++ [x]) := by subst hl; exact wordsTo_set x h
theorem wordsTo_zero (n : Nat) : wordsTo n [] = Array.replicate n (Value.int .u32 0) := by
  unfold wordsTo
  simp
theorem wordsTo_size {n : Nat} {l : List UInt32} (h : l.length ≤ n) : (wordsTo n l).size = n := by
  unfold wordsTo
  simp
  omega

theorem arr64_wide : Wide Tryd.prog 213 64 := ⟨⟨_, Tryd.underlying213, rfl⟩, by kernel_rfl⟩
theorem state_wide : Wide Tryd.prog 191 8 := ⟨⟨_, Tryd.underlying191, rfl⟩, by kernel_rfl⟩


/-- The package's two tables. -/
structure ShaMem (w : World) : Prop where
  k : w.rangeAt 1 0 (shaK.map w32)
  h : w.rangeAt 0 0 (shaH0.map w32)
theorem rangeAt_chg {S : Nat → Prop} {w w' : World} {b : Nat} {cs : List Value} (h : w.rangeAt b 0 cs) (hc : Chg S w w') (hn : ¬ S b) : w'.rangeAt b 0 cs := fun j v hj => Chg.cellv hc (h j v hj) hn
theorem ShaMem.chg {S : Nat → Prop} {w w' : World} (h : ShaMem w) (hc : Chg S w w') (h1 : ¬ S 1) (h2 : ¬ S 0) : ShaMem w' := ⟨rangeAt_chg h.k hc h1, rangeAt_chg h.h hc h2⟩
theorem ShaMem.ext {w w' : World} (h : ShaMem w) (hc : Ext w w') : ShaMem w' := h.chg hc (fun h => h) (fun h => h)


theorem rotr2 (x : UInt32) (n0 n1 : Nat) (g : Nat) (w : World) (h0 : w.cell? ⟨g, 0, none⟩ = some (.int .i64 (n0 : Int))) (h1 : w.cell? ⟨g, 1, none⟩ = some (.int .i64 (n1 : Int))) (hn : (0 < n0 ∧ n0 < 32) ∧ 0 < n1 ∧ n1 < 32) :
    Calls Tryd.prog 162 #[.int .u32 (x.toNat : Int), .slice (some ⟨g, 0, none⟩) 2 2] w fun e w' => e = .returned (.int .u32 ((rotrW x (UInt32.ofNat n0) ^^^ rotrW x (UInt32.ofNat n1)).toNat : Int)) ∧ w = w' := by
  have := rotr_any x [n0, n1] (.slice (some ⟨g, 0, none⟩) 2 2) w ⟨rfl, _, _, rfl, Nat.le_refl _, by unfold maxLen; omega, fun _ => ⟨g, 0, rfl, fun j u hu => ?_⟩⟩ (by simp; omega)
  · simpa [rotXor] using this
  · match j, hu with
    | 0, hu => cases hu; exact h0
    | 1, hu => cases hu; exact h1
theorem rotr3 (x : UInt32) (n0 n1 n2 : Nat) (g : Nat) (w : World) (h0 : w.cell? ⟨g, 0, none⟩ = some (.int .i64 (n0 : Int))) (h1 : w.cell? ⟨g, 1, none⟩ = some (.int .i64 (n1 : Int))) (h2 : w.cell? ⟨g, 2, none⟩ = some (.int .i64 (n2 : Int))) (hn : (0 < n0 ∧ n0 < 32) ∧ (0 < n1 ∧ n1 < 32) ∧ 0 < n2 ∧ n2 < 32) :
    Calls Tryd.prog 162 #[.int .u32 (x.toNat : Int), .slice (some ⟨g, 0, none⟩) 3 3] w fun e w' => e = .returned (.int .u32 ((rotrW x (UInt32.ofNat n0) ^^^ rotrW x (UInt32.ofNat n1) ^^^ rotrW x (UInt32.ofNat n2)).toNat : Int)) ∧ w = w' := by
  have := rotr_any x [n0, n1, n2] (.slice (some ⟨g, 0, none⟩) 3 3) w ⟨rfl, _, _, rfl, Nat.le_refl _, by unfold maxLen; omega, fun _ => ⟨g, 0, rfl, fun j u hu => ?_⟩⟩ (by simp; omega)
  · simpa [rotXor] using this
  · match j, hu with
    | 0, hu => cases hu; exact h0
    | 1, hu => cases hu; exact h1
    | 2, hu => cases hu; exact h2
def rr2 (x a b : UInt32) : UInt32 := rotrW x a ^^^ rotrW x b
def rr3 (x a b c : UInt32) : UInt32 := rotrW x a ^^^ rotrW x b ^^^ rotrW x c
theorem rotr_7_18 (x : UInt32) (g : Nat) (w : World) (h0 : w.cell? ⟨g, 0, none⟩ = some (.int .i64 7)) (h1 : w.cell? ⟨g, 1, none⟩ = some (.int .i64 18)) :
    Calls Tryd.prog 162 #[.int .u32 (x.toNat : Int), .slice (some ⟨g, 0, none⟩) 2 2] w fun e w' => e = .returned (.int .u32 ((rr2 x 7 18).toNat : Int)) ∧ w = w' :=
  rotr2 x 7 18 g w h0 h1 (by omega)
theorem rotr_17_19 (x : UInt32) (g : Nat) (w : World) (h0 : w.cell? ⟨g, 0, none⟩ = some (.int .i64 17)) (h1 : w.cell? ⟨g, 1, none⟩ = some (.int .i64 19)) :
    Calls Tryd.prog 162 #[.int .u32 (x.toNat : Int), .slice (some ⟨g, 0, none⟩) 2 2] w fun e w' => e = .returned (.int .u32 ((rr2 x 17 19).toNat : Int)) ∧ w = w' :=
  rotr2 x 17 19 g w h0 h1 (by omega)
theorem rotr_6_11_25 (x : UInt32) (g : Nat) (w : World) (h0 : w.cell? ⟨g, 0, none⟩ = some (.int .i64 6)) (h1 : w.cell? ⟨g, 1, none⟩ = some (.int .i64 11)) (h2 : w.cell? ⟨g, 2, none⟩ = some (.int .i64 25)) :
    Calls Tryd.prog 162 #[.int .u32 (x.toNat : Int), .slice (some ⟨g, 0, none⟩) 3 3] w fun e w' => e = .returned (.int .u32 ((rr3 x 6 11 25).toNat : Int)) ∧ w = w' :=
  rotr3 x 6 11 25 g w h0 h1 h2 (by omega)
theorem rotr_2_13_22 (x : UInt32) (g : Nat) (w : World) (h0 : w.cell? ⟨g, 0, none⟩ = some (.int .i64 2)) (h1 : w.cell? ⟨g, 1, none⟩ = some (.int .i64 13)) (h2 : w.cell? ⟨g, 2, none⟩ = some (.int .i64 22)) :
    Calls Tryd.prog 162 #[.int .u32 (x.toNat : Int), .slice (some ⟨g, 0, none⟩) 3 3] w fun e w' => e = .returned (.int .u32 ((rr3 x 2 13 22).toNat : Int)) ∧ w = w' :=
  rotr3 x 2 13 22 g w h0 h1 h2 (by omega)

theorem sched_val (x0 r1 x1 x9 r14 x14 : UInt32) : ((((x0.toNat : Int) + bits BinOp.xor IntKind.u32 (r1.toNat : Int) ((x1.toNat : Int) / (8 : Int))) % (4294967296 : Int) + (x9.toNat : Int)) % (4294967296 : Int) + bits BinOp.xor IntKind.u32 (r14.toNat : Int) ((x14.toNat : Int) / (1024 : Int))) % (4294967296 : Int) =
    ((x0 + (r1 ^^^ (x1 >>> 3)) + x9 + (r14 ^^^ (x14 >>> 10))).toNat : Int) := by
  have h3 := shr32 x1 3 (by omega)
  have h10 := shr32 x14 10 (by omega)
  rw [show (8 : Int) = 2 ^ 3 from rfl, show (1024 : Int) = 2 ^ 10 from rfl, h3, h10, xor32, xor32, add32, add32, add32]
  rfl
theorem t_val (x7 r x4 x5 x6 xk xw : UInt32) : IntKind.u32.wrap (IntKind.u32.wrap (IntKind.u32.wrap (IntKind.u32.wrap ((x7.toNat : Int) + (r.toNat : Int)) + bits BinOp.xor IntKind.u32 (bits BinOp.and IntKind.u32 (x4.toNat : Int) (x5.toNat : Int)) (bits BinOp.and IntKind.u32 (bits BinOp.xor IntKind.u32 IntKind.u32.max (x4.toNat : Int)) (x6.toNat : Int))) + (xk.toNat : Int)) + (xw.toNat : Int)) =
    ((x7 + r + ((x4 &&& x5) ^^^ (~~~x4 &&& x6)) + xk + xw).toNat : Int) := by
  rw [not32, and32, and32, xor32, addW, addW, addW, addW]
theorem u_val (r x0 x1 x2 : UInt32) : IntKind.u32.wrap ((r.toNat : Int) + bits BinOp.xor IntKind.u32 (bits BinOp.xor IntKind.u32 (bits BinOp.and IntKind.u32 (x0.toNat : Int) (x1.toNat : Int)) (bits BinOp.and IntKind.u32 (x0.toNat : Int) (x2.toNat : Int))) (bits BinOp.and IntKind.u32 (x1.toNat : Int) (x2.toNat : Int))) =
    ((r + (((x0 &&& x1) ^^^ (x0 &&& x2)) ^^^ (x1 &&& x2))).toNat : Int) := by
  rw [and32, and32, and32, xor32, xor32, addW]
/-- What the first loop keeps. -/
def SchInv (w : World) (hc : Array Value) (bs : List UInt8) (k : Nat) (wr : World) : Prop :=
  Blk wr w.heap.size 191 hc ∧ (∃ o8, Blk wr (w.heap.size + 1) 191 o8 ∧ o8.size = 8) ∧ Blk wr (w.heap.size + 1 + 1) 213 (wordsTo 64 (schedAt bs k)) ∧ Ext w wr
theorem SchInv.step {w wr wr' : World} {hc : Array Value} {bs : List UInt8} {k : Nat} (h : SchInv w hc bs k wr) (hE : Ext wr wr') (hk : k < 64) {x : UInt32} (hx : (if k < 16 then beWord ((bs.drop (4 * k)).take 4) else schedNext (schedAt bs k)) = x) :
    SchInv w hc bs (k + 1) (wr'.setCell ⟨w.heap.size + 1 + 1, k, none⟩ (.int .u32 (x.toNat : Int))) := by
  obtain ⟨q1, ⟨o8, q5, q6⟩, q3, q4⟩ := h
  refine ⟨(q1.ext hE).far' (by omega) _ _, ⟨o8, (q5.ext hE).far' (by omega) _ _, q6⟩, ?_, (q4.trans hE).setCell (by simp; omega) _⟩
  have := (q3.ext hE).set_ k (.int .u32 (x.toNat : Int))
  rw [wordsTo_set' x (schedAt_length bs k) hk] at this
  rw [schedAt, hx]
  exact this

/-- What the second loop keeps. -/
def RndInv (w : World) (hc : Array Value) (h : List UInt32) (bs : List UInt8) (g k : Nat) (wr : World) : Prop :=
  Blk wr w.heap.size 191 hc ∧ (∃ o8, Blk wr (w.heap.size + 1) 191 o8 ∧ o8.size = 8) ∧ Blk wr (w.heap.size + 1 + 1) 213 (wordsTo 64 (sched bs)) ∧ Blk wr g 191 (wordsTo 8 (roundsAt bs h k)) ∧ Ext w wr ∧ w.heap.size + 1 + 1 < g
theorem wordsTo_all {n : Nat} {l : List UInt32} (h : l.length = n) : wordsTo n l = (l.map w32).toArray := by
  unfold wordsTo
  rw [h, Nat.sub_self]
  simp
theorem wordsK {k : Nat} (h : k < 64) : ((shaK.map w32).toArray)[k]? = some (.int .u32 ((shaK.getD k 0).toNat : Int)) := by
  have := wordsTo_get (n := 64) (l := shaK) (i := k) h
  rwa [wordsTo_all (show shaK.length = 64 from rfl)] at this
theorem words_one (l : List UInt32) : ((l.map w32).toArray).all (·.oneCell') = true := by
  rw [← Array.all_toList]
  simp [w32]
  intro x _
  rfl

/-- What the third loop keeps: the first k sums are made. -/
def finAt (R h : List UInt32) (k : Nat) : List UInt32 := (List.zipWith (· + ·) R h).take k ++ R.drop k
def FinInv (w : World) (hc : Array Value) (h R : List UInt32) (g k : Nat) (wr : World) : Prop :=
  Blk wr w.heap.size 191 hc ∧ (∃ o8, Blk wr (w.heap.size + 1) 191 o8 ∧ o8.size = 8) ∧ Blk wr g 191 (wordsTo 8 (finAt R h k)) ∧ Ext w wr ∧ w.heap.size + 1 + 1 < g
theorem finAt_length {R h : List UInt32} (hR : R.length = 8) (hh : h.length = 8) {k : Nat} (hk : k ≤ 8) : (finAt R h k).length = 8 := by
  unfold finAt; simp; omega
theorem FinInv.start {w wr : World} {hc : Array Value} {h : List UInt32} {bs : List UInt8} {g : Nat} (hi : RndInv w hc h bs g 64 wr) : FinInv w hc h (roundsAt bs h 64) g 0 wr := by
  obtain ⟨q1, q2, _, q4, q5, q6⟩ := hi
  exact ⟨q1, q2, q4, q5, q6⟩
section
variable {w wr : World} {hc : Array Value} {h R : List UInt32} {g k : Nat}
theorem FinInv.new (hi : FinInv w hc h R g k wr) (hR : R.length = 8) (hh : h.length = 8) (hk : k < 8) : wr.cell? ⟨g, k, none⟩ = some (.int .u32 ((R.getD k 0).toNat : Int)) := by
  rw [hi.2.2.1.cell, wordsTo_get (by rw [finAt_length hR hh (by omega)]; exact hk)]
  have : (finAt R h k).getD k 0 = R.getD k 0 := by
    unfold finAt
    rw [List.getD_eq_getElem?_getD, List.getD_eq_getElem?_getD, List.getElem?_append_right (by simp; omega)]
    simp
    rw [show k + (k - min k (min R.length h.length)) = k from by omega]
  rw [this]
theorem FinInv.old (hi : FinInv w hc h R g k wr) (hC : (h.map w32).toArray = hc) (hh : h.length = 8) (hk : k < 8) : wr.cell? ⟨w.heap.size, k, none⟩ = some (.int .u32 ((h.getD k 0).toNat : Int)) := by
  rw [hi.1.cell, ← hC, ← wordsTo_all hh, wordsTo_get (by omega)]
theorem FinInv.step (hi : FinInv w hc h R g k wr) {wr' : World} (hE : Ext wr wr') (hR : R.length = 8) (hh : h.length = 8) (hk : k < 8) : FinInv w hc h R g (k + 1) (wr'.setCell ⟨g, k, none⟩ (.int .u32 ((R.getD k 0 + h.getD k 0).toNat : Int))) := by
  obtain ⟨q1, ⟨o8, q5, q6⟩, q3, q4, q7⟩ := hi
  refine ⟨(q1.ext hE).far' (by omega) _ _, ⟨o8, (q5.ext hE).far' (by omega) _ _, q6⟩, ?_, (q4.trans hE).setCell (by simp; omega) _, q7⟩
  have := (q3.ext hE).set_ k (.int .u32 ((R.getD k 0 + h.getD k 0).toNat : Int))
  have e : (wordsTo 8 (finAt R h k)).setIfInBounds k (.int .u32 ((R.getD k 0 + h.getD k 0).toNat : Int)) = wordsTo 8 (finAt R h (k + 1)) := by
    rw [wordsTo_all (finAt_length hR hh (by omega)), wordsTo_all (finAt_length hR hh (by omega))]
    apply Array.ext'
    rw [Array.toList_setIfInBounds]
    dsimp only
    have e1 : finAt R h (k + 1) = (finAt R h k).set k (R.getD k 0 + h.getD k 0) := by
      unfold finAt
      rw [take_step _ k (by simp; omega), List.set_append_right _ _ (by simp; omega)]
      rw [show k - ((List.zipWith (· + ·) R h).take k).length = 0 from by simp; omega]
      rw [List.drop_eq_getElem_cons (show k < R.length by omega)]
      rw [List.set_cons_zero, List.append_assoc, List.getD_eq_getElem?_getD, List.getD_eq_getElem?_getD, List.getElem?_eq_getElem (show k < R.length by omega), List.getElem?_eq_getElem (show k < h.length by omega), List.getElem_zipWith]
      rfl
    rw [e1, List.map_set]
    rfl
  rw [e] at this
  exact this
theorem FinInv.drew (hi : FinInv w hc h R g k wr) : FinInv w hc h R g k wr.drew := by
  obtain ⟨q1, ⟨o8, q5, q6⟩, q3, q4, q7⟩ := hi
  exact ⟨q1.drew, ⟨o8, q5.drew, q6⟩, q3.drew, q4.drew, q7⟩
theorem finAt_end (hR : R.length = 8) (hh : h.length = 8) : finAt R h 8 = List.zipWith (· + ·) R h := by
  unfold finAt
  rw [List.take_of_length_le (by simp; omega), List.drop_of_length_le (by omega), List.append_nil]
end

end Go.Proofs.YtoefmncdloffaaaDoor
