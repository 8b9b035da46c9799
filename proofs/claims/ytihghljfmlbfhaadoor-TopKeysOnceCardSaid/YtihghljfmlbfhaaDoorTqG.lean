/-
  Several texts in one file: each has its own heading below.
-/
import Derived.Test.YtihghljfmlbfhaaDoorTqF
import Derived.Deep.RegionHeld3
import Derived.Deep.DeepCutAuto
import Derived.Outline
import Derived.Test.YtihghljfmlbfhaaDoorTqA
import Derived.Laws.IdiomStrings
import Derived.Laws.BytesArg
import Derived.Lib.AppendStr
import Derived.ChangeKeysEq
import Derived.Lib.SlBytesConst
import Derived.StillTailTactics
import Derived.BigRegion
import Derived.OwnWalkIn
import Derived.TacticsInMore
import Derived.LoopNIn
import Derived.LoopIn
import Derived.Deep.Cut
import Derived.Laws.EntriesVeiled
import Derived.ArgAppend
import Derived.Lib.MakeNoZero
import Derived.Laws.CopyOwn
import Derived.Deep.RegionLaw


namespace Go.Proofs.YtihghljfmlbfhaaDoor
open Go.RowKit
def wordsTo (n : Nat) (l : List UInt32) : Array Value := (l.map w32 ++ List.replicate (n - l.length) (Value.int .u32 0)).toArray
theorem wordsTo_get {n : Nat} {l : List UInt32} {i : Nat} (h : i < l.length) : (wordsTo n l)[i]? = some (.int .u32 ((l.getD i 0).toNat : Int)) := by
  unfold wordsTo
  rw [List.getElem?_toArray, List.getElem?_append_left (by simpa using h), List.getElem?_map, List.getD_eq_getElem?_getD, List.getElem?_eq_getElem h]
  rfl
theorem wordsTo_set {n : Nat} {l : List UInt32} (x : UInt32) (h : l.length < n) : (wordsTo n l).setIfInBounds l.length (.int .u32 (x.toNat : Int)) = wordsTo n (l ++ [x]) := by
  unfold wordsTo
  rw [show n - l.length = (n - (l ++ [x]).length) + 1 from by simp; omega, List.replicate_succ]
  simp [w32]
theorem wordsTo_set' {n k : Nat} {l : List UInt32} (x : UInt32) (hl : l.length = k) (h : k < n) : (wordsTo n l).setIfInBounds k (.int .u32 (x.toNat : Int)) = wordsTo n (l ++ [x]) := by subst hl; exact wordsTo_set x h
theorem wordsTo_zero (n : Nat) : wordsTo n [] = Array.replicate n (Value.int .u32 0) := by
  unfold wordsTo
  simp
theorem wordsTo_size {n : Nat} {l : List UInt32} (h : l.length ≤ n) : (wordsTo n l).size = n := by
  unfold wordsTo
  simp
  omega
theorem arr64_wide : Wide Tryd.prog 131 64 := ⟨⟨_, Tryd.underlying131, rfl⟩, by kernel_rfl⟩
theorem state_wide : Wide Tryd.prog 112 8 := ⟨⟨_, Tryd.underlying112, rfl⟩, by kernel_rfl⟩
structure ShaMem (w : World) : Prop where
  k : w.rangeAt 1 0 (shaK.map w32)
  h : w.rangeAt 0 0 (shaH0.map w32)
theorem rangeAt_chg {S : Nat → Prop} {w w' : World} {b : Nat} {cs : List Value} (h : w.rangeAt b 0 cs) (hc : Chg S w w') (hn : ¬ S b) : w'.rangeAt b 0 cs := fun j v hj => Chg.cellv hc (h j v hj) hn
theorem ShaMem.chg {S : Nat → Prop} {w w' : World} (h : ShaMem w) (hc : Chg S w w') (h1 : ¬ S 1) (h2 : ¬ S 0) : ShaMem w' := ⟨rangeAt_chg h.k hc h1, rangeAt_chg h.h hc h2⟩
theorem ShaMem.ext {w w' : World} (h : ShaMem w) (hc : Ext w w') : ShaMem w' := h.chg hc (fun h => h) (fun h => h)
theorem rotr2 (x : UInt32) (n0 n1 : Nat) (g : Nat) (w : World) (h0 : w.cell? ⟨g, 0, none⟩ = some (.int .i64 (n0 : Int))) (h1 : w.cell? ⟨g, 1, none⟩ = some (.int .i64 (n1 : Int))) (hn : (0 < n0 ∧ n0 < 32) ∧ 0 < n1 ∧ n1 < 32) :
    Calls Tryd.prog 65 #[.int .u32 (x.toNat : Int), .slice (some ⟨g, 0, none⟩) 2 2] w fun e w' => e = .returned (.int .u32 ((rotrW x (UInt32.ofNat n0) ^^^ rotrW x (UInt32.ofNat n1)).toNat : Int)) ∧ w = w' := by
  have := rotr_any x [n0, n1] (.slice (some ⟨g, 0, none⟩) 2 2) w ⟨rfl, _, _, rfl, Nat.le_refl _, by unfold maxLen; omega, fun _ => ⟨g, 0, rfl, fun j u hu => ?_⟩⟩ (by simp; omega)
  · simpa [rotXor] using this
  · match j, hu with
    | 0, hu => cases hu; exact h0
    | 1, hu => cases hu; exact h1
theorem rotr3 (x : UInt32) (n0 n1 n2 : Nat) (g : Nat) (w : World) (h0 : w.cell? ⟨g, 0, none⟩ = some (.int .i64 (n0 : Int))) (h1 : w.cell? ⟨g, 1, none⟩ = some (.int .i64 (n1 : Int))) (h2 : w.cell? ⟨g, 2, none⟩ = some (.int .i64 (n2 : Int))) (hn : (0 < n0 ∧ n0 < 32) ∧ (0 < n1 ∧ n1 < 32) ∧ 0 < n2 ∧ n2 < 32) :
    Calls Tryd.prog 65 #[.int .u32 (x.toNat : Int), .slice (some ⟨g, 0, none⟩) 3 3] w fun e w' => e = .returned (.int .u32 ((rotrW x (UInt32.ofNat n0) ^^^ rotrW x (UInt32.ofNat n1) ^^^ rotrW x (UInt32.ofNat n2)).toNat : Int)) ∧ w = w' := by
  have := rotr_any x [n0, n1, n2] (.slice (some ⟨g, 0, none⟩) 3 3) w ⟨rfl, _, _, rfl, Nat.le_refl _, by unfold maxLen; omega, fun _ => ⟨g, 0, rfl, fun j u hu => ?_⟩⟩ (by simp; omega)
  · simpa [rotXor] using this
  · match j, hu with
    | 0, hu => cases hu; exact h0
    | 1, hu => cases hu; exact h1
    | 2, hu => cases hu; exact h2
def rr2 (x a b : UInt32) : UInt32 := rotrW x a ^^^ rotrW x b
def rr3 (x a b c : UInt32) : UInt32 := rotrW x a ^^^ rotrW x b ^^^ rotrW x c
theorem rotr_7_18 (x : UInt32) (g : Nat) (w : World) (h0 : w.cell? ⟨g, 0, none⟩ = some (.int .i64 7)) (h1 : w.cell? ⟨g, 1, none⟩ = some (.int .i64 18)) :
    Calls Tryd.prog 65 #[.int .u32 (x.toNat : Int), .slice (some ⟨g, 0, none⟩) 2 2] w fun e w' => e = .returned (.int .u32 ((rr2 x 7 18).toNat : Int)) ∧ w = w' :=
  rotr2 x 7 18 g w h0 h1 (by omega)
theorem rotr_17_19 (x : UInt32) (g : Nat) (w : World) (h0 : w.cell? ⟨g, 0, none⟩ = some (.int .i64 17)) (h1 : w.cell? ⟨g, 1, none⟩ = some (.int .i64 19)) :
    Calls Tryd.prog 65 #[.int .u32 (x.toNat : Int), .slice (some ⟨g, 0, none⟩) 2 2] w fun e w' => e = .returned (.int .u32 ((rr2 x 17 19).toNat : Int)) ∧ w = w' :=
  rotr2 x 17 19 g w h0 h1 (by omega)
theorem rotr_6_11_25 (x : UInt32) (g : Nat) (w : World) (h0 : w.cell? ⟨g, 0, none⟩ = some (.int .i64 6)) (h1 : w.cell? ⟨g, 1, none⟩ = some (.int .i64 11)) (h2 : w.cell? ⟨g, 2, none⟩ = some (.int .i64 25)) :
    Calls Tryd.prog 65 #[.int .u32 (x.toNat : Int), .slice (some ⟨g, 0, none⟩) 3 3] w fun e w' => e = .returned (.int .u32 ((rr3 x 6 11 25).toNat : Int)) ∧ w = w' :=
  rotr3 x 6 11 25 g w h0 h1 h2 (by omega)
theorem rotr_2_13_22 (x : UInt32) (g : Nat) (w : World) (h0 : w.cell? ⟨g, 0, none⟩ = some (.int .i64 2)) (h1 : w.cell? ⟨g, 1, none⟩ = some (.int .i64 13)) (h2 : w.cell? ⟨g, 2, none⟩ = some (.int .i64 22)) :
    Calls Tryd.prog 65 #[.int .u32 (x.toNat : Int), .slice (some ⟨g, 0, none⟩) 3 3] w fun e w' => e = .returned (.int .u32 ((rr3 x 2 13 22).toNat : Int)) ∧ w = w' :=
  rotr3 x 2 13 22 g w h0 h1 h2 (by omega)
theorem sched_val (x0 r1 x1 x9 r14 x14 : UInt32) : ((((x0.toNat : Int) + bits BinOp.xor IntKind.u32 (r1.toNat : Int) ((x1.toNat : Int) / (8 : Int))) % (4294967296 : Int) + (x9.toNat : Int)) % (4294967296 : Int) + bits BinOp.xor IntKind.u32 (r14.toNat : Int) ((x14.toNat : Int) / (1024 : Int))) % (4294967296 : Int) =
    ((x0 + (r1 ^^^ (x1 >>> 3)) + x9 + (r14 ^^^ (x14 >>> 10))).toNat : Int) := by
  have h3 := shr32 x1 3 (by omega)
  have h10 := shr32 x14 10 (by omega)
  rw [show (8 : Int) = 2 ^ 3 from rfl, show (1024 : Int) = 2 ^ 10 from rfl, h3, h10, xor32, xor32, add32, add32, add32]
  rfl
theorem t_val (x7 r x4 x5 x6 xk xw : UInt32) : IntKind.u32.wrap (IntKind.u32.wrap (IntKind.u32.wrap (IntKind.u32.wrap ((x7.toNat : Int) + (r.toNat : Int)) + bits BinOp.xor IntKind.u32 (bits BinOp.and IntKind.u32 (x4.toNat : Int) (x5.toNat : Int)) (bits BinOp.and IntKind.u32 (bits BinOp.xor IntKind.u32 IntKind.u32.max (x4.toNat : Int)) (x6.toNat : Int))) + (xk.toNat : Int)) + (xw.toNat : Int)) =
    ((x7 + r + ((x4 &&& x5) ^^^ (~~~x4 &&& x6)) + xk + xw).toNat : Int) := by
  rw [not32, and32, and32, xor32, addW, addW, addW, addW]
theorem u_val (r x0 x1 x2 : UInt32) : IntKind.u32.wrap ((r.toNat : Int) + bits BinOp.xor IntKind.u32 (bits BinOp.xor IntKind.u32 (bits BinOp.and IntKind.u32 (x0.toNat : Int) (x1.toNat : Int)) (bits BinOp.and IntKind.u32 (x0.toNat : Int) (x2.toNat : Int))) (bits BinOp.and IntKind.u32 (x1.toNat : Int) (x2.toNat : Int))) =
    ((r + (((x0 &&& x1) ^^^ (x0 &&& x2)) ^^^ (x1 &&& x2))).toNat : Int) := by
  rw [and32, and32, and32, xor32, xor32, addW]
def SchInv (w : World) (hc : Array Value) (bs : List UInt8) (k : Nat) (wr : World) : Prop :=
  Blk wr w.heap.size 112 hc ∧ (∃ o8, Blk wr (w.heap.size + 1) 112 o8 ∧ o8.size = 8) ∧ Blk wr (w.heap.size + 1 + 1) 131 (wordsTo 64 (schedAt bs k)) ∧ Ext w wr
theorem SchInv.step {w wr wr' : World} {hc : Array Value} {bs : List UInt8} {k : Nat} (h : SchInv w hc bs k wr) (hE : Ext wr wr') (hk : k < 64) {x : UInt32} (hx : (if k < 16 then beWord ((bs.drop (4 * k)).take 4) else schedNext (schedAt bs k)) = x) :
    SchInv w hc bs (k + 1) (wr'.setCell ⟨w.heap.size + 1 + 1, k, none⟩ (.int .u32 (x.toNat : Int))) := by
  obtain ⟨q1, ⟨o8, q5, q6⟩, q3, q4⟩ := h
  refine ⟨(q1.ext hE).far' (by omega) _ _, ⟨o8, (q5.ext hE).far' (by omega) _ _, q6⟩, ?_, (q4.trans hE).setCell (by simp; omega) _⟩
  have := (q3.ext hE).set_ k (.int .u32 (x.toNat : Int))
  rw [wordsTo_set' x (schedAt_length bs k) hk] at this
  rw [schedAt, hx]
  exact this
def RndInv (w : World) (hc : Array Value) (h : List UInt32) (bs : List UInt8) (g k : Nat) (wr : World) : Prop :=
  Blk wr w.heap.size 112 hc ∧ (∃ o8, Blk wr (w.heap.size + 1) 112 o8 ∧ o8.size = 8) ∧ Blk wr (w.heap.size + 1 + 1) 131 (wordsTo 64 (sched bs)) ∧ Blk wr g 112 (wordsTo 8 (roundsAt bs h k)) ∧ Ext w wr ∧ w.heap.size + 1 + 1 < g
theorem wordsTo_all {n : Nat} {l : List UInt32} (h : l.length = n) : wordsTo n l = (l.map w32).toArray := by
  unfold wordsTo
  rw [h, Nat.sub_self]
  simp
theorem wordsK {k : Nat} (h : k < 64) : ((shaK.map w32).toArray)[k]? = some (.int .u32 ((shaK.getD k 0).toNat : Int)) := by
  have := wordsTo_get (n := 64) (l := shaK) (i := k) h
  rwa [wordsTo_all (show shaK.length = 64 from rfl)] at this
theorem words_one (l : List UInt32) : ((l.map w32).toArray).all (·.oneCell') = true := by
  rw [← Array.all_toList]
  simp [w32]
  intro x _
  rfl
def finAt (R h : List UInt32) (k : Nat) : List UInt32 := (List.zipWith (· + ·) R h).take k ++ R.drop k
def FinInv (w : World) (hc : Array Value) (h R : List UInt32) (g k : Nat) (wr : World) : Prop :=
  Blk wr w.heap.size 112 hc ∧ (∃ o8, Blk wr (w.heap.size + 1) 112 o8 ∧ o8.size = 8) ∧ Blk wr g 112 (wordsTo 8 (finAt R h k)) ∧ Ext w wr ∧ w.heap.size + 1 + 1 < g
theorem finAt_length {R h : List UInt32} (hR : R.length = 8) (hh : h.length = 8) {k : Nat} (hk : k ≤ 8) : (finAt R h k).length = 8 := by
  unfold finAt; simp; omega
theorem FinInv.start {w wr : World} {hc : Array Value} {h : List UInt32} {bs : List UInt8} {g : Nat} (hi : RndInv w hc h bs g 64 wr) : FinInv w hc h (roundsAt bs h 64) g 0 wr := by
  obtain ⟨q1, q2, _, q4, q5, q6⟩ := hi
  exact ⟨q1, q2, q4, q5, q6⟩
section
variable {w wr : World} {hc : Array Value} {h R : List UInt32} {g k : Nat}
theorem FinInv.new (hi : FinInv w hc h R g k wr) (hR : R.length = 8) (hh : h.length = 8) (hk : k < 8) : wr.cell? ⟨g, k, none⟩ = some (.int .u32 ((R.getD k 0).toNat : Int)) := by
  rw [hi.2.2.1.cell, wordsTo_get (by rw [finAt_length hR hh (by omega)]; exact hk)]
  have : (finAt R h k).getD k 0 = R.getD k 0 := by
    unfold finAt
    rw [List.getD_eq_getElem?_getD, List.getD_eq_getElem?_getD, List.getElem?_append_right (by simp; omega)]
    simp
    rw [show k + (k - min k (min R.length h.length)) = k from by omega]
  rw [this]
theorem FinInv.old (hi : FinInv w hc h R g k wr) (hC : (h.map w32).toArray = hc) (hh : h.length = 8) (hk : k < 8) : wr.cell? ⟨w.heap.size, k, none⟩ = some (.int .u32 ((h.getD k 0).toNat : Int)) := by
  rw [hi.1.cell, ← hC, ← wordsTo_all hh, wordsTo_get (by omega)]
theorem FinInv.step (hi : FinInv w hc h R g k wr) {wr' : World} (hE : Ext wr wr') (hR : R.length = 8) (hh : h.length = 8) (hk : k < 8) : FinInv w hc h R g (k + 1) (wr'.setCell ⟨g, k, none⟩ (.int .u32 ((R.getD k 0 + h.getD k 0).toNat : Int))) := by
  obtain ⟨q1, ⟨o8, q5, q6⟩, q3, q4, q7⟩ := hi
  refine ⟨(q1.ext hE).far' (by omega) _ _, ⟨o8, (q5.ext hE).far' (by omega) _ _, q6⟩, ?_, (q4.trans hE).setCell (by simp; omega) _, q7⟩
  have := (q3.ext hE).set_ k (.int .u32 ((R.getD k 0 + h.getD k 0).toNat : Int))
  have e : (wordsTo 8 (finAt R h k)).setIfInBounds k (.int .u32 ((R.getD k 0 + h.getD k 0).toNat : Int)) = wordsTo 8 (finAt R h (k + 1)) := by
    rw [wordsTo_all (finAt_length hR hh (by omega)), wordsTo_all (finAt_length hR hh (by omega))]
    apply Array.ext'
    rw [Array.toList_setIfInBounds]
    dsimp only
    have e1 : finAt R h (k + 1) = (finAt R h k).set k (R.getD k 0 + h.getD k 0) := by
      unfold finAt
      rw [take_step _ k (by simp; omega), List.set_append_right _ _ (by simp; omega)]
      rw [show k - ((List.zipWith (· + ·) R h).take k).length = 0 from by simp; omega]
      rw [List.drop_eq_getElem_cons (show k < R.length by omega)]
      rw [List.set_cons_zero, List.append_assoc, List.getD_eq_getElem?_getD, List.getD_eq_getElem?_getD, List.getElem?_eq_getElem (show k < R.length by omega), List.getElem?_eq_getElem (show k < h.length by omega), List.getElem_zipWith]
      rfl
    rw [e1, List.map_set]
    rfl
  rw [e] at this
  exact this
theorem FinInv.drew (hi : FinInv w hc h R g k wr) : FinInv w hc h R g k wr.drew := by
  obtain ⟨q1, ⟨o8, q5, q6⟩, q3, q4, q7⟩ := hi
  exact ⟨q1.drew, ⟨o8, q5.drew, q6⟩, q3.drew, q4.drew, q7⟩
theorem finAt_end (hR : R.length = 8) (hh : h.length = 8) : finAt R h 8 = List.zipWith (· + ·) R h := by
  unfold finAt
  rw [List.take_of_length_le (by simp; omega), List.drop_of_length_le (by omega), List.append_nil]
end
end Go.Proofs.YtihghljfmlbfhaaDoor


namespace Go.Proofs.YtihghljfmlbfhaaDoor
open Go.RowKit
theorem Reads.at_ {w : World} {b o n c : Nat} {xs : List Value} (h : Reads w 1 (.slice (some ⟨b, o, none⟩) n c) n xs) {j : Nat} {u : Value} (hj : xs[j]? = some u) : w.cell? ⟨b, o + j, none⟩ = some u := by
  obtain ⟨hl, A, c', e, _, _, hc⟩ := h
  have hjl : j < xs.length := by
    rcases Nat.lt_or_ge j xs.length with h | h
    · exact h
    · rw [List.getElem?_eq_none h] at hj; cases hj
  obtain ⟨b', o', e', hcc⟩ := hc (by omega)
  cases e
  cases e'
  exact hcc j u hj
theorem Reads.byteAt {w : World} {b o n c : Nat} {l : List UInt8} (h : Reads w 1 (.slice (some ⟨b, o, none⟩) n c) n (l.map u8v)) {j : Nat} (hj : j < l.length) : w.cell? ⟨b, o + j, none⟩ = some (.int .u8 ((l.getD j 0).toNat : Int)) :=
  h.at_ (by rw [List.getElem?_map, List.getD_eq_getElem?_getD, List.getElem?_eq_getElem hj]; rfl)
structure GB (w0 : World) (B : Nat) (v : Value) (n : Nat) (l : List UInt8) (wr : World) : Prop where
  own : wr.ownsRow B 5 1 v n (l.map u8v)
  ext : Ext w0 wr
  base : w0.heap.size ≤ B
  room : B ≤ wr.heap.size
theorem GB.nil {w0 wr : World} {B : Nat} (hE : Ext w0 wr) (hB : w0.heap.size ≤ B) (hR : B ≤ wr.heap.size) : GB w0 B (.slice none 0 0) 0 [] wr := ⟨World.ownsRow_nil _ _ _ _, hE, hB, hR⟩
theorem GB.len {w0 wr : World} {B n : Nat} {v : Value} {l : List UInt8} (h : GB w0 B v n l wr) : l.length = n := by have := h.own.1; simpa using this
theorem GB.to {w0 wr w1 : World} {B n : Nat} {v : Value} {l : List UInt8} (h : GB w0 B v n l wr) (hE : Ext wr w1) : GB w0 B v n l w1 := ⟨ownsRow_ext h.own hE, h.ext.trans hE, h.base, Nat.le_trans h.room hE.size'⟩
theorem GB.step {w0 wr w1 w2 : World} {B n n' : Nat} {v v' : Value} {l l' : List UInt8} (h : GB w0 B v n l wr) (hE : Ext wr w1) (hc : Chg (fun k => v.ownBlock = some k) w1 w2) (ho : w2.ownsRow B 5 1 v' n' (l'.map u8v)) : GB w0 B v' n' l' w2 :=
  ⟨ho, (h.ext.trans hE).trans' hc (fun _ _ h => h) (fun i hi e => by have := (h.own.lt i e).1; have := h.base; omega), h.base, Nat.le_trans h.room (Nat.le_trans hE.size' hc.size)⟩
theorem GB.blk {w0 wr w1 w2 : World} {B n : Nat} {v : Value} {l : List UInt8} (h : GB w0 B v n l wr) (hE : Ext wr w1) (hc : Chg (fun k => v.ownBlock = some k) w1 w2) {g : Nat} {t : TypeId} {cs : Array Value} (hb : Blk wr g t cs) (hg : g < B) : Blk w2 g t cs :=
  (hb.ext hE).chg hc (fun e => by have := (h.own.lt g e).1; omega)
theorem GB.reads {w0 wr : World} {B n : Nat} {v : Value} {l : List UInt8} (h : GB w0 B v n l wr) : Reads wr 1 v n (l.map u8v) := Reads.of_own h.own
end Go.Proofs.YtihghljfmlbfhaaDoor


namespace Go.Proofs.YtihghljfmlbfhaaDoor
open Go.RowKit
def strOf (l : List UInt8) : ByteArray := ⟨l.toArray⟩
theorem strOf_list (l : List UInt8) : (strOf l).data.toList = l := by simp [strOf]
theorem strOf_size (l : List UInt8) : (strOf l).size = l.length := by simp [strOf, ByteArray.size]
def byteV (b : UInt8) : Value := .int .u8 (b.toNat : Int)
section
variable {P : Program}
theorem run_str_of {src dst e : TypeId} (hs : P.underlying src = some (.slice e)) (he : P.underlying e = some (.int .u8)) (hd : P.underlying dst = some .string) {w : World} {v : Value} {n : Nat} {l : List UInt8} (hr : Reads w 1 v n (l.map byteV)) :
    (convert src dst v).run P w = .ok (.string (strOf l)) w := by
  obtain ⟨hl, A, c, rfl, _, _, hc⟩ := hr
  rw [List.length_map, Nat.mul_one] at hl
  subst hl
  cases A with
  | none =>
    have : l = [] := by
      cases l with
      | nil => rfl
      | cons x l => obtain ⟨b, o, e, _⟩ := hc (by simp); cases e
    subst this
    exact run_convert_bytes_nil w src e hs he _ c dst hd
  | some a =>
    refine run_convert_bytes_back w src dst e a c l hs he hd fun j hj => ?_
    obtain ⟨b, o, e2, hcc⟩ := hc (by omega)
    cases e2
    rw [add_lit]
    exact hcc j _ (by rw [List.getElem?_map, List.getElem?_eq_getElem hj]; rfl)
theorem wpList_strOf {ops : Array Oper} {rest : List Oper} {o : Oper} {a : Act} {w : World} {Q : Exit → Act → World → Prop} (hgd : o.guard = none) {src dst e : TypeId} {x : Operand} (ho : o.op = .convert src dst x)
    (hs : P.underlying src = some (.slice e)) (he : P.underlying e = some (.int .u8)) (hd : P.underlying dst = some .string) {v : Value} (hx : a.eval x = v) {n : Nat} {l : List UInt8} (hr : Reads w 1 v n (l.map byteV))
    (h : wpList P ops Q rest (a.put o.dst (.string (strOf l))) w) : wpList P ops Q (o :: rest) a w :=
  wpList_plain hgd fun _ hK => by
    have hrun := run_str_of (P := P) hs he hd hr
    unfold Oper.wp execOp
    simp only [ho, hx, hrun, Sem.run_bind, Sem.run_pure, Result.andThen_ok]
    exact hK _ _ h
theorem wpList_appS {ops : Array Oper} {rest : List Oper} {o : Oper} {a : Act} {w : World} {Q : Exit → Act → World → Prop} (hgd : o.guard = none) {sl x : Operand} {t u : TypeId}
    (ho : o.op = .call { callee := .builtin .append, args := #[sl, x], argTypes := #[t, u] })
    {B : Nat} {e : TypeId} (T : SlTy P t e 1 1) (hz : (P.info? e).map (·.zero) = some (some (.int .u8 0))) (hu : P.underlying u = some .string) {v : Value} {n : Nat} {xs : List Value} (hs : a.eval sl = v) (hown : w.ownsRow B e 1 v n xs) {s : ByteArray} (hx : a.eval x = .string s)
    (hbytes : n + s.size ≤ 140737488355328) (hbase : B ≤ w.heap.size)
    (h : ∀ (A' : Option Addr) (c' : Nat) w', w'.ownsRow B e 1 (.slice A' (n + s.size) c') (n + s.size) (xs ++ s.data.toList.map byteV) → Chg (fun k => v.ownBlock = some k) w w' → wpList P ops Q rest (a.put o.dst (.slice A' (n + s.size) c')) w') : wpList P ops Q (o :: rest) a w := by
  obtain ⟨ht, ⟨i, z, hi, hz2, hsize, hby, hzs⟩, _, _⟩ := T
  have hz' : i.zero = some (.int .u8 0) := by rw [hi] at hz; simpa using hz
  refine Lib.wpList_append_own_string (P := P) (w := w) hgd sl x t u ho B e i ht hu hi hz' hsize hby v n xs hs hown s hx (by unfold maxLen; omega) hbytes hbase fun v' w' h1 h2 _ => ?_
  obtain ⟨A', c', rfl⟩ := own_slice h1
  exact h A' c' w' h1 ⟨h2.os, h2.tape, h2.output, h2.size, fun k hk hn => h2.block k hk (fun e => hn e.symm)⟩
end
end Go.Proofs.YtihghljfmlbfhaaDoor


namespace Go.Proofs.YtihghljfmlbfhaaDoor
open Go.RowKit
section
variable {P : Program}
theorem run_eqItems_u8 {e : TypeId} (hu : P.underlying e = some (.int .u8)) (he : P.plainKey e = true) (d : Nat) (a b : List UInt8) (w : World) : ∀ is : List Nat, (∀ i ∈ is, i < a.length ∧ i < b.length) →
    (Op.eqItems (d + 1) e 1 (a.map byteV).toArray (b.map byteV).toArray is).run P w = .ok (is.all fun i => a.getD i 0 == b.getD i 0) w
  | [], _ => by simp [Op.eqItems]
  | i :: is, h => by
    obtain ⟨h1, h2⟩ := h i (by simp)
    have p1 : (part e (a.map byteV).toArray (i * 1)).run P w = .ok (byteV a[i]) w := run_part_plain w he (by simp [List.getElem?_eq_getElem h1])
    have p2 : (part e (b.map byteV).toArray (i * 1)).run P w = .ok (byteV b[i]) w := run_part_plain w he (by simp [List.getElem?_eq_getElem h2])
    have p3 : (Op.equalIn (d + 1) e (byteV a[i]) (byteV b[i])).run P w = .ok (a[i] == b[i]) w := by
      simp [Op.equalIn, run_underlying hu, byteV]
      rw [Bool.eq_iff_iff]
      simp
      exact ⟨fun h => UInt8.toNat_inj.1 (Int.ofNat_inj.1 h), fun h => by rw [h]⟩
    have ih := run_eqItems_u8 hu he d a b w is fun j hj => h j (by simp [hj])
    simp only [Op.eqItems, Sem.run_bind, p1, p2, p3, Result.andThen_ok]
    rw [List.all_cons, List.getD_eq_getElem?_getD, List.getD_eq_getElem?_getD, List.getElem?_eq_getElem h1, List.getElem?_eq_getElem h2]
    simp only [Option.getD_some]
    by_cases hab : a[i] = b[i]
    · simpa [hab] using ih
    · simp [hab]
theorem all_eq (a b : List UInt8) (n : Nat) (ha : a.length = n) (hb : b.length = n) : ((List.range n).all fun i => a.getD i 0 == b.getD i 0) = decide (a = b) := by
  rw [Bool.eq_iff_iff]
  simp only [List.all_eq_true, List.mem_range, beq_iff_eq, decide_eq_true_eq]
  constructor
  · intro h
    apply List.ext_getElem (by omega)
    intro i h1 h2
    have := h i (by omega)
    simpa [List.getD_eq_getElem?_getD, List.getElem?_eq_getElem h1, List.getElem?_eq_getElem h2] using this
  · rintro rfl i _; rfl
theorem run_eql_bytes {t e : TypeId} {n : Nat} (hu : P.underlying t = some (.array n e)) (hue : P.underlying e = some (.int .u8)) (he : P.plainKey e = true) {inf : TypeInfo} (hi : P.info? e = some inf) (h1 : P.cellsOf e = 1) {a b : List UInt8} (ha : a.length = n) (hb : b.length = n) (w : World) :
    (binOp .eql t (.agg (a.map byteV).toArray) (.agg (b.map byteV).toArray)).run P w = .ok (.bool (decide (a = b))) w := by
  have h := run_equalIn_array (P := P) w 9999 (a.map byteV).toArray (b.map byteV).toArray hu hi
  rw [h1, run_eqItems_u8 hue he 9998 a b w _ (fun i hm => by rw [List.mem_range] at hm; omega), all_eq a b n ha hb] at h
  simp only [binOp]
  simp [Op.equal, Op.maxDepth, h]
end
end Go.Proofs.YtihghljfmlbfhaaDoor


namespace Go.Proofs.YtihghljfmlbfhaaDoor
open Go.RowKit
end Go.Proofs.YtihghljfmlbfhaaDoor


namespace Go.Proofs.YtihghljfmlbfhaaDoor
open Go.RowKit
attribute [local go_sem] Oper.semAt_some
theorem chunk_any (A : Option Addr) (n c : Nat) (w : World) :
    Calls Tryd.prog 45 #[.slice A n c, .int .i64 64] w fun e w' => e = .returned (.func (.func 66) #[] #[.pointer (some ⟨w.heap.size, 0, none⟩), .pointer (some ⟨w.heap.size + 1, 0, none⟩)]) ∧
      (w.alloc (.cells #[.slice A n c] 24)).alloc (.cells #[.int .i64 64] 3) = w' := by
  go_enter Tryd.func45, Tryd.ntmps45
  go_wp2
  go_ret
  exact ⟨rfl, rfl⟩
theorem fin_step (m k : Nat) (h : k < m) : (List.finRange m).take (k + 1) = (List.finRange m).take k ++ [⟨k, h⟩] := by
  rw [take_step _ k (by simpa using h)]
  simp
theorem fin_map (m : Nat) : (List.finRange m).map Fin.val = List.range m := by
  apply List.ext_getElem
  · simp
  · intro i h1 h2; simp
set_option maxHeartbeats 1000000 in
theorem chunk_stops (b o c m : Nat) (Bs Bn : Nat) (S : Nat → Prop) (w : World) (hm : 64 * m ≤ 1000000000) (hc : 64 * m ≤ c) (hs : ¬ S Bs) (hn : ¬ S Bn)
    (h1 : w.cell? ⟨Bs, 0, none⟩ = some (.slice (some ⟨b, o, none⟩) (64 * m) c)) (h2 : w.cell? ⟨Bn, 0, none⟩ = some (.int .i64 64)) :
    SeqStopsK Fence.wide 2 Tryd.prog 66 #[.pointer (some ⟨Bs, 0, none⟩), .pointer (some ⟨Bn, 0, none⟩)] (fun x : Fin m => #[.slice (some ⟨b, o + 64 * x.val, none⟩) 64 64]) (KeepC S) (fun ys => ys = List.finRange m) (fun _ => True) m w := by
  intro l J Jx W hW hJ hJx hY h0
  have k1 := (hW.cell (p := ⟨Bs, 0, none⟩) (lt_of_cell h1)).trans h1
  have k2 := (hW.cell (p := ⟨Bn, 0, none⟩) (lt_of_cell h2)).trans h2
  clear h1 h2
  refine callsIn_wide.2 ?_
  go_enter Tryd.func66, Tryd.ntmps66
  go_wp2
  go_loopw [4] (fun i wr => ∃ k : Nat, k ≤ m ∧ i = .int .i64 ((64 * k : Nat) : Int) ∧ Hid (J ((List.finRange m).take k) wr) ∧ wr.cell? ⟨Bs, 0, none⟩ = some (.slice (some ⟨b, o, none⟩) (64 * m) c) ∧ wr.cell? ⟨Bn, 0, none⟩ = some (.int .i64 64)) (fun i _ => 64 * m - (intOf i).toNat)
  case atStart => exact ⟨0, Nat.zero_le _, rfl, hide h0, k1, k2⟩
  case round =>
    obtain ⟨k, hk, rfl, hj, g1, g2⟩ := hrel
    by_cases hlt : k < m
    · have e1 : ¬ 64 * k = c := by omega
      have e2 : 64 * k < 64 * m := by omega
      have e3 : 64 ≤ 64 * m - 64 * k := by omega
      go_wp2
      go_quiet (fail)
      go_upto_region 4 with fail
      have hj' := hJ _ _ (wr.drewN nq) none (unhide hj) ⟨rfl, rfl, rfl, Nat.le_refl _, fun _ _ _ => rfl⟩ (fun r e => by cases e)
      obtain ⟨fn, tmps, assign, body, hy, hR⟩ := hY ((List.finRange m).take k) ⟨k, hlt⟩ (wr.drewN nq) hj' (by simp; omega)
      dsimp only at hy
      refine (wpIn_wide (n := 2)).1 ?_
      gi_wp2
      clear hy
      refine hR.mono ?_
      rintro e W3 (⟨rfl, hJ3, hk3⟩ | ⟨rfl, hJx3⟩)
      · have g1' := hk3 _ _ hs g1
        have g2' := hk3 _ _ hn g2
        have hJ4 := hide hJ3
        clear hJ3 hk3
        gi_wp2
        go_wp2
        go_roundw
        case rel => exact ⟨k + 1, by omega, by go_num, hide (by rw [fin_step m k hlt]; exact unhide hJ4), g1', g2'⟩
        case measure => simp [intOf]; omega
      · gi_wp2
        go_wp2
        refine bodyPost_ret (results_none rfl _ _ _) rfl ?_
        exact ⟨⟨_, rfl⟩, .inr ⟨_, trivial, hJx3⟩⟩
    · obtain rfl : k = m := by omega
      go_wp2
      go_end0
      exact ⟨⟨_, rfl⟩, .inl ⟨_, rfl, by have := unhide hj; rwa [List.take_of_length_le (by simp)] at this⟩⟩
end Go.Proofs.YtihghljfmlbfhaaDoor


namespace Go.Proofs.YtihghljfmlbfhaaDoor
open Go.RowKit
set_option maxRecDepth 100000 in
set_option maxHeartbeats 4000000 in
theorem compress_any (h : List UInt32) (bs : List UInt8) (v : Value) (w : World) (hM : ShaMem w) (hh : h.length = 8) (hb : bs.length = 64) (hr : Reads w 1 v 64 (bs.map u8v)) :
    Calls Tryd.prog 44 #[.agg (h.map w32).toArray, v] w fun e w' => e = .returned (.agg ((shaBlock h bs).map w32).toArray) ∧ Ext w w' := by
  have HM := hide hM
  have HR := hide hr
  obtain ⟨b0, o0, c0, rfl, hc64, hcm, hb0, _⟩ := hr.sub 0 64 (by omega) (by omega)
  unfold maxLen at hcm
  clear hM hr
  have HH := hide hh
  have HB := hide hb
  clear hh hb
  generalize hcs : (h.map w32).toArray = hc
  have HC := hide hcs
  clear hcs
  go_enter Tryd.func44, Tryd.ntmps44
  go_wp2
  go_loopw [15] (fun i wr => ∃ k : Nat, k ≤ 64 ∧ i = .int .i64 k ∧ Hid (SchInv w hc bs k wr)) (fun i _ => 64 - (intOf i).toNat)
  case atStart =>
    refine ⟨0, Nat.zero_le _, rfl, hide ⟨((Blk.new w _ hc).alloc _).alloc _, ⟨_, (Blk.new' _ _ _ (by simp)).alloc _, rfl⟩, ?_, (((Ext.refl w).alloc _).alloc _).alloc _⟩⟩
    have := Blk.new' ((w.alloc (Obj.cells hc 112)).alloc (Obj.cells #[Value.int IntKind.u32 0, Value.int IntKind.u32 0, Value.int IntKind.u32 0, Value.int IntKind.u32 0, Value.int IntKind.u32 0, Value.int IntKind.u32 0, Value.int IntKind.u32 0, Value.int IntKind.u32 0] 112)) 131 (wordsTo 64 (schedAt bs 0)) (g := w.heap.size + 1 + 1) (by simp)
    rw [show wordsTo 64 (schedAt bs 0) = Array.replicate 64 (Value.int .u32 0) from wordsTo_zero 64] at this ⊢
    exact this
  case round =>
    obtain ⟨k, hk, rfl, HS⟩ := hrel
    by_cases hlt : k < 64
    · have hL := schedAt_length bs k
      obtain ⟨old, hold⟩ : ∃ old, wr.cell? ⟨w.heap.size + 1 + 1, k, none⟩ = some old := by
        rw [(unhide HS).2.2.1.cell]
        exact ⟨_, Array.getElem?_eq_getElem (by rw [wordsTo_size (by omega)]; exact hlt)⟩
      have hfz := (unhide HS).2.2.1.frozen k
      by_cases h16 : k < 16
      · have hk4 : 4 * k + 4 ≤ 64 := by omega
        obtain ⟨b1, o1, c1, e, _, _, _, hsub⟩ := ((unhide HR).ext (unhide HS).2.2.2).sub (4 * k) 4 hk4 (by omega)
        cases e
        have HQ := hide hsub
        clear hsub
        have HL := hide (show ((bs.drop (4 * k)).take 4).length = 4 from by have := unhide HB; simp; omega)
        go_wp2_with fail
        refine (load_any ((bs.drop (4 * k)).take 4) _ _ ?hl).mono ?_
        case hl =>
          rw [unhide HL, List.map_take, List.map_drop]
          exact unhide HQ
        rintro e w1 ⟨rfl, rfl⟩
        clear HQ
        generalize hx : beWord ((bs.drop (4 * k)).take 4) = x
        have HX := hide hx
        clear hx
        go_wp2
        go_roundw
        case rel =>
          exact ⟨k + 1, by omega, by go_num, hide ((unhide HS).step (Ext.refl _) hlt (by rw [if_pos h16, unhide HX]))⟩
        case measure => simp [intOf]; omega
      · obtain ⟨j, rfl⟩ : ∃ j, k = j + 16 := ⟨k - 16, by omega⟩
        have cx : ∀ i, i < j + 16 → wr.cell? ⟨w.heap.size + 1 + 1, i, none⟩ = some (.int .u32 (((schedAt bs (j + 16)).getD i 0).toNat : Int)) := fun i hi => by
          rw [(unhide HS).2.2.1.cell]
          exact wordsTo_get (by omega)
        have HN := hide (show schedNext (schedAt bs (j + 16)) = (schedAt bs (j + 16)).getD j 0 + ((rotrW ((schedAt bs (j + 16)).getD (j + 1) 0) 7 ^^^ rotrW ((schedAt bs (j + 16)).getD (j + 1) 0) 18) ^^^ ((schedAt bs (j + 16)).getD (j + 1) 0 >>> 3)) + (schedAt bs (j + 16)).getD (j + 9) 0 +
            ((rotrW ((schedAt bs (j + 16)).getD (j + 14) 0) 17 ^^^ rotrW ((schedAt bs (j + 16)).getD (j + 14) 0) 19) ^^^ ((schedAt bs (j + 16)).getD (j + 14) 0 >>> 10)) from by
          unfold schedNext
          simp only [hL, show j + 16 - 15 = j + 1 from by omega, show j + 16 - 2 = j + 14 from by omega, show j + 16 - 16 = j from by omega, show j + 16 - 7 = j + 9 from by omega])
        have c0' := cx j (by omega)
        have c1 := cx (j + 1) (by omega)
        have c9 := cx (j + 9) (by omega)
        have c14 := cx (j + 14) (by omega)
        clear cx
        generalize (schedAt bs (j + 16)).getD j 0 = x0 at *
        generalize (schedAt bs (j + 16)).getD (j + 1) 0 = x1 at *
        generalize (schedAt bs (j + 16)).getD (j + 9) 0 = x9 at *
        generalize (schedAt bs (j + 16)).getD (j + 14) 0 = x14 at *
        have d16 : decide ((j : Int) + 16 < 16) = false := decide_eq_false (by omega)
        have d64 : decide ((j : Int) + 16 < 64) = true := decide_eq_true (by omega)
        have hj : j < 48 := by omega
        clear h16 hk hlt
        go_upto_region 7 with fail
        have i15 : (((j + 16 : Nat) : Int) - 15) = ((j + 1 : Nat) : Int) := by omega
        have i2 : (((j + 16 : Nat) : Int) - 2) = ((j + 14 : Nat) : Int) := by omega
        go_quiet (fail)
        go_upto_region 8 with fail
        have i16 : IntKind.i64.wrap (((j + 16 : Nat) : Int) - 16) = (j : Int) := (IntWalk.i64_in _ (by omega)).trans (by omega)
        have i7 : IntKind.i64.wrap (((j + 16 : Nat) : Int) - 7) = ((j + 9 : Nat) : Int) := (IntWalk.i64_in _ (by omega)).trans (by omega)
        have i7' : IntKind.i64.wrap ((j : Int) + 16 - 7) = (j : Int) + 9 := (IntWalk.i64_in _ (by omega)).trans (by omega)
        have i9 : IntKind.i64.wrap ((j : Int) + 9) = (j : Int) + 9 := IntWalk.i64_in _ (by omega)
        have i0 : IntKind.i64.wrap (j : Int) = (j : Int) := IntWalk.i64_in _ (by omega)
        have b0 : (0 : Int) ≤ (j : Int) + 9 ∧ (j : Int) + 9 < 64 ∧ (j : Int) < 64 ∧ (j : Int) + 16 < 64 ∧ (0 : Int) ≤ (j : Int) + 16 := by omega
        obtain ⟨b1, b2, b3, b4, b5⟩ := b0
        have t9 : ((j : Int) + 9).toNat = j + 9 := by omega
        have t16 : ((j : Int) + 16).toNat = j + 16 := by omega
        have HO := hide (And.intro c1 c14)
        clear c1 c14 i15 i2 d16 d64
        go_region_held3 (fun w' => w'.cell? ⟨w.heap.size + 1 + 1, j, none⟩ = some (.int .u32 (x0.toNat : Int)) ∧ w'.cell? ⟨w.heap.size + 1 + 1, j + 9, none⟩ = some (.int .u32 (x9.toNat : Int)) ∧ w'.cell? ⟨w.heap.size + 1 + 1, j + 16, none⟩ = some (held w' ⟨w.heap.size + 1 + 1, j + 16, none⟩) ∧ w'.frozen? ⟨w.heap.size + 1 + 1, j + 16, none⟩ = false) (first | exact ⟨c0', c9, cell_held hold, hfz⟩ | exact keepS _ (by assumption) | exact keepT _ (by omega) (by omega) (by assumption) | assumption)
          (first
            | (go_at_call 65; refine (rotr_7_18 _ _ _ ?_ ?_).mono ?_; (first | (refine new_cell _ _ _ ?_ ?_; (focus (simp; done)); (focus rfl)) | (refine old_cell _ _ (new_cell _ _ _ ?_ ?_); (focus (simp; done)); (focus rfl))); (first | (refine new_cell _ _ _ ?_ ?_; (focus (simp; done)); (focus rfl)) | (refine old_cell _ _ (new_cell _ _ _ ?_ ?_); (focus (simp; done)); (focus rfl))); rintro e w' ⟨rfl, rfl⟩)
            | (go_at_call 65; refine (rotr_17_19 _ _ _ ?_ ?_).mono ?_; (first | (refine new_cell _ _ _ ?_ ?_; (focus (simp; done)); (focus rfl)) | (refine old_cell _ _ (new_cell _ _ _ ?_ ?_); (focus (simp; done)); (focus rfl))); (first | (refine new_cell _ _ _ ?_ ?_; (focus (simp; done)); (focus rfl)) | (refine old_cell _ _ (new_cell _ _ _ ?_ ?_); (focus (simp; done)); (focus rfl))); rintro e w' ⟨rfl, rfl⟩))
        all_goals
          go_wp2
          go_roundw
          case rel =>
            rw [sched_val]
            exact ⟨j + 16 + 1, by omega, by go_num, hide ((unhide HS).step ((((Ext.refl wr).drewN _).alloc _).alloc _) (by omega) (by rw [if_neg (by omega)]; exact unhide HN))⟩
          case measure => simp [intOf]; omega
    · obtain rfl : k = 64 := by omega
      clear hk hlt
      obtain ⟨wo, rfl⟩ : ∃ wo : World, wo = wr := ⟨_, rfl⟩
      obtain ⟨kc, hkc⟩ : ∃ kc, (shaK.map w32).toArray = kc := ⟨_, rfl⟩
      have HKC := hide hkc
      clear hkc
      have H8 := hide (show hc.size = 8 ∧ hc.all (·.oneCell') = true from by rw [← unhide HC]; exact ⟨by simpa using unhide HH, words_one h⟩)
      have HKM := hide ((unhide HM).ext (unhide HS).2.2.2).k
      go_wp2_with (first
        | (refine wpList_loadB (ty := 112) (t := 112) (x := .tmp 2) rfl rfl state_wide rfl (unhide HS).1 (unhide H8).1 ?_)
        | (refine wpList_storeB (ty := 112) (t := 112) (x := .tmp 9) (y := .tmp 64) rfl rfl state_wide rfl rfl (Blk.new _ _ _) rfl (unhide H8).1 (unhide H8).2 ?_
           intro w2 hb2 hc2 hz2
           have HQ := hide (And.intro hb2 hc2)
           have hz3 : wo.heap.size < w2.heap.size := by rw [hz2]; simp
           clear hb2 hc2 hz2)
        | (refine wpList_loadR (ty := 131) (x := .global 1) rfl rfl arr64_wide rfl (arr := kc) (cs := shaK.map w32) ?_ rfl (unhide HKC) ?_
           · exact rangeAt_chg (rangeAt_chg (unhide HKM) ((Ext.refl wo).alloc _) (fun h => h)) (unhide HQ).2 (fun e => by have := lt_of_cell ((unhide HKM) 0 _ rfl); simp at e this; omega)))
      have HE2 := hide (show Ext wo w2 from ((Ext.refl wo).alloc (.cells #[Value.int IntKind.u32 0, Value.int IntKind.u32 0, Value.int IntKind.u32 0, Value.int IntKind.u32 0, Value.int IntKind.u32 0, Value.int IntKind.u32 0, Value.int IntKind.u32 0, Value.int IntKind.u32 0] 112)).trans' (unhide HQ).2 (fun _ _ h => h) (fun i hi e => by omega))
      have HI := hide (show RndInv w hc h bs wo.heap.size 0 w2 from by
        obtain ⟨q1, ⟨o8, q5, q6⟩, q3, q4⟩ := unhide HS
        refine ⟨q1.ext (unhide HE2), ⟨o8, q5.ext (unhide HE2), q6⟩, q3.ext (unhide HE2), ?_, q4.trans (unhide HE2), q3.lt⟩
        rw [roundsAt, wordsTo_all (unhide HH), unhide HC]
        exact (unhide HQ).1)
      clear HQ HE2 HKM hz3
      go_loopw [66] (fun i wr => ∃ k : Nat, k ≤ 64 ∧ i = .int .i64 k ∧ Hid (RndInv w hc h bs wo.heap.size k wr)) (fun i _ => 64 - (intOf i).toNat)
      case atStart => exact ⟨0, Nat.zero_le _, rfl, HI⟩
      case round =>
        clear HI
        obtain ⟨k, hk, rfl, HI⟩ := hrel
        by_cases hlt : k < 64
        · have cv : ∀ i, i < 8 → wr.cell? ⟨wo.heap.size, i, none⟩ = some (.int .u32 (((roundsAt bs h k).getD i 0).toNat : Int)) := fun i hi => by
            rw [(unhide HI).2.2.2.1.cell]
            exact wordsTo_get (by rw [roundsAt_length _ _ (unhide HH)]; exact hi)
          have cw : wr.cell? ⟨w.heap.size + 1 + 1, k, none⟩ = some (.int .u32 (((sched bs).getD k 0).toNat : Int)) := by
            rw [(unhide HI).2.2.1.cell]
            exact wordsTo_get (by unfold sched; rw [schedAt_length]; exact hlt)
          have hidx : ∀ W, (Instr.index 131 (.agg kc) (.int .i64 (k : Int))).run Tryd.prog W = .ok (.int .u32 ((shaK.getD k 0).toNat : Int)) W := fun W =>
            run_index_arr (inf := _) Tryd.underlying131 (by kernel_rfl) rfl (by kernel_rfl) hlt (by rw [← unhide HKC]; exact wordsK hlt) W
          have HN := hide (show roundsAt bs h (k + 1) = shaRound (roundsAt bs h k) (shaK.getD k 0) ((sched bs).getD k 0) from rfl)
          have v0 := cv 0 (by omega)
          have v1 := cv 1 (by omega)
          have v2 := cv 2 (by omega)
          have v3 := cv 3 (by omega)
          have v4 := cv 4 (by omega)
          have v5 := cv 5 (by omega)
          have v6 := cv 6 (by omega)
          have v7 := cv 7 (by omega)
          clear cv
          unfold shaRound at HN
          generalize (roundsAt bs h k).getD 0 0 = x0 at *
          generalize (roundsAt bs h k).getD 1 0 = x1 at *
          generalize (roundsAt bs h k).getD 2 0 = x2 at *
          generalize (roundsAt bs h k).getD 3 0 = x3 at *
          generalize (roundsAt bs h k).getD 4 0 = x4 at *
          generalize (roundsAt bs h k).getD 5 0 = x5 at *
          generalize (roundsAt bs h k).getD 6 0 = x6 at *
          generalize (roundsAt bs h k).getD 7 0 = x7 at *
          generalize (sched bs).getD k 0 = xw at *
          generalize shaK.getD k 0 = xk at *
          have d64 : decide ((k : Int) < 64) = true := decide_eq_true (by omega)
          have b64 : (k : Int) < 64 := by omega
          have HO := hide (And.intro v0 (And.intro v1 (And.intro v2 (And.intro v3 (And.intro v4 (And.intro v5 v6))))))
          clear v0 v1 v2 v3
          go_upto_region 14 with fail
          have t1 : (0 : Int) ≤ (k : Int) := by omega
          clear hidx d64
          go_cut [12] (fun s12 wx => ∃ T : UInt32, s12 = .int .u32 (T.toNat : Int) ∧ Hid (T = x7 + (rotrW x4 6 ^^^ rotrW x4 11 ^^^ rotrW x4 25) + ((x4 &&& x5) ^^^ (~~~x4 &&& x6)) + xk + xw ∧ Ext wr wx))
          case first =>
            go_region_held3 (fun w' => w'.cell? ⟨wo.heap.size, 7, none⟩ = some (.int .u32 (x7.toNat : Int)) ∧ w'.cell? ⟨wo.heap.size, 4, none⟩ = some (.int .u32 (x4.toNat : Int)) ∧ w'.cell? ⟨wo.heap.size, 5, none⟩ = some (.int .u32 (x5.toNat : Int)) ∧ w'.cell? ⟨wo.heap.size, 6, none⟩ = some (.int .u32 (x6.toNat : Int)) ∧ w'.cell? ⟨w.heap.size + 1 + 1, k, none⟩ = some (.int .u32 (xw.toNat : Int))) (first | exact ⟨v7, v4, v5, v6, cw⟩ | exact keep5 _ (by assumption) | assumption)
              (first
                | (go_at_call 65; refine (rotr_6_11_25 _ _ _ ?_ ?_ ?_).mono ?_; (refine new_cell _ _ _ ?_ ?_; (focus (simp; done)); (focus rfl)); (refine new_cell _ _ _ ?_ ?_; (focus (simp; done)); (focus rfl)); (refine new_cell _ _ _ ?_ ?_; (focus (simp; done)); (focus rfl)); rintro e w' ⟨rfl, rfl⟩))
            all_goals (go_wp2_with fail; go_meet)
            all_goals
              rw [t_val]
              exact ⟨_, rfl, hide ⟨rfl, ((Ext.refl wr).alloc _).drew⟩⟩
          case rest =>
            obtain ⟨T, rfl, HT⟩ := hcut
            obtain ⟨wp, rfl⟩ : ∃ wp : World, wp = wc := ⟨_, rfl⟩
            clear v7 v4 v5 v6 cw
            have HP := hide (And.intro (unhide HI) (unhide HT).2)
            have v0 := Ext.cellv (unhide HT).2 (unhide HO).1
            have v1 := Ext.cellv (unhide HT).2 (unhide HO).2.1
            have v2 := Ext.cellv (unhide HT).2 (unhide HO).2.2.1
            go_upto_region 15 with fail
            go_cut [13] (fun s13 wx => ∃ U : UInt32, s13 = .int .u32 (U.toNat : Int) ∧ Hid (U = (rotrW x0 2 ^^^ rotrW x0 13 ^^^ rotrW x0 22) + (((x0 &&& x1) ^^^ (x0 &&& x2)) ^^^ (x1 &&& x2)) ∧ Ext wp wx))
            case first =>
              go_region_held3 (fun w' => w'.cell? ⟨wo.heap.size, 0, none⟩ = some (.int .u32 (x0.toNat : Int)) ∧ w'.cell? ⟨wo.heap.size, 1, none⟩ = some (.int .u32 (x1.toNat : Int)) ∧ w'.cell? ⟨wo.heap.size, 2, none⟩ = some (.int .u32 (x2.toNat : Int))) (first | exact ⟨v0, v1, v2⟩ | exact keepc3 _ (by assumption) | assumption)
                (first
                  | (go_at_call 65; refine (rotr_2_13_22 _ _ _ ?_ ?_ ?_).mono ?_; (refine new_cell _ _ _ ?_ ?_; (focus (simp; done)); (focus rfl)); (refine new_cell _ _ _ ?_ ?_; (focus (simp; done)); (focus rfl)); (refine new_cell _ _ _ ?_ ?_; (focus (simp; done)); (focus rfl)); rintro e w' ⟨rfl, rfl⟩))
              all_goals (go_wp2_with fail; go_meet)
              all_goals
                rw [u_val]
                exact ⟨_, rfl, hide ⟨rfl, ((Ext.refl wp).alloc _).drew⟩⟩
            case rest =>
              obtain ⟨U, rfl, HU⟩ := hcut
              have HX := hide ((unhide HT).2.trans (unhide HU).2)
              clear v0 v1 v2
              have v0 := Ext.cellv (unhide HX) (unhide HO).1
              have v1 := Ext.cellv (unhide HX) (unhide HO).2.1
              have v2 := Ext.cellv (unhide HX) (unhide HO).2.2.1
              have v3 := Ext.cellv (unhide HX) (unhide HO).2.2.2.1
              have v4 := Ext.cellv (unhide HX) (unhide HO).2.2.2.2.1
              have v5 := Ext.cellv (unhide HX) (unhide HO).2.2.2.2.2.1
              have v6 := Ext.cellv (unhide HX) (unhide HO).2.2.2.2.2.2
              have a1 : ((T.toNat : Int) + (U.toNat : Int)) % 4294967296 = ((T + U).toNat : Int) := add32 T U
              have a2 : ((x3.toNat : Int) + (T.toNat : Int)) % 4294967296 = ((x3 + T).toNat : Int) := add32 x3 T
              have HA := hide (And.intro a1 a2)
              clear a1 a2
              have HW := hide (wordsTo_size (n := 8) (show (roundsAt bs h k).length ≤ 8 from by rw [roundsAt_length _ _ (unhide HH)]; omega))
              go_wp2_with (refine wpList_storeB (ty := 112) (t := 112) (x := .tmp 9) (y := .tmp 137) rfl rfl state_wide rfl rfl ((unhide HI).2.2.2.1.ext (unhide HX)) (unhide HW) ?_ ?_ ?_; (focus rfl); (focus (rw [← Array.all_toList]; rfl)); intro w5 hb5 hc5 hz5; have HQ := hide (And.intro hb5 (And.intro hc5 hz5)); clear hb5 hc5 hz5)
              go_roundw
              case rel =>
                refine ⟨k + 1, by omega, by go_num, hide ?_⟩
                obtain ⟨q1, ⟨o8, q5, q6⟩, q3, q4, q7, q8⟩ := unhide HI
                obtain ⟨hb5, hc5, hz5⟩ := unhide HQ
                have n1 : ¬ w.heap.size = wo.heap.size := by omega
                have n2 : ¬ w.heap.size + 1 = wo.heap.size := by omega
                have n3 : ¬ w.heap.size + 1 + 1 = wo.heap.size := by omega
                refine ⟨(q1.ext (unhide HX)).chg hc5 n1, ⟨o8, (q5.ext (unhide HX)).chg hc5 n2, q6⟩, (q3.ext (unhide HX)).chg hc5 n3, ?_, (q7.trans (unhide HX)).trans' hc5 (fun _ _ h => h) (fun i hi e => by omega), q8⟩
                rw [(unhide HA).1, (unhide HA).2] at hb5
                rw [unhide HN]
                dsimp only
                rw [← (unhide HT).1, ← (unhide HU).1]
                exact hb5
              case measure => simp [intOf]; omega
        · obtain rfl : k = 64 := by omega
          clear hk hlt
          obtain ⟨wq, rfl⟩ : ∃ wq : World, wq = wr := ⟨_, rfl⟩
          go_wp2
          have HR0 := hide (roundsAt_length bs h (unhide HH) 64)
          go_loopw [139] (fun i wr => ∃ k : Nat, k ≤ 8 ∧ i = .int .i64 k ∧ Hid (FinInv w hc h (roundsAt bs h 64) wo.heap.size k wr)) (fun i _ => 8 - (intOf i).toNat)
          case atStart => exact ⟨0, Nat.zero_le _, rfl, hide (FinInv.start (unhide HI))⟩
          case round =>
            clear HI
            obtain ⟨k, hk, rfl, HI⟩ := hrel
            by_cases hlt : k < 8
            · have c1 := (unhide HI).new (unhide HR0) (unhide HH) hlt
              have c2 := (unhide HI).old (unhide HC) (unhide HH) hlt
              have f1 := (unhide HI).2.2.1.frozen k
              have HST := hide (fun wr' (hE : Ext wr wr') => (unhide HI).step hE (unhide HR0) (unhide HH) hlt)
              generalize (roundsAt bs h 64).getD k 0 = xr at *
              generalize h.getD k 0 = xh at *
              have d8 : decide ((k : Int) < 8) = true := decide_eq_true (by omega)
              have b8 : (k : Int) < 8 := by omega
              have HA := hide (add32 xr xh)
              go_upto_region 21 with fail
              go_region
              all_goals
                go_wp2
                go_roundw
                case rel =>
                  rw [unhide HA]
                  exact ⟨k + 1, by omega, by go_num, hide (by first | exact (unhide HST _ (Ext.refl _)).drew | exact unhide HST _ ((Ext.refl _).drew))⟩
                case measure => simp [intOf]; omega
            · obtain rfl : k = 8 := by omega
              clear hk hlt
              obtain ⟨q1, ⟨o8, q5, q6⟩, q3, q4, q7⟩ := unhide HI
              have HQ := hide (And.intro q5 (And.intro q6 (And.intro q3 q4)))
              clear q1 q5 q6 q3 q4
              have HZ := hide (show wordsTo 8 (finAt (roundsAt bs h 64) h 8) = ((shaBlock h bs).map w32).toArray from by
                rw [finAt_end (unhide HR0) (unhide HH)]
                exact wordsTo_all (by simp; rw [unhide HR0, unhide HH]; rfl))
              have HW := hide (show (wordsTo 8 (finAt (roundsAt bs h 64) h 8)).size = 8 ∧ (wordsTo 8 (finAt (roundsAt bs h 64) h 8)).all (·.oneCell') = true from by
                rw [unhide HZ]
                exact ⟨by simp [shaBlock]; rw [show (shaRounds bs h).length = 8 from unhide HR0, unhide HH]; rfl, words_one _⟩)
              generalize wordsTo 8 (finAt (roundsAt bs h 64) h 8) = res at *
              go_wp2_with (first
                | (refine wpList_loadB (ty := 112) (t := 112) (x := .tmp 9) rfl rfl state_wide rfl (unhide HQ).2.2.1 (unhide HW).1 ?_)
                | (refine wpList_storeB (ty := 112) (t := 112) (x := .tmp 4) (y := .tmp 151) rfl rfl state_wide rfl rfl (unhide HQ).1 (unhide HQ).2.1 (unhide HW).1 (unhide HW).2 ?_
                   intro w9 hb9 hc9 hz9
                   have HV := hide (And.intro hb9 hc9)
                   clear hb9 hc9 hz9))
              refine bodyPost_ret (v := .agg res) (results_blk state_wide rfl (unhide HV).1 (unhide HW).1 rfl) rfl ⟨by rw [unhide HZ], ?_⟩
              exact (unhide HQ).2.2.2.trans' (unhide HV).2 (fun _ _ h => h) (fun i hi e => by omega)
end Go.Proofs.YtihghljfmlbfhaaDoor


namespace Go.Proofs.YtihghljfmlbfhaaDoor
open Go.RowKit
attribute [local go_sem] Oper.semAt_some
def padTo (l : List UInt8) (k : Nat) : List UInt8 := l ++ [128] ++ List.replicate k 0
theorem padTo_length (l : List UInt8) (k : Nat) : (padTo l k).length = l.length + 1 + k := by simp [padTo]; omega
theorem padTo_step (l : List UInt8) (k : Nat) : padTo l (k + 1) = padTo l k ++ [0] := by unfold padTo; rw [List.replicate_succ', List.append_assoc, List.append_assoc, List.append_assoc]
def shaFold (P : List UInt8) (l : List Nat) (v : List UInt32) : List UInt32 := l.foldl (fun v i => shaBlock v ((P.drop (64 * i)).take 64)) v
theorem shaFold_blocks (m : Nat) (v : List UInt32) (P : List UInt8) : shaFold P (List.range m) v = shaBlocks m v P := by
  induction m generalizing v P with
  | zero => rfl
  | succ m ih =>
    have e2 : ∀ i, (P.drop 64).drop (64 * i) = P.drop (64 * (i + 1)) := fun i => by rw [List.drop_drop, show 64 + 64 * i = 64 * (i + 1) from by omega]
    have h := ih (shaBlock v (P.take 64)) (P.drop 64)
    refine Eq.trans ?_ h
    unfold shaFold
    simp only [e2]
    rw [List.range_succ_eq_map, List.foldl_cons, List.foldl_map, Nat.mul_zero, List.drop_zero]
theorem shaFold_length (P : List UInt8) (l : List Nat) (v : List UInt32) (h : v.length = 8) : (shaFold P l v).length = 8 := by
  unfold shaFold
  induction l generalizing v with
  | nil => exact h
  | cons i l ih =>
    rw [List.foldl_cons]
    refine ih _ ?_
    unfold shaBlock
    rw [List.length_zipWith, h]
    rw [show (shaRounds ((P.drop (64 * i)).take 64) v).length = 8 from roundsAt_length _ _ h 64]
    rfl
def outAt (l : List UInt32) (k : Nat) : List UInt8 := (l.take k).flatMap fun w => beBytes w.toNat 4
theorem outAt_step (l : List UInt32) (k : Nat) (h : k < l.length) : outAt l (k + 1) = outAt l k ++ beBytes (l.getD k 0).toNat 4 := by
  unfold outAt
  rw [take_step l k h, List.flatMap_append, List.getD_eq_getElem?_getD, List.getElem?_eq_getElem h]
  simp
theorem outAt_length (l : List UInt32) (k : Nat) (h : k ≤ l.length) : (outAt l k).length = 4 * k := by
  induction k with
  | zero => simp [outAt]
  | succ k ih => rw [outAt_step l k h, List.length_append, ih (by omega), beBytes_length]; omega
theorem Blk.putObj {W : World} {g : Nat} {t : TypeId} {cs : Array Value} (h : Blk W g t cs) {D : Nat} {o o' : Obj} (hd : W.heap[D]? = some o) (ho : o.isCells = false) : Blk (W.putObj D o') g t cs := by
  have hne : g ≠ D := fun e => by
    unfold Blk at h
    rw [e, hd] at h
    cases h
    cases ho
  exact (World.putObj_heap_other hne).trans h
theorem bytes_one (l : List UInt8) : ((l.map u8v).toArray).all (·.oneCell') = true := by
  rw [← Array.all_toList]
  simp [u8v]
  intro x _
  rfl
def zerosOf (n : Nat) : Nat := (119 - n % 64) % 64
theorem arr32_wide : Wide Tryd.prog 89 32 := ⟨⟨_, Tryd.underlying89, rfl⟩, by kernel_rfl⟩
def PadInv (l : List UInt8) (w : World) (v : Value) (n k : Nat) (wr : World) : Prop :=
  (n = l.length + 1 + k ∧ k ≤ zerosOf l.length) ∧ wr.ownsRow (w.heap.size + 1) 5 1 v n ((padTo l k).map u8v) ∧ Ext w wr ∧ (∃ o, Blk wr w.heap.size 89 o ∧ o.size = 32)
set_option maxRecDepth 100000 in
set_option maxHeartbeats 4000000 in
theorem sum_any (l : List UInt8) (v : Value) (w : World) (hM : ShaMem w) (hr : Reads w 1 v l.length (l.map u8v)) (hl : l.length ≤ 100000000) :
    Calls Tryd.prog 33 #[v] w fun e w' => e = .returned (.agg ((sha l).map u8v).toArray) ∧ Ext w w' := by
  have HM := hide hM
  have HR := hide hr
  obtain ⟨A, c, rfl⟩ : ∃ A c, v = .slice A l.length c := by obtain ⟨_, A, c, h, _⟩ := hr; exact ⟨A, c, h⟩
  clear hM hr
  refine (callsIn_wide (n := 3)).1 (callsIn_of_wp_marks Tryd.func33 rfl trivial ((wpIn_wide (n := 3)).2 ?_))
  simp only [Tryd.ntmps33, List.size_toArray, List.length_cons, List.length_nil, Nat.reduceAdd, Nat.reduceSub, Array.replicate_succ, Array.replicate_zero, List.push_toArray, List.append_toArray, List.nil_append, List.cons_append]
  go_wp2_with fail
  refine (clone_any _ l _ ?hr (by omega)).mono ?_
  case hr => exact (unhide HR).ext ((Ext.refl w).alloc _)
  rintro e w1 ⟨v1, rfl, ho, hE⟩
  have HO := hide (And.intro ho (And.intro hE (Blk.ext (Blk.new w 89 _) hE)))
  clear ho hE
  go_wp2_with (at_builtin; refine wpList_app rfl rfl u8_row rfl (ownsRow_ext (unhide HO).1 ((Ext.refl w1).alloc _)) rfl (Reads.new1 _ _ _) (AllOne.one rfl) (by omega) (by have := (unhide HO).2.1.size'; simp at this ⊢; omega) ?_; intro A' c' w2 ho hc hv; have HQ := hide (And.intro ho (And.intro hc hv)); clear ho hc hv)
  have HI := hide (show PadInv l w (.slice A' (l.length + 1) c') (l.length + 1) 0 w2 from by
    obtain ⟨h1, h2, h3⟩ := unhide HO
    obtain ⟨h4, h5, _⟩ := unhide HQ
    have e0 : (padTo l 0).map u8v = l.map u8v ++ [u8v 128] := by unfold padTo; simp
    have hz := h2.size'
    simp only [World.size_alloc] at hz h4
    have hv := ownsRow_chg h1 (Chg.refl (fun k => ¬ v1.ownBlock = some k) w1) (fun k hk hn => hn hk)
    have hge : ∀ k, v1.ownBlock = some k → w.heap.size + 1 ≤ k := fun k hk => by have := h1.lt k hk; simp at this; omega
    refine ⟨⟨rfl, Nat.zero_le _⟩, by rw [e0]; exact h4, ?_, ⟨_, h3.chg ((Ext.refl w1).alloc _) (fun h => h) |>.chg h5 (fun e => by have := hge _ e; omega), rfl⟩⟩
    exact ((((Ext.refl w).alloc _).trans h2).alloc _).trans' h5 (fun _ _ h => h) (fun i hi e => by have := hge _ e; omega))
  clear HO HQ
  go_loopw [3] (fun b wr => ∃ (n k : Nat) (A : Option Addr) (c : Nat), b = .slice A n c ∧ n ≤ 200000000 ∧ Hid (PadInv l w (.slice A n c) n k wr)) (fun b _ => match b with | .slice _ n _ => l.length + 1 + zerosOf l.length - n | _ => 0)
  case atStart => exact ⟨_, 0, _, _, rfl, by omega, HI⟩
  case round =>
    clear HI
    obtain ⟨n, k, A1, c1, rfl, hn, HI⟩ := hrel
    by_cases hlt : k < zerosOf l.length
    · have ht : n % 64 ≠ 56 := by have h1 := (unhide HI).1; unfold zerosOf at h1 hlt; omega
      have ht2 : (((n : Int) % 64) == 56) = false := by simp; omega
      go_wp2_with (at_builtin; refine wpList_app rfl rfl u8_row rfl (ownsRow_ext (unhide HI).2.1 ((Ext.refl wr).alloc _)) rfl (Reads.new1 _ _ _) (AllOne.one rfl) (by omega) (by have := (unhide HI).2.2.1.size'; have := (unhide HI).2.2.2.choose_spec.1.lt; simp; omega) ?_; intro A' c' w3 ho hc hv; have HQ := hide (And.intro ho hc); clear ho hc hv)
      go_roundw
      case rel =>
        obtain ⟨⟨e1, e2⟩, h1, h2, o8, h3, h4⟩ := unhide HI
        obtain ⟨h5, h6⟩ := unhide HQ
        have hge : ∀ k, (Value.slice A1 n c1).ownBlock = some k → w.heap.size + 1 ≤ k := fun k hk => (h1.lt k hk).1
        refine ⟨n + 1, k + 1, A', c', rfl, by unfold zerosOf at e2; omega, hide ⟨⟨by omega, hlt⟩, ?_, (h2.alloc _).trans' h6 (fun _ _ h => h) (fun i hi e => by have := hge _ e; omega), o8, (h3.alloc _).chg h6 (fun e => by have := hge _ e; omega), h4⟩⟩
        rw [padTo_step, List.map_append]
        exact h5
      case measure => have := (unhide HI).1; simp; omega
    · obtain ⟨⟨e1, e2⟩, h1, h2, o8, h3, h4⟩ := unhide HI
      have hkz : k = zerosOf l.length := by omega
      subst hkz
      have HP := hide (show padTo l (zerosOf l.length) ++ beBytes (8 * l.length) 8 = shaPad l from rfl)
      have hmod : n % 64 = 56 := by unfold zerosOf at e1; omega
      have ht2 : (((n : Int) % 64) == 56) = true := by simp; omega
      have HN := hide (And.intro e1 hmod)
      clear e1 e2 hlt hmod h1 h2 h3 h4
      go_wp2_with fail
      clear ht2
      refine (store_lit _ n ((padTo l (zerosOf l.length)).map u8v) (8 * l.length) 8 (w.heap.size + 1) _ _ _ ?e1 ?e2 (unhide HI).2.1 ?hb (by omega) (by omega) (by omega)).mono ?_
      case e1 => simp
      case e2 => rfl
      case hb => have := (unhide HI).2.2.2.choose_spec.1.lt; omega
      rintro e w3 ⟨A3, c3, rfl, ho, hO⟩
      obtain ⟨g3, rfl⟩ : ∃ g3, A3 = some ⟨g3, 0, none⟩ := by
        obtain ⟨g, cap, u, hv, _⟩ := own_at (k := 0) ho (by omega)
        cases hv
        exact ⟨g, rfl⟩
      have HQ := hide (And.intro ho hO)
      clear ho hO
      obtain ⟨st0, hst⟩ : ∃ st, (shaH0.map w32).toArray = st := ⟨_, rfl⟩
      have HST := hide hst
      have HST2 := hide (show st0.size = 8 ∧ st0.all (·.oneCell') = true from by rw [← hst]; exact ⟨rfl, words_one _⟩)
      clear hst
      have HE3 := hide (show Ext w w3 from by
        obtain ⟨⟨e1, e2⟩, h1, h2, o8, h3, h4⟩ := unhide HI
        exact h2.trans' (unhide HQ).2.chg (fun _ _ h => h) (fun i hi e => by have := (h1.lt i e).1; omega))
      go_wp2_with (first
        | (refine wpList_loadR (ty := 112) (x := .global 0) rfl rfl state_wide rfl (arr := st0) (cs := shaH0.map w32) ?_ rfl (unhide HST) ?_; (focus exact ((unhide HM).ext (unhide HE3)).h))
        | (refine wpList_storeB (ty := 112) (t := 112) (x := .tmp 4) (y := .tmp 27) rfl rfl state_wide rfl rfl ((Blk.new w3 _ _).alloc _) rfl (unhide HST2).1 (unhide HST2).2 ?_
           intro w4 hb4 hc4 hz4
           have k5 : w4.cell? ⟨w3.heap.size + 1, 0, none⟩ = some .nilFunc := Chg.cellv hc4 (new_cell _ _ _ (by simp) rfl) (by simp)
           have f5 : w4.frozen? ⟨w3.heap.size + 1, 0, none⟩ = false := Chg.frozenv hc4 ((Blk.new' _ _ _ (by simp)).frozen 0) (by simp) (by simp)
           have HV := hide (And.intro hb4 (And.intro hc4 hz4))
           clear hb4 hc4 hz4)
        | (go_at_call 45; refine (chunk_any _ _ _ _).mono ?_; rintro e w' ⟨rfl, rfl⟩))
      obtain ⟨m, hm⟩ : ∃ m, n + 8 = 64 * m := ⟨(n + 8) / 64, by have := (unhide HN).2; omega⟩
      have HL := hide (show (shaPad l).length = 64 * m from by
        rw [← unhide HP, List.length_append, padTo_length, beBytes_length, ← hm]; have := (unhide HN).1; omega)
      have HS := hide (show w3.heap.size < w4.heap.size ∧ w4.heap.size = w3.heap.size + 2 from by have := (unhide HV).2.2; simp at this; omega)
      refine wp_range (gf := 66) (S := fun k => k = w3.heap.size) (all := List.finRange m) (N := m) (encs := fun x : Fin m => #[.slice (some ⟨g3, 0 + 64 * x.val, none⟩) 64 64]) rfl (call_enters Tryd.func66 (by kernel_rfl) rfl) ?hS (chunk_stops g3 0 c3 m _ _ _ _ (by omega) ?hc ?hs ?hn ?h1 ?h2) (fun _ => rfl)
        (fun pre W => Blk W w3.heap.size 112 ((shaFold (shaPad l) (pre.map Fin.val) shaH0).map w32).toArray ∧ W.cell? ⟨w3.heap.size + 1, 0, none⟩ = some (.func (.func 44) #[] #[]))
        (fun pre W W' h k => ⟨k.blk h.1, k.cell h.2⟩) ?h0 ?a1 ?assign ?body ?done
      case assign =>
        intro l x W K hK
        gi_wp2
        exact hK
      case hS => intro k e; have := (unhide HS).1; simp; omega
      case hc =>
        have h1 := (unhide HQ).1
        obtain ⟨g, cap, u, hv, _⟩ := own_at (k := 0) h1 (by omega)
        cases hv
        obtain ⟨_, h2⟩ := h1
        rcases h2 with ⟨e, _⟩ | ⟨g, cap, cur, hv, _, _, hle, _⟩
        · cases e
        · cases hv; omega
      case hs => have := (unhide HS).1; omega
      case hn => have := (unhide HS).1; omega
      case h1 =>
        rw [← hm]
        exact old_cell _ _ (new_cell _ _ _ (by simp) rfl)
      case h2 => exact new_cell _ _ _ (by simp) rfl
      case h0 =>
        refine ⟨?_, ?_⟩
        · have := (unhide HV).1
          rw [← unhide HST] at this
          exact ((this.far' (by omega) _ _).alloc _).alloc _
        · exact old_cell _ _ (old_cell _ _ (World.cell?_setCell_same' _ _ _ (by rw [k5]; rfl)))
      case body =>
        rintro lb pre x W hc ⟨hb, hf⟩ hlen
        have hg3 : w.heap.size + 1 ≤ g3 ∧ g3 < w3.heap.size := (unhide HQ).1.lt g3 rfl
        obtain ⟨hg3a, hg3b⟩ := hg3
        have HR3 : Hid (Reads w3 1 (.slice (some ⟨g3, 0, none⟩) (n + 8) c3) (n + 8) ((shaPad l).map u8v)) := hide (by have := Reads.of_own (unhide HQ).1; rwa [← List.map_append, unhide HP] at this)
        have HEW : Hid (Chg (fun k => k = w3.heap.size) w3 W) := hide (by
          have h1 : Chg (fun k => k = w3.heap.size) w3 w4 := (((Ext.refl w3).alloc _).alloc _).chg.trans (unhide HV).2.1
          exact (((h1.setCell (p := ⟨w3.heap.size + 1, 0, none⟩) (.inr (by simp)) _).alloc _).alloc _).trans hc)
        have HBX := hide (show ((((shaPad l).drop (64 * x.val)).take 64).length = 64) from by have := x.isLt; simp; rw [unhide HL]; omega)
        have HRX : Hid (Reads W 1 (.slice (some ⟨g3, 64 * x.val, none⟩) 64 64) 64 ((((shaPad l).drop (64 * x.val)).take 64).map u8v)) := hide (by
          have h1 := (unhide HR3).chg (unhide HEW) (fun k _ hk e => by cases hk; exact absurd e (Nat.ne_of_lt hg3b))
          obtain ⟨b, o, c, hv, h2, h3, _, h4⟩ := h1.sub (64 * x.val) 64 (by have := x.isLt; omega) (by omega)
          cases hv
          rw [List.map_take, List.map_drop]
          rw [Nat.zero_add] at h4
          exact h4.cap (by omega) (by unfold maxLen; omega))
        have HMW : Hid (ShaMem W) := hide (((unhide HM).ext (unhide HE3)).chg (unhide HEW) (fun e => by have h1 : _ < w.heap.size := lt_of_cell ((unhide HM).k 0 _ rfl); have := (unhide HE3).size'; simp at h1; omega) (fun e => by have h1 : _ < w.heap.size := lt_of_cell ((unhide HM).h 0 _ rfl); have := (unhide HE3).size'; simp at h1; omega))
        have HCC := hide (compress_any (shaFold (shaPad l) (pre.map Fin.val) shaH0) (((shaPad l).drop (64 * x.val)).take 64) _ W (unhide HMW) (shaFold_length _ _ _ rfl) (unhide HBX) (unhide HRX))
        have HB := hide hb
        clear hb
        generalize hst : ((shaFold (shaPad l) (pre.map Fin.val) shaH0).map w32).toArray = stp at *
        have H8 := hide (show stp.size = 8 from by rw [← hst]; simp; exact shaFold_length _ _ _ rfl)
        have HT := hide hst
        clear hst
        have HN8 := hide (show ((shaBlock (shaFold (shaPad l) (pre.map Fin.val) shaH0) (((shaPad l).drop (64 * x.val)).take 64)).map w32).toArray.size = 8 from by simp; exact shaFold_length (shaPad l) [x.val] (shaFold (shaPad l) (pre.map Fin.val) shaH0) (shaFold_length _ _ _ rfl))
        gi_wp2_with (first
          | (refine wpListIn_loadB (ty := 112) (t := 112) (x := .tmp 4) rfl rfl state_wide rfl (unhide HB) (unhide H8) ?_)
          | (refine ⟨trivial, ?_⟩; gi_at_call 44; refine (CallsIn.inRound lb (callsIn_wide.2 (unhide HCC))).mono ?_; rintro e w9 ⟨rfl, hE9⟩; have HX9 := hide hE9; clear hE9)
          | (refine wpListIn_storeB (ty := 112) (t := 112) (x := .tmp 4) (y := .tmp 34) rfl rfl state_wide rfl rfl ((unhide HB).ext (unhide HX9)) (unhide H8) (unhide HN8) (words_one _) ?_; intro w10 hb10 hc10 hz10))
        refine ⟨(unhide HX9).chg.trans hc10, ?_, Chg.cellv hc10 (Ext.cellv (unhide HX9) hf) (by simp)⟩
        rw [List.map_append]
        unfold shaFold
        rw [List.foldl_append]
        exact hb10
      case done =>
        rintro D W hD hc ⟨hb, hf⟩ hd
        have HEW : Hid (Ext w W) := hide (by
          have h1 : Chg (fun k => k = w3.heap.size) w3 w4 := (((Ext.refl w3).alloc _).alloc _).chg.trans (unhide HV).2.1
          have h2 := (((h1.setCell (p := ⟨w3.heap.size + 1, 0, none⟩) (.inr (by simp)) _).alloc _).alloc _).trans hc
          exact (unhide HE3).trans' h2 (fun _ _ h => h) (fun i hi e => by have := (unhide HE3).size'; omega))
        have HO : Hid (∃ o, Blk W w.heap.size 89 o ∧ o.size = 32) := hide (by
          obtain ⟨_, h1, _, o8, h3, h4⟩ := unhide HI
          have hlt := h3.lt
          have k1 := h3.chg (unhide HQ).2.chg (fun e => by have := (h1.lt _ e).1; omega)
          have hlt3 := k1.lt
          have h1 : Chg (fun k => k = w3.heap.size) w3 w4 := (((Ext.refl w3).alloc _).alloc _).chg.trans (unhide HV).2.1
          have h2 := (((h1.setCell (p := ⟨w3.heap.size + 1, 0, none⟩) (.inr (by simp)) _).alloc _).alloc _).trans hc
          exact ⟨o8, k1.chg h2 (by omega), h4⟩)
        rw [fin_map, shaFold_blocks] at hb
        have hm2 : m = (shaPad l).length / 64 := by rw [unhide HL]; omega
        rw [hm2] at hb
        have HSL := hide (show (shaBlocks ((shaPad l).length / 64) shaH0 (shaPad l)).length = 8 from by rw [← shaFold_blocks]; exact shaFold_length _ _ _ rfl)
        have HSH := hide (show (shaBlocks ((shaPad l).length / 64) shaH0 (shaPad l)).flatMap (fun w => beBytes w.toNat 4) = sha l from rfl)
        generalize shaBlocks ((shaPad l).length / 64) shaH0 (shaPad l) = stf at *
        obtain ⟨stq, hstq⟩ : ∃ s, (stf.map w32).toArray = s := ⟨_, rfl⟩
        rw [hstq] at hb
        have HB := hide hb
        have HTQ := hide hstq
        have H8 := hide (show stq.size = 8 from by rw [← hstq]; simpa using unhide HSL)
        have hDw : w.heap.size < D := by have := (unhide HE3).size'; have := (unhide HS).1; simp at hD; omega
        have HD := hide (And.intro hDw hd)
        clear hDw
        clear hb hf hd hD hstq hm2 HQ HV HS HE3 HST HST2 HI HN k5 f5 hc
        go_wp2_with (refine wpList_loadB (ty := 112) (t := 112) (x := .tmp 4) rfl rfl state_wide rfl (unhide HB) (unhide H8) ?_)
        go_loopw [7, 36] (fun b i wr => ∃ (k : Nat) (A : Option Addr) (c : Nat), k ≤ 8 ∧ i = .int .i64 k ∧ b = .slice A (4 * k) c ∧ Hid (wr.ownsRow W.heap.size 5 1 (.slice A (4 * k) c) (4 * k) ((outAt stf k).map u8v) ∧ Ext W wr)) (fun _ i _ => 8 - (intOf i).toNat)
        case atStart => exact ⟨0, none, 0, Nat.zero_le _, rfl, rfl, hide ⟨World.ownsRow_nil _ _ _ _, Ext.refl _⟩⟩
        case round =>
          obtain ⟨k, A7, c7, hk, rfl, rfl, HI⟩ := hrel
          by_cases hlt : k < 8
          · have hidx : ∀ X, (Instr.index 112 (.agg stq) (.int .i64 (k : Int))).run Tryd.prog X = .ok (.int .u32 ((stf.getD k 0).toNat : Int)) X := fun X =>
              run_index_arr (inf := _) Tryd.underlying112 (by kernel_rfl) rfl (by kernel_rfl) hlt (by rw [← unhide HTQ, ← wordsTo_all (unhide HSL)]; exact wordsTo_get (by rw [unhide HSL]; exact hlt)) X
            have HS2 := hide (outAt_step stf k (by rw [unhide HSL]; exact hlt))
            have hx := (stf.getD k 0).toNat_lt
            generalize stf.getD k 0 = xk at *
            go_wp2_with fail
            refine (store_lit _ (4 * k) ((outAt stf k).map u8v) xk.toNat 4 W.heap.size _ _ _ ?e1 ?e2 (unhide HI).1 ?hb (by omega) (by omega) (by omega)).mono ?_
            case e1 => first | rfl | simp
            case e2 => rfl
            case hb => exact (unhide HI).2.size'
            rintro e w5 ⟨A5, c5, rfl, ho, hO⟩
            have HQ := hide (And.intro ho hO)
            clear ho hO
            go_wp2
            go_roundw
            case rel =>
              refine ⟨k + 1, A5, c5, by omega, by go_num, rfl, hide ⟨?_, ?_⟩⟩
              · rw [unhide HS2, List.map_append]
                exact (unhide HQ).1
              · exact Onto.new_ext (unhide HI).2 (unhide HQ).2 (fun q hq => ((unhide HI).1.lt q hq).1)
            case measure => simp [intOf]; omega
          · obtain rfl : k = 8 := by omega
            clear hk hlt
            obtain ⟨g7, rfl⟩ : ∃ g7, A7 = some ⟨g7, 0, none⟩ := by
              obtain ⟨g, cap, u, hv, _⟩ := own_at (k := 0) (unhide HI).1 (by omega)
              cases hv
              exact ⟨g, rfl⟩
            have HG := hide (show outAt stf 8 = sha l from by
              unfold outAt
              rw [List.take_of_length_le (by rw [unhide HSL]; omega)]
              exact unhide HSH)
            have HRG : Hid (wr.rangeAt g7 0 ((sha l).map u8v)) := hide (by
              have h1 := (unhide HI).1
              rw [unhide HG] at h1
              intro j v hj
              have := h1.cells (g := g7) rfl j v hj
              rwa [add_lit] at this)
            have HLS := hide (show (sha l).length = 32 from by rw [← unhide HG]; exact outAt_length stf 8 (by rw [unhide HSL]; omega))
            obtain ⟨o8, ho8, ho8s⟩ := unhide HO
            have HO8 := hide (And.intro (ho8.ext (unhide HI).2) ho8s)
            clear ho8 ho8s
            obtain ⟨res, hres⟩ : ∃ r, ((sha l).map u8v).toArray = r := ⟨_, rfl⟩
            have HRS := hide (show res.size = 32 ∧ res.all (·.oneCell') = true from by rw [← hres]; exact ⟨by simpa using unhide HLS, bytes_one _⟩)
            have HRE := hide hres
            clear hres
            have harr := fun X => run_arrayAt (P := Tryd.prog) Tryd.underlying89 (ad := some ⟨g7, 0, none⟩) (len := 4 * 8) (c := c7) (by omega) X
            go_wp2_with (first
              | (refine wpList_loadR (ty := 89) (x := .tmp 45) rfl rfl arr32_wide rfl (arr := res) (cs := (sha l).map u8v) (unhide HRG) ?_ (unhide HRE) ?_; (focus (simpa using unhide HLS)))
              | (refine wpList_storeB (ty := 89) (t := 89) (x := .tmp 2) (y := .tmp 46) rfl rfl arr32_wide rfl rfl (unhide HO8).1 (unhide HO8).2 (unhide HRS).1 (unhide HRS).2 ?_; intro w9 hb9 hc9 hz9))
            have hd9 := ((unhide HI).2.blk (unhide HD).2)
            have hd9' := Chg.blk hc9 hd9 (fun e => by have := (unhide HD).1; omega)
            refine leave_mark rfl hd9' (results_blk arr32_wide rfl (hb9.putObj hd9' rfl) (unhide HRS).1 rfl) ⟨by rw [unhide HRE], ?_⟩
            refine putObj_ext _ (((unhide HEW).trans (unhide HI).2).trans' hc9 (fun _ _ h => h) (fun i hi e => by omega)) (by have := (unhide HD).1; omega)
end Go.Proofs.YtihghljfmlbfhaaDoor


namespace Go.Proofs.YtihghljfmlbfhaaDoor
open Go.RowKit
section
variable {P : Program} {w : World}
theorem run_appF {t ty e : TypeId} {bytes : Nat} (T : SlTy P t e 1 bytes) {b : Addr} {n : Nat} {xs : List Value} (hs : Reads w 1 (.slice (some b) n n) n xs) (hn : 0 < n)
    {u : Value} {m : Nat} {news : List Value} (hr : Reads w 1 u m news) (h1 : AllOne news) (hbytes : (n + m) * bytes ≤ 140737488355328) :
    ∃ A' c' w', (Builtin.append_ #[t, t] ty #[.slice (some b) n n, u]).run P w = .ok (.slice A' (n + m) c') w' ∧ Reads w' 1 (.slice A' (n + m) c') (n + m) (xs ++ news) ∧ Ext w w' := by
  obtain ⟨ht, ⟨i, z, hi, hz, hsize, hby, hzs⟩, _, hbp⟩ := T
  obtain ⟨hl, A, c, rfl, hmc, hcm, hcell⟩ := hr
  have h63 : n + m ≤ maxLen := by
    have : (n + m) * 1 ≤ (n + m) * bytes := Nat.mul_le_mul_left _ hbp
    unfold maxLen; omega
  rcases Nat.eq_zero_or_pos m with h0 | h0
  · subst h0
    have hnl : news = [] := List.eq_nil_of_length_eq_zero (by simpa using hl)
    subst hnl
    refine ⟨_, n, w, ?_, by simpa using hs, Ext.refl _⟩
    rcases A with _ | ad
    · simp [Builtin.append_, run_underlying ht, sizeOf, typeInfo, hi, Builtin.lenOf, Builtin.firstCells, storeCells]
    · obtain ⟨_, A2, c2, e2, _, _, hc2⟩ := hs
      cases e2
      obtain ⟨b0, o0, e0, _⟩ := hc2 hn
      cases e0
      have := run_append_room_cells (P := P) w t ty e i ht hi b0 o0 n n ad 0 c [] (by simp) (fun j u h => by simp at h) (fun u h => by cases h) (by omega) (fun j h => by simp at h) (fun j h => by simp at h)
      simpa [World.setCells] using this
  · obtain ⟨hxl, A2, c2, e2, _, _, hc2⟩ := hs
    cases e2
    obtain ⟨b0, o0, e0, hcs⟩ := hc2 hn
    cases e0
    obtain ⟨b1, o1, rfl, hcn⟩ := hcell h0
    obtain ⟨v', w', hrun, r1, r2⟩ := run_append_arg_grows (P := P) w t ty e i z 1 bytes ht hi hz hsize hby hzs (by omega) ⟨b0, o0, none⟩ n n xs hxl (fun j u hj => by rw [Addr.add_lit]; exact hcs j u hj) ⟨b1, o1, none⟩ m c news hl (fun j u hj => by rw [Addr.add_lit]; exact hcn j u hj) (by omega) h63 hbytes
    obtain ⟨A', c', rfl⟩ := own_slice r1
    exact ⟨A', c', w', hrun, Reads.of_own r1, (Ext.refl w).grown r2 (fun k h => by cases h)⟩
theorem wp_appF {o : Oper} {a : Act} {K : Act → World → Prop} {Q : Exit → Act → World → Prop} {s x : Operand} {t : TypeId}
    (ho : o.op = .call { callee := .builtin .append, args := #[s, x], argTypes := #[t, t] })
    {e : TypeId} {bytes : Nat} (T : SlTy P t e 1 bytes) {b : Addr} {n : Nat} {xs : List Value} (hs : a.eval s = .slice (some b) n n) (hown : Reads w 1 (.slice (some b) n n) n xs) (hn : 0 < n)
    {u : Value} (hx : a.eval x = u) {m : Nat} {news : List Value} (hr : Reads w 1 u m news) (h1 : AllOne news) (hbytes : (n + m) * bytes ≤ 140737488355328)
    (h : ∀ (A' : Option Addr) (c' : Nat) w', Reads w' 1 (.slice A' (n + m) c') (n + m) (xs ++ news) → Ext w w' → K (a.put o.dst (.slice A' (n + m) c')) w') : o.wp P a w K Q := by
  obtain ⟨A', c', w', hrun, h2, h3⟩ := run_appF (P := P) (ty := o.type) T hown hn hr h1 hbytes
  unfold Oper.wp execOp
  simp only [ho, resolve, invoke, builtin, Sem.run_bind, Sem.run_pure, Result.andThen_ok, List.map_toArray, List.map_cons, List.map_nil, hs, hx, hrun]
  exact h A' c' w' h2 h3
theorem step_appF {ops : Array Oper} {o : Oper} {a : Act} {K : Act → World → Prop} {Q : Exit → Act → World → Prop} {E : Prop} (hgd : o.guard = none) {s x : Operand} {t : TypeId}
    (ho : o.op = .call { callee := .builtin .append, args := #[s, x], argTypes := #[t, t] })
    {e : TypeId} {bytes : Nat} (T : SlTy P t e 1 bytes) {b : Addr} {n : Nat} {xs : List Value} (hs : a.eval s = .slice (some b) n n) (hown : Reads w 1 (.slice (some b) n n) n xs) (hn : 0 < n)
    {u : Value} (hx : a.eval x = u) {m : Nat} {news : List Value} (hr : Reads w 1 u m news) (h1 : AllOne news) (hbytes : (n + m) * bytes ≤ 140737488355328)
    (h : ∀ (A' : Option Addr) (c' : Nat) w', Reads w' 1 (.slice A' (n + m) c') (n + m) (xs ++ news) → Ext w w' → K (a.put o.dst (.slice A' (n + m) c')) w') :
    if Region.wanted o (yielded ops a.tmps) = true then Oper.wp P o a w K Q else E := by
  have hw : Region.wanted o (yielded ops a.tmps) = true := by simp [Region.wanted, hgd]
  rw [if_pos hw]
  exact wp_appF ho T hs hown hn hx hr h1 hbytes h
theorem wpList_appF {ops : Array Oper} {rest : List Oper} {o : Oper} {a : Act} {Q : Exit → Act → World → Prop} (hgd : o.guard = none) {s x : Operand} {t : TypeId}
    (ho : o.op = .call { callee := .builtin .append, args := #[s, x], argTypes := #[t, t] })
    {e : TypeId} {bytes : Nat} (T : SlTy P t e 1 bytes) {b : Addr} {n : Nat} {xs : List Value} (hs : a.eval s = .slice (some b) n n) (hown : Reads w 1 (.slice (some b) n n) n xs) (hn : 0 < n)
    {u : Value} (hx : a.eval x = u) {m : Nat} {news : List Value} (hr : Reads w 1 u m news) (h1 : AllOne news) (hbytes : (n + m) * bytes ≤ 140737488355328)
    (h : ∀ (A' : Option Addr) (c' : Nat) w', Reads w' 1 (.slice A' (n + m) c') (n + m) (xs ++ news) → Ext w w' → wpList P ops Q rest (a.put o.dst (.slice A' (n + m) c')) w') : wpList P ops Q (o :: rest) a w :=
  wpList_plain hgd fun _ hK => wp_appF ho T hs hown hn hx hr h1 hbytes fun A' c' w' h2 h3 => hK _ _ (h A' c' w' h2 h3)
end
end Go.Proofs.YtihghljfmlbfhaaDoor


namespace Go.Proofs.YtihghljfmlbfhaaDoor
open Go.RowKit
theorem mul_1_64 (w : World) : Calls Tryd.prog 82 #[.int .u64 1, .int .u64 64] w fun e w' => e = .returned (.tuple #[.int .u64 0, .int .u64 64]) ∧ w = w' := by
  go_enter Tryd.func82, Tryd.ntmps82
  go_wp2
  go_ret2
  exact ⟨by kernel_rfl, rfl⟩
theorem splice_rep {α : Type} (cur : List α) (x : α) (p m : Nat) (h : cur.take p = List.replicate p x) (_hl : p + m ≤ cur.length) : (splice cur p (List.replicate m x)).take (p + m) = List.replicate (p + m) x := by
  unfold splice
  rw [h, ← List.append_assoc, List.replicate_append_replicate, List.take_left' (by simp)]
def RepInv (x : UInt8) (w : World) (g n p : Nat) (wr : World) : Prop := ∃ cur : List Value, wr.heap[g]? = some (.cells cur.toArray 5 (0, 0)) ∧ cur.take p = List.replicate p (u8v x) ∧ cur.length = n ∧ Below w.heap.size w wr
theorem u8_info : (Tryd.prog.info? 5).map (·.size) = some 1 := by kernel_rfl
set_option maxRecDepth 100000 in
set_option maxHeartbeats 1000000 in
theorem repeat_any (x : UInt8) (v : Value) (w : World) (hr : Reads w 1 v 1 [u8v x]) :
    Calls Tryd.prog 81 #[v, .int .i64 64] w fun e w' => ∃ g, e = .returned (.slice (some ⟨g, 0, none⟩) 64 64) ∧ Reads w' 1 (.slice (some ⟨g, 0, none⟩) 64 64) 64 (List.replicate 64 (u8v x)) ∧ Ext w w' ∧ w.heap.size ≤ g ∧ (∀ i, w'.frozen? ⟨g, i, none⟩ = false) := by
  have HR := hide hr
  obtain ⟨b, o, c, u, rfl, hc1, hc2, hb, hu, hcu⟩ := hr.at1 (k := 0) (by omega)
  cases hu
  unfold u8v at hcu
  have HU := hide hcu
  clear hr hcu
  obtain ⟨cs, hrunM, hle, hmax⟩ := Lib.run_makeNoZero (P := Tryd.prog) w #[3] 24 5 Tryd.underlying24 64 (by omega)
  have hcall : (callFunc 83 #[.int .i64 64]).run Tryd.prog w = .ok (.value (.slice (some ⟨w.heap.size, 0, none⟩) 64 cs.size)) ((w.alloc (.cells cs 5)).drewN 2) := by
    have := run_callFunc_extern (P := Tryd.prog) (args := #[.int .i64 64]) (w := w) Tryd.func83 (by kernel_rfl) (by kernel_rfl) (by kernel_rfl) (e := Extern.BytealgMakeNoZero.makeNoZero #[3] #[24]) (by kernel_rfl)
    rw [this]
    have h2 : (Extern.BytealgMakeNoZero.makeNoZero #[3] #[24] #[.int .i64 64]).run Tryd.prog w = _ := hrunM
    rw [h2]
    rfl
  clear hrunM
  have hmx := hmax (by unfold maxLen; omega)
  unfold maxLen at hmx
  clear hmax
  have i1 : (64 : Int) ≤ (cs.size : Int) := by omega
  have HC := hide (show RepInv x w w.heap.size cs.size 0 ((w.alloc (.cells cs 5)).drewN 2) from ⟨cs.toList, (Blk.new w 5 cs).drewN 2, rfl, by simp, (((Ext.refl w).alloc _).drewN _).below⟩)
  go_enter Tryd.func81, Tryd.ntmps81
  go_upto_region 17 with (go_at_call 82; refine (mul_1_64 _).mono ?_; rintro e w' ⟨rfl, rfl⟩)
  iterate 7 (first | go_values | go_skip | go_guarded | go_step | go_upon)
  obtain ⟨cur0, C1, C2, C3, C4⟩ := unhide HC
  refine wpList_copy_splice rfl (.tmp 58) (.tmp 59) 24 24 rfl 5 Tryd.underlying24 u8_info (some ⟨w.heap.size, 0, none⟩) (some ⟨b, o, none⟩) 64 64 1 c rfl rfl w.heap.size 0 cur0 5 C1 [u8v x] rfl ?_ ?_ ?_ w.heap.size w C4 (Nat.le_refl _) ?_
  · intro _
    refine ⟨rfl, _, rfl, fun j v hj => ?_⟩
    match j, hj with
    | 0, hj =>
      cases hj
      exact (C4.cell (p := ⟨b, o, none⟩) hb).trans (unhide HU)
  · simp; omega
  · intro v hv; simp at hv; subst hv; rfl
  · intro w2 G1 G2
    have HI := hide (show RepInv x w w.heap.size cs.size 1 w2 from ⟨_, unhide G1, by have := splice_rep cur0 (u8v x) 0 1 C2 (by omega); simpa using this, by rw [length_splice _ _ _ (by simp; omega)]; exact C3, G2⟩)
    clear C1 C2 C3 C4 G1 G2
    go_wp2
    go_loopw [10] (fun p wr => ∃ k : Nat, 0 < k ∧ k ≤ 64 ∧ p = .int .i64 k ∧ Hid (RepInv x w w.heap.size cs.size k wr)) (fun p _ => 64 - (intOf p).toNat)
    case atStart => exact ⟨1, by omega, by omega, rfl, HI⟩
    case round =>
      clear HI
      obtain ⟨k, hk0, hk, rfl, HI⟩ := hrel
      by_cases hlt : k < 64
      · obtain ⟨cur, C1, C2, C3, C4⟩ := unhide HI
        have hC3 : 64 ≤ cur.length := by omega
        have HK := hide (And.intro C2 C3)
        clear C2 C3
        have d64 : decide ((k : Int) < 64) = true := decide_eq_true (by omega)
        have b64 : (k : Int) < 64 := by omega
        have bn : ¬ k = 64 := by omega
        have b1 : (k : Int) ≤ 64 := by omega
        have b0 : (0 : Int) ≤ (k : Int) := by omega
        obtain ⟨m, hm⟩ : ∃ m, Nat.min k (64 - k) = m := ⟨_, rfl⟩
        have hm1 : k + m ≤ 64 ∧ m ≤ k ∧ 0 < m := by have : Nat.min k (64 - k) = min k (64 - k) := rfl; omega
        have p2 : 0 < (List.replicate m (u8v x)).length → some (⟨w.heap.size, k, none⟩ : Addr) = some ⟨w.heap.size, k, none⟩ ∧ ∃ ad, some (⟨w.heap.size, 0, none⟩ : Addr) = some ad ∧ ∀ (j : Nat) (v : Value), (List.replicate m (u8v x))[j]? = some v → wr.drew.cell? (ad.add j) = some v := by
          intro _
          refine ⟨rfl, _, rfl, fun j v hj => ?_⟩
          have hjm : j < m := by
            rcases Nat.lt_or_ge j m with h | h
            · exact h
            · rw [List.getElem?_eq_none (by simpa using h)] at hj; cases hj
          rw [List.getElem?_replicate, if_pos hjm] at hj
          cases hj
          rw [add_lit, Nat.zero_add]
          have := Blk.cell (show Blk wr w.heap.size 5 cur.toArray from C1) j
          refine Eq.trans this ?_
          have e := (unhide HK).1
          have e2 : (cur.take k)[j]? = some (u8v x) := by rw [e, List.getElem?_replicate, if_pos (by omega)]
          rw [List.getElem?_take, if_pos (by omega)] at e2
          simpa using e2
        have p1 : (List.replicate m (u8v x)).length = Nat.min k (64 - k) := by rw [hm]; simp
        have p4 : ∀ v ∈ List.replicate m (u8v x), v.oneCell' = true := by intro v hv; rw [(List.mem_replicate.1 hv).2]; rfl
        obtain ⟨w3, hrun, HN⟩ : ∃ w3, (Builtin.copy_ #[24, 24] 3 #[.slice (some ⟨w.heap.size, k, none⟩) (64 - k) (64 - k), .slice (some ⟨w.heap.size, 0, none⟩) k 64]).run Tryd.prog wr.drew = .ok (.int .i64 (m : Int)) w3 ∧ Hid (RepInv x w w.heap.size cs.size (k + m) w3) := by
          obtain ⟨_, ad, e, hsrc⟩ := p2 (by simp; omega)
          cases e
          have h := run_copy_row (P := Tryd.prog) wr.drew 24 24 3 5 w.heap.size k (64 - k) (64 - k) ⟨w.heap.size, 0, none⟩ k 64 cur.toArray 5 (List.replicate m (u8v x)) Tryd.underlying24 u8_info C1 p1 hsrc (by simp; omega) p4
          simp only [List.length_replicate] at h
          refine ⟨_, h, hide ⟨splice cur k (List.replicate m (u8v x)), ?_, splice_rep cur (u8v x) k m (unhide HK).1 (by omega), ?_, ?_⟩⟩
          · have := setRow_heap wr.drew w.heap.size _ (splice cur k (List.replicate m (u8v x))).toArray 5 _ C1
            simpa [splice, List.append_assoc] using this
          · rw [length_splice _ _ _ (by simp; omega)]; exact (unhide HK).2
          · exact below_setRow (C4.trans (Ext.below ((Ext.refl wr).drew) |>.mono (by have := C4.size; omega))) (Nat.le_refl _) _
        have HM := hide (And.intro hm hm1)
        obtain ⟨hm2, hm3, hm4⟩ := hm1
        clear hm p1 p2 p4 C1 C4 hC3
        go_upto_region 20 with fail
        go_region
        all_goals
          go_wp2
          go_roundw
          case rel => exact ⟨k + m, by omega, by omega, by go_num, HN⟩
          case measure => simp [intOf]; omega
      · obtain rfl : k = 64 := by omega
        go_wp2
        go_ret
        obtain ⟨cur, C1, C2, C3, C4⟩ := unhide HI
        refine ⟨_, rfl, ?_, Ext.of_below C4, Nat.le_refl _, (show Blk wr w.heap.size 5 cur.toArray from C1).frozen⟩
        have := Reads.of_blk (show Blk wr w.heap.size 5 cur.toArray from C1) (i := 0) (n := 64) (c := 64) (by simp; omega) (by omega) (by unfold maxLen; omega)
        simpa [C2] using this
end Go.Proofs.YtihghljfmlbfhaaDoor


namespace Go.Proofs.YtihghljfmlbfhaaDoor
open Go.RowKit
theorem Reads.set {w : World} {g n c : Nat} {xs : List Value} (h : Reads w 1 (.slice (some ⟨g, 0, none⟩) n c) n xs) {k : Nat} (hk : k < n) (u : Value) : Reads (w.setCell ⟨g, k, none⟩ u) 1 (.slice (some ⟨g, 0, none⟩) n c) n (xs.set k u) := by
  obtain ⟨hl, A, c2, e, h1, h2, h3⟩ := h
  cases e
  refine ⟨by rw [List.length_set]; exact hl, _, _, rfl, h1, h2, fun hn => ⟨g, 0, rfl, fun j v hj => ?_⟩⟩
  obtain ⟨b, o, e, hc⟩ := h3 hn
  cases e
  rw [Nat.zero_add]
  by_cases hjk : k = j
  · subst hjk
    rw [List.getElem?_set_self (by omega)] at hj
    cases hj
    have := hc k _ (List.getElem?_eq_getElem (by omega))
    rw [Nat.zero_add] at this
    exact World.cell?_setCell_same' _ _ _ (by rw [this]; rfl)
  · rw [List.getElem?_set_ne hjk] at hj
    have := hc j v hj
    rw [Nat.zero_add] at this
    rw [World.cell?_setCell_other (h := fun e => hjk (by cases e; rfl))]
    exact this
def padG (n : Nat) (key : List UInt8) (x : UInt8) (k : Nat) : List UInt8 := (List.range n).map fun i => if i < k then x ^^^ key.getD i 0 else x
def padN (n : Nat) (key : List UInt8) (x : UInt8) : List UInt8 := (List.range n).map fun i => key.getD i 0 ^^^ x
theorem padG_zero (n : Nat) (key : List UInt8) (x : UInt8) : (padG n key x 0).map u8v = List.replicate n (u8v x) := by
  unfold padG
  apply List.ext_getElem
  · simp
  · intro i h1 h2; simp
theorem padG_length (n : Nat) (key : List UInt8) (x : UInt8) (k : Nat) : (padG n key x k).length = n := by simp [padG]
theorem padG_get (n : Nat) (key : List UInt8) (x : UInt8) (k i : Nat) (h : i < n) : (padG n key x k)[i]? = some (if i < k then x ^^^ key.getD i 0 else x) := by
  unfold padG
  rw [List.getElem?_map, List.getElem?_range h]
  rfl
theorem padG_step (n : Nat) (key : List UInt8) (x : UInt8) (k : Nat) : padG n key x (k + 1) = (padG n key x k).set k (x ^^^ key.getD k 0) := by
  apply List.ext_getElem?
  intro i
  by_cases hi : i < n
  · rw [padG_get n key x (k + 1) i hi, List.getElem?_set, padG_get n key x k i hi, padG_length]
    by_cases hik : k = i
    · subst hik
      rw [if_pos rfl, if_pos hi, if_pos (by omega)]
    · rw [if_neg hik]
      by_cases h : i < k
      · rw [if_pos h, if_pos (by omega)]
      · rw [if_neg h, if_neg (by omega)]
  · rw [List.getElem?_eq_none (by rw [padG_length]; omega), List.getElem?_eq_none (by rw [List.length_set, padG_length]; omega)]
theorem padG_end (n : Nat) (key : List UInt8) (x : UInt8) : padG n key x key.length = padN n key x := by
  unfold padG padN
  apply List.map_congr_left
  intro i _
  by_cases h : i < key.length
  · rw [if_pos h, UInt8.xor_comm]
  · rw [if_neg h, List.getD_eq_getElem?_getD, List.getElem?_eq_none (by omega)]; simp
theorem padG_at (n : Nat) (key : List UInt8) (x : UInt8) (k : Nat) (h : k < n) : ((padG n key x k).map u8v)[k]? = some (u8v x) := by
  rw [List.getElem?_map, List.getElem?_eq_getElem (by rw [padG_length]; exact h)]
  simp [padG]
def padPart (key : List UInt8) (x : UInt8) (k : Nat) : List UInt8 := padG 64 key x k
def padOf (key : List UInt8) (x : UInt8) : List UInt8 := padN 64 key x
theorem padPart_zero (key : List UInt8) (x : UInt8) : (padPart key x 0).map u8v = List.replicate 64 (u8v x) := padG_zero 64 key x
theorem padPart_step (key : List UInt8) (x : UInt8) (k : Nat) : padPart key x (k + 1) = (padPart key x k).set k (x ^^^ key.getD k 0) := padG_step 64 key x k
theorem padPart_end (key : List UInt8) (x : UInt8) : padPart key x key.length = padOf key x := padG_end 64 key x
theorem padPart_at (key : List UInt8) (x : UInt8) (k : Nat) (h : k < 64) : ((padPart key x k).map u8v)[k]? = some (u8v x) := padG_at 64 key x k h
theorem padOf_length (key : List UInt8) (x : UInt8) : (padOf key x).length = 64 := by unfold padOf padN; rw [List.length_map, List.length_range]
set_option maxHeartbeats 1000000 in
theorem pad_any (x : UInt8) (xI : Int) (hx : xI = (x.toNat : Int)) (key : List UInt8) (kb : Nat) (v : Value) (w : World) (hk : w.cell? ⟨kb, 0, none⟩ = some v) (hr : Reads w 1 v key.length (key.map u8v)) (hl : key.length ≤ 64) :
    Calls Tryd.prog 80 #[.int .u8 xI, .pointer (some ⟨kb, 0, none⟩)] w fun e w' => ∃ g, e = .returned (.slice (some ⟨g, 0, none⟩) 64 64) ∧ Reads w' 1 (.slice (some ⟨g, 0, none⟩) 64 64) 64 ((padOf key x).map u8v) ∧ Ext w w' := by
  subst hx
  have HR := hide hr
  obtain ⟨A, c, rfl⟩ : ∃ A c, v = .slice A key.length c := by obtain ⟨_, A, c, h, _⟩ := hr; exact ⟨A, c, h⟩
  have HK := hide hk
  have HL := hide (lt_of_cell hk)
  clear hr hk
  go_enter Tryd.func80, Tryd.ntmps80
  go_wp2_with fail
  refine (repeat_any x _ _ ?hr).mono ?_
  case hr => exact Reads.new1 _ _ _
  rintro e w1 ⟨g, rfl, hR, hE, hg, hf⟩
  have hk1 : w1.cell? ⟨kb, 0, none⟩ = some (.slice A key.length c) := Ext.cellv (((Ext.refl w).alloc _).trans hE) (unhide HK)
  have HG := hide (show w.heap.size ≤ g from Nat.le_trans (((Ext.refl w).alloc (.cells #[u8v x] 5)).size') hg)
  have HE := hide (((Ext.refl w).alloc (.cells #[u8v x] 5)).trans hE)
  have HQ := hide (And.intro hR hf)
  clear hR hE hg hf
  go_wp2
  clear hk1
  go_loopw [12] (fun i wr => ∃ k : Nat, k ≤ key.length ∧ i = .int .i64 k ∧ Hid (Reads wr 1 (.slice (some ⟨g, 0, none⟩) 64 64) 64 ((padPart key x k).map u8v) ∧ (∀ i, wr.frozen? ⟨g, i, none⟩ = false) ∧ Ext w wr)) (fun i _ => key.length - (intOf i).toNat)
  case atStart => exact ⟨0, Nat.zero_le _, rfl, hide ⟨by rw [padPart_zero]; exact (unhide HQ).1, (unhide HQ).2, unhide HE⟩⟩
  case round =>
    obtain ⟨k, hk, rfl, HI⟩ := hrel
    by_cases hlt : k < key.length
    · obtain ⟨b, o, c', u, hv, _, _, hb, hu, hcc⟩ := ((unhide HR).ext (unhide HI).2.2).at1 hlt
      cases hv
      rw [List.getElem?_map, List.getElem?_eq_getElem hlt] at hu
      cases hu
      have ho : wr.cell? ⟨g, k, none⟩ = some (u8v x) := by
        obtain ⟨_, _, _, e, _, _, h⟩ := (unhide HI).1
        cases e
        obtain ⟨b2, o2, e2, h2⟩ := h (by omega)
        cases e2
        have := h2 k _ (padPart_at key x k (by omega))
        rwa [Nat.zero_add] at this
      have hf := (unhide HI).2.1 k
      unfold u8v at hcc ho
      have HS := hide (show padPart key x (k + 1) = (padPart key x k).set k (x ^^^ key[k]) from by rw [padPart_step key x k, List.getD_eq_getElem?_getD, List.getElem?_eq_getElem hlt]; rfl)
      have hk64 : (k : Int) < 64 := by omega
      generalize key[k] = z at *
      have hX := xor8 x z
      have HX := hide hX
      clear hX
      go_wp2
      go_roundw
      case rel =>
        refine ⟨k + 1, by omega, by go_num, hide ⟨?_, fun i => by rw [World.frozen?_setCell]; exact (unhide HI).2.1 i, (unhide HI).2.2.setCell (unhide HG) _⟩⟩
        rw [unhide HS, List.map_set]
        have := (unhide HI).1.set (k := k) (by omega) (u8v (x ^^^ z))
        rw [unhide HX]
        exact this
      case measure => simp [intOf]; omega
    · obtain rfl : k = key.length := by omega
      go_wp2
      go_ret
      refine ⟨g, rfl, ?_, (unhide HI).2.2⟩
      rw [← padPart_end]
      exact (unhide HI).1
end Go.Proofs.YtihghljfmlbfhaaDoor
