/-
  Several texts in one file: each has its own heading below.
-/
import Derived.Test.YtplkplegjoabgaaGreatDoorHzE
import Derived.Test.YtplkplegjoabgaaGreatDoorHzA
import Derived.Laws.IdiomStrings
import Derived.Laws.BytesArg
import Derived.Lib.AppendStr
import Derived.ChangeKeysEq
import Derived.Lib.SlBytesConst
import Derived.StillTailTactics
import Derived.BigRegion
import Derived.OwnWalkIn
import Derived.TacticsInMore
import Derived.LoopNIn
import Derived.LoopIn
import Derived.Deep.Cut
import Derived.Outline
import Derived.Laws.EntriesVeiled
import Derived.ArgAppend
import Derived.Lib.MakeNoZero
import Derived.Laws.CopyOwn
import Derived.Deep.RegionLaw


namespace Go.Proofs.YtplkplegjoabgaaGreatDoor
open Go.RowKit
theorem Reads.at_ {w : World} {b o n c : Nat} {xs : List Value} (h : Reads w 1 (.slice (some ⟨b, o, none⟩) n c) n xs) {j : Nat} {u : Value} (hj : xs[j]? = some u) : w.cell? ⟨b, o + j, none⟩ = some u := by
  obtain ⟨hl, A, c', e, _, _, hc⟩ := h
  have hjl : j < xs.length := by
    rcases Nat.lt_or_ge j xs.length with h | h
    · exact h
    · rw [List.getElem?_eq_none h] at hj; cases hj
  obtain ⟨b', o', e', hcc⟩ := hc (by omega)
  cases e
  cases e'
  exact hcc j u hj
theorem Reads.byteAt {w : World} {b o n c : Nat} {l : List UInt8} (h : Reads w 1 (.slice (some ⟨b, o, none⟩) n c) n (l.map u8v)) {j : Nat} (hj : j < l.length) : w.cell? ⟨b, o + j, none⟩ = some (.int .u8 ((l.getD j 0).toNat : Int)) :=
  h.at_ (by rw [List.getElem?_map, List.getD_eq_getElem?_getD, List.getElem?_eq_getElem hj]; rfl)
theorem Reads.wordAt {w : World} {b o n c : Nat} {l : List UInt32} (h : Reads w 1 (.slice (some ⟨b, o, none⟩) n c) n (l.map w32)) {j : Nat} (hj : j < l.length) : w.cell? ⟨b, o + j, none⟩ = some (.int .u32 ((l.getD j 0).toNat : Int)) :=
  h.at_ (by rw [List.getElem?_map, List.getD_eq_getElem?_getD, List.getElem?_eq_getElem hj]; rfl)
structure GB (w0 : World) (B : Nat) (v : Value) (n : Nat) (l : List UInt8) (wr : World) : Prop where
  own : wr.ownsRow B 5 1 v n (l.map u8v)
  ext : Ext w0 wr
  base : w0.heap.size ≤ B
  room : B ≤ wr.heap.size
theorem GB.nil {w0 wr : World} {B : Nat} (hE : Ext w0 wr) (hB : w0.heap.size ≤ B) (hR : B ≤ wr.heap.size) : GB w0 B (.slice none 0 0) 0 [] wr := ⟨World.ownsRow_nil _ _ _ _, hE, hB, hR⟩
theorem GB.len {w0 wr : World} {B n : Nat} {v : Value} {l : List UInt8} (h : GB w0 B v n l wr) : l.length = n := by have := h.own.1; simpa using this
theorem GB.to {w0 wr w1 : World} {B n : Nat} {v : Value} {l : List UInt8} (h : GB w0 B v n l wr) (hE : Ext wr w1) : GB w0 B v n l w1 := ⟨ownsRow_ext h.own hE, h.ext.trans hE, h.base, Nat.le_trans h.room hE.size'⟩
theorem GB.step {w0 wr w1 w2 : World} {B n n' : Nat} {v v' : Value} {l l' : List UInt8} (h : GB w0 B v n l wr) (hE : Ext wr w1) (hc : Chg (fun k => v.ownBlock = some k) w1 w2) (ho : w2.ownsRow B 5 1 v' n' (l'.map u8v)) : GB w0 B v' n' l' w2 :=
  ⟨ho, (h.ext.trans hE).trans' hc (fun _ _ h => h) (fun i hi e => by have := (h.own.lt i e).1; have := h.base; omega), h.base, Nat.le_trans h.room (Nat.le_trans hE.size' hc.size)⟩
theorem GB.blk {w0 wr w1 w2 : World} {B n : Nat} {v : Value} {l : List UInt8} (h : GB w0 B v n l wr) (hE : Ext wr w1) (hc : Chg (fun k => v.ownBlock = some k) w1 w2) {g : Nat} {t : TypeId} {cs : Array Value} (hb : Blk wr g t cs) (hg : g < B) : Blk w2 g t cs :=
  (hb.ext hE).chg hc (fun e => by have := (h.own.lt g e).1; omega)
theorem GB.reads {w0 wr : World} {B n : Nat} {v : Value} {l : List UInt8} (h : GB w0 B v n l wr) : Reads wr 1 v n (l.map u8v) := Reads.of_own h.own
def bytesTo (n : Nat) (l : List UInt8) : Array Value := (l.map u8v ++ List.replicate (n - l.length) (Value.int .u8 0)).toArray
theorem bytesTo_zero_at {n : Nat} {l : List UInt8} {i : Nat} (h : l.length ≤ i) (hi : i < n) : (bytesTo n l)[i]? = some (.int .u8 0) := by
  unfold bytesTo
  rw [List.getElem?_toArray, List.getElem?_append_right (by simpa using h), List.getElem?_replicate, if_pos (by simp; omega)]
theorem bytesTo_set {n k : Nat} {l : List UInt8} (x : UInt8) (hl : l.length = k) (h : k < n) : (bytesTo n l).setIfInBounds k (.int .u8 (x.toNat : Int)) = bytesTo n (l ++ [x]) := by
  subst hl
  unfold bytesTo
  rw [show n - l.length = (n - (l ++ [x]).length) + 1 from by simp; omega, List.replicate_succ]
  simp [u8v]
theorem bytesTo_nil (n : Nat) : bytesTo n [] = Array.replicate n (Value.int .u8 0) := by
  unfold bytesTo
  simp
theorem bytesTo_size {n : Nat} {l : List UInt8} (h : l.length ≤ n) : (bytesTo n l).size = n := by
  unfold bytesTo
  simp
  omega
theorem bytesTo_all {n : Nat} {l : List UInt8} (h : l.length = n) : bytesTo n l = (l.map u8v).toArray := by
  unfold bytesTo
  rw [h, Nat.sub_self]
  simp
end Go.Proofs.YtplkplegjoabgaaGreatDoor


namespace Go.Proofs.YtplkplegjoabgaaGreatDoor
open Go.RowKit
def strOf (l : List UInt8) : ByteArray := ⟨l.toArray⟩
theorem strOf_list (l : List UInt8) : (strOf l).data.toList = l := by simp [strOf]
theorem strOf_size (l : List UInt8) : (strOf l).size = l.length := by simp [strOf, ByteArray.size]
def byteV (b : UInt8) : Value := .int .u8 (b.toNat : Int)
section
variable {P : Program}
theorem run_str_of {src dst e : TypeId} (hs : P.underlying src = some (.slice e)) (he : P.underlying e = some (.int .u8)) (hd : P.underlying dst = some .string) {w : World} {v : Value} {n : Nat} {l : List UInt8} (hr : Reads w 1 v n (l.map byteV)) :
    (convert src dst v).run P w = .ok (.string (strOf l)) w := by
  obtain ⟨hl, A, c, rfl, _, _, hc⟩ := hr
  rw [List.length_map, Nat.mul_one] at hl
  subst hl
  cases A with
  | none =>
    have : l = [] := by
      cases l with
      | nil => rfl
      | cons x l => obtain ⟨b, o, e, _⟩ := hc (by simp); cases e
    subst this
    exact run_convert_bytes_nil w src e hs he _ c dst hd
  | some a =>
    refine run_convert_bytes_back w src dst e a c l hs he hd fun j hj => ?_
    obtain ⟨b, o, e2, hcc⟩ := hc (by omega)
    cases e2
    rw [add_lit]
    exact hcc j _ (by rw [List.getElem?_map, List.getElem?_eq_getElem hj]; rfl)
theorem run_bytes_of {src dst e : TypeId} (hs : P.underlying src = some .string) (hd : P.underlying dst = some (.slice e)) (he : P.underlying e = some (.int .u8)) (w : World) (s : ByteArray) (hm : s.size ≤ maxLen) :
    ∃ c w', (convert src dst (.string s)).run P w = .ok (.slice (some ⟨w.heap.size, 0, none⟩) s.size c) w' ∧ Reads w' 1 (.slice (some ⟨w.heap.size, 0, none⟩) s.size c) s.size (s.data.toList.map byteV) ∧ Ext w w' ∧ (∀ i, i < s.size → w'.frozen? ⟨w.heap.size, i, none⟩ = false) := by
  refine ⟨_, _, run_bytes_of_string w src dst e s hs hd he, ⟨by rw [List.length_map, Array.length_toList, Nat.mul_one]; rfl, _, _, rfl, ?_, grownCap_le_maxLen w s.size 0 e hm, fun _ => ⟨_, _, rfl, fun j u hu => ?_⟩⟩, ((Ext.refl w).drew).alloc _, fun i hi => ?_⟩
  · simpa using grownCap_ge w s.size 0 e
  · have hj : j < s.data.size := by
      rcases Nat.lt_or_ge j s.data.size with h | h
      · exact h
      · rw [List.getElem?_eq_none (by simpa using h)] at hu; cases hu
    have h1 := World.cell?_alloc_mark w.drew (bytesRow s (grownCap w s.size 0 e)) e ((bytesRow s (grownCap w s.size 0 e)).size, (bytesRow s (grownCap w s.size 0 e)).size + 1) j
    rw [Nat.zero_add]
    refine Eq.trans h1 ?_
    rw [bytesRow_at s _ j hj, ← hu, List.getElem?_map, Array.getElem?_toList, Array.getElem?_eq_getElem hj]
    rfl
  · have hsz : (bytesRow s (grownCap w s.size 0 e)).size ≥ s.size := by unfold bytesRow; rw [Array.size_append, Array.size_map]; exact Nat.le_add_right _ _
    show (w.drew.alloc (.cells (bytesRow s (grownCap w s.size 0 e)) e ((bytesRow s (grownCap w s.size 0 e)).size, (bytesRow s (grownCap w s.size 0 e)).size + 1))).frozen? ⟨w.drew.heap.size, i, none⟩ = false
    have : (w.drew.alloc (.cells (bytesRow s (grownCap w s.size 0 e)) e ((bytesRow s (grownCap w s.size 0 e)).size, (bytesRow s (grownCap w s.size 0 e)).size + 1))).heap[w.drew.heap.size]? = some (.cells (bytesRow s (grownCap w s.size 0 e)) e ((bytesRow s (grownCap w s.size 0 e)).size, (bytesRow s (grownCap w s.size 0 e)).size + 1)) := heap_alloc_new _ _
    unfold World.frozen?
    rw [this]
    simp
    omega
theorem wpList_bytesOf {ops : Array Oper} {rest : List Oper} {o : Oper} {a : Act} {w : World} {Q : Exit → Act → World → Prop} (hgd : o.guard = none) {src dst e : TypeId} {x : Operand} (ho : o.op = .convert src dst x)
    (hs : P.underlying src = some .string) (hd : P.underlying dst = some (.slice e)) (he : P.underlying e = some (.int .u8)) {s : ByteArray} (hx : a.eval x = .string s) (hm : s.size ≤ maxLen)
    (h : ∀ c w', Reads w' 1 (.slice (some ⟨w.heap.size, 0, none⟩) s.size c) s.size (s.data.toList.map byteV) → Ext w w' → (∀ i, i < s.size → w'.frozen? ⟨w.heap.size, i, none⟩ = false) → wpList P ops Q rest (a.put o.dst (.slice (some ⟨w.heap.size, 0, none⟩) s.size c)) w') : wpList P ops Q (o :: rest) a w :=
  wpList_plain hgd fun _ hK => by
    obtain ⟨c, w', hrun, h1, h2, h3⟩ := run_bytes_of (P := P) hs hd he w s hm
    unfold Oper.wp execOp
    simp only [ho, hx, hrun, Sem.run_bind, Sem.run_pure, Result.andThen_ok]
    exact hK _ _ (h c w' h1 h2 h3)
theorem wpList_strOf {ops : Array Oper} {rest : List Oper} {o : Oper} {a : Act} {w : World} {Q : Exit → Act → World → Prop} (hgd : o.guard = none) {src dst e : TypeId} {x : Operand} (ho : o.op = .convert src dst x)
    (hs : P.underlying src = some (.slice e)) (he : P.underlying e = some (.int .u8)) (hd : P.underlying dst = some .string) {v : Value} (hx : a.eval x = v) {n : Nat} {l : List UInt8} (hr : Reads w 1 v n (l.map byteV))
    (h : wpList P ops Q rest (a.put o.dst (.string (strOf l))) w) : wpList P ops Q (o :: rest) a w :=
  wpList_plain hgd fun _ hK => by
    have hrun := run_str_of (P := P) hs he hd hr
    unfold Oper.wp execOp
    simp only [ho, hx, hrun, Sem.run_bind, Sem.run_pure, Result.andThen_ok]
    exact hK _ _ h
theorem wpList_appS {ops : Array Oper} {rest : List Oper} {o : Oper} {a : Act} {w : World} {Q : Exit → Act → World → Prop} (hgd : o.guard = none) {sl x : Operand} {t u : TypeId}
    (ho : o.op = .call { callee := .builtin .append, args := #[sl, x], argTypes := #[t, u] })
    {B : Nat} {e : TypeId} (T : SlTy P t e 1 1) (hz : (P.info? e).map (·.zero) = some (some (.int .u8 0))) (hu : P.underlying u = some .string) {v : Value} {n : Nat} {xs : List Value} (hs : a.eval sl = v) (hown : w.ownsRow B e 1 v n xs) {s : ByteArray} (hx : a.eval x = .string s)
    (hbytes : n + s.size ≤ 140737488355328) (hbase : B ≤ w.heap.size)
    (h : ∀ (A' : Option Addr) (c' : Nat) w', w'.ownsRow B e 1 (.slice A' (n + s.size) c') (n + s.size) (xs ++ s.data.toList.map byteV) → Chg (fun k => v.ownBlock = some k) w w' → wpList P ops Q rest (a.put o.dst (.slice A' (n + s.size) c')) w') : wpList P ops Q (o :: rest) a w := by
  obtain ⟨ht, ⟨i, z, hi, hz2, hsize, hby, hzs⟩, _, _⟩ := T
  have hz' : i.zero = some (.int .u8 0) := by rw [hi] at hz; simpa using hz
  refine Lib.wpList_append_own_string (P := P) (w := w) hgd sl x t u ho B e i ht hu hi hz' hsize hby v n xs hs hown s hx (by unfold maxLen; omega) hbytes hbase fun v' w' h1 h2 _ => ?_
  obtain ⟨A', c', rfl⟩ := own_slice h1
  exact h A' c' w' h1 ⟨h2.os, h2.tape, h2.output, h2.size, fun k hk hn => h2.block k hk (fun e => hn e.symm)⟩
end
end Go.Proofs.YtplkplegjoabgaaGreatDoor


namespace Go.Proofs.YtplkplegjoabgaaGreatDoor
open Go.RowKit
section
variable {P : Program}
theorem run_eqItems_u8 {e : TypeId} (hu : P.underlying e = some (.int .u8)) (he : P.plainKey e = true) (d : Nat) (a b : List UInt8) (w : World) : ∀ is : List Nat, (∀ i ∈ is, i < a.length ∧ i < b.length) →
    (Op.eqItems (d + 1) e 1 (a.map byteV).toArray (b.map byteV).toArray is).run P w = .ok (is.all fun i => a.getD i 0 == b.getD i 0) w
  | [], _ => by simp [Op.eqItems]
  | i :: is, h => by
    obtain ⟨h1, h2⟩ := h i (by simp)
    have p1 : (part e (a.map byteV).toArray (i * 1)).run P w = .ok (byteV a[i]) w := run_part_plain w he (by simp [List.getElem?_eq_getElem h1])
    have p2 : (part e (b.map byteV).toArray (i * 1)).run P w = .ok (byteV b[i]) w := run_part_plain w he (by simp [List.getElem?_eq_getElem h2])
    have p3 : (Op.equalIn (d + 1) e (byteV a[i]) (byteV b[i])).run P w = .ok (a[i] == b[i]) w := by
      simp [Op.equalIn, run_underlying hu, byteV]
      rw [Bool.eq_iff_iff]
      simp
      exact ⟨fun h => UInt8.toNat_inj.1 (Int.ofNat_inj.1 h), fun h => by rw [h]⟩
    have ih := run_eqItems_u8 hu he d a b w is fun j hj => h j (by simp [hj])
    simp only [Op.eqItems, Sem.run_bind, p1, p2, p3, Result.andThen_ok]
    rw [List.all_cons, List.getD_eq_getElem?_getD, List.getD_eq_getElem?_getD, List.getElem?_eq_getElem h1, List.getElem?_eq_getElem h2]
    simp only [Option.getD_some]
    by_cases hab : a[i] = b[i]
    · simpa [hab] using ih
    · simp [hab]
theorem all_eq (a b : List UInt8) (n : Nat) (ha : a.length = n) (hb : b.length = n) : ((List.range n).all fun i => a.getD i 0 == b.getD i 0) = decide (a = b) := by
  rw [Bool.eq_iff_iff]
  simp only [List.all_eq_true, List.mem_range, beq_iff_eq, decide_eq_true_eq]
  constructor
  · intro h
    apply List.ext_getElem (by omega)
    intro i h1 h2
    have := h i (by omega)
    simpa [List.getD_eq_getElem?_getD, List.getElem?_eq_getElem h1, List.getElem?_eq_getElem h2] using this
  · rintro rfl i _; rfl
theorem run_eql_bytes {t e : TypeId} {n : Nat} (hu : P.underlying t = some (.array n e)) (hue : P.underlying e = some (.int .u8)) (he : P.plainKey e = true) {inf : TypeInfo} (hi : P.info? e = some inf) (h1 : P.cellsOf e = 1) {a b : List UInt8} (ha : a.length = n) (hb : b.length = n) (w : World) :
    (binOp .eql t (.agg (a.map byteV).toArray) (.agg (b.map byteV).toArray)).run P w = .ok (.bool (decide (a = b))) w := by
  have h := run_equalIn_array (P := P) w 9999 (a.map byteV).toArray (b.map byteV).toArray hu hi
  rw [h1, run_eqItems_u8 hue he 9998 a b w _ (fun i hm => by rw [List.mem_range] at hm; omega), all_eq a b n ha hb] at h
  simp only [binOp]
  simp [Op.equal, Op.maxDepth, h]
end
theorem Reads.newM (w : World) (cs : Array Value) (e : TypeId) (fr : Nat × Nat) (n c : Nat) (xs : List Value) {g : Nat} (hg : g = w.heap.size) (hx : xs.length = n) (hc : n ≤ c) (hm : c ≤ maxLen) (ht : cs.toList.take xs.length = xs) :
    Reads (w.alloc (.cells cs e fr)) 1 (.slice (some ⟨g, 0, none⟩) n c) n xs := by
  subst hg
  refine ⟨by rw [hx, Nat.mul_one], _, c, rfl, hc, hm, fun _ => ⟨w.heap.size, 0, rfl, fun j u hu => ?_⟩⟩
  have hj : j < xs.length := by
    rcases Nat.lt_or_ge j xs.length with h | h
    · exact h
    · rw [List.getElem?_eq_none h] at hu; cases hu
  rw [Nat.zero_add, World.cell?_alloc_mark]
  rw [← ht, List.getElem?_take, if_pos hj] at hu
  simpa using hu
end Go.Proofs.YtplkplegjoabgaaGreatDoor


namespace Go.Proofs.YtplkplegjoabgaaGreatDoor
open Go.RowKit
def RSch (w : World) (bs : List UInt8) (k : Nat) (wr : World) : Prop :=
  Blk wr w.heap.size 201 (wordsTo 64 (schedAt bs k)) ∧ Ext w wr
theorem be4 (bs : List UInt8) (k : Nat) (h : 4 * k + 3 < bs.length) : beWord ((bs.drop (4 * k)).take 4) = ((((bs.getD (4 * k) 0).toUInt32 <<< 24) ||| ((bs.getD (4 * k + 1) 0).toUInt32 <<< 16)) ||| ((bs.getD (4 * k + 2) 0).toUInt32 <<< 8)) ||| (bs.getD (4 * k + 3) 0).toUInt32 := by
  have e : (bs.drop (4 * k)).take 4 = [bs.getD (4 * k) 0, bs.getD (4 * k + 1) 0, bs.getD (4 * k + 2) 0, bs.getD (4 * k + 3) 0] := by
    apply List.ext_getElem?
    intro i
    rw [List.getElem?_take, List.getElem?_drop]
    match i with
    | 0 => simp; rw [List.getElem?_eq_getElem (by omega)]; rfl
    | 1 => simp; rw [List.getElem?_eq_getElem (by omega)]; rfl
    | 2 => simp; rw [List.getElem?_eq_getElem (by omega)]; rfl
    | 3 => simp; rw [List.getElem?_eq_getElem (by omega)]; rfl
    | i + 4 => simp; omega
  rw [e]
  generalize bs.getD (4 * k) 0 = a
  generalize bs.getD (4 * k + 1) 0 = b
  generalize bs.getD (4 * k + 2) 0 = c
  generalize bs.getD (4 * k + 3) 0 = d
  unfold beWord
  simp only [List.foldl_cons, List.foldl_nil]
  apply UInt32.eq_of_toBitVec_eq
  simp
  have e1 : ∀ x : BitVec 32, (x <<< 8) <<< 8 = x <<< 16 := fun x => by rw [← BitVec.shiftLeft_add]
  have e2 : ∀ x : BitVec 32, (x <<< 16) <<< 8 = x <<< 24 := fun x => by rw [← BitVec.shiftLeft_add]
  simp only [BitVec.shiftLeft_or_distrib, e1, e2]
theorem mod8 (y : UInt8) : (y.toNat : Int) % 4294967296 = (y.toNat : Int) := by have := y.toNat_lt; omega
theorem sched_next (bs : List UInt8) (j : Nat) : schedAt bs (j + 16 + 1) = schedAt bs (j + 16) ++ [(schedAt bs (j + 16)).getD j 0 + ((rotrW ((schedAt bs (j + 16)).getD (j + 1) 0) 7 ^^^ rotrW ((schedAt bs (j + 16)).getD (j + 1) 0) 18) ^^^ ((schedAt bs (j + 16)).getD (j + 1) 0 >>> 3)) + (schedAt bs (j + 16)).getD (j + 9) 0 +
    ((rotrW ((schedAt bs (j + 16)).getD (j + 14) 0) 17 ^^^ rotrW ((schedAt bs (j + 16)).getD (j + 14) 0) 19) ^^^ ((schedAt bs (j + 16)).getD (j + 14) 0 >>> 10))] := by
  rw [schedAt, if_neg (by omega)]
  unfold schedNext
  simp only [schedAt_length, show j + 16 - 15 = j + 1 from by omega, show j + 16 - 2 = j + 14 from by omega, show j + 16 - 16 = j from by omega, show j + 16 - 7 = j + 9 from by omega]
theorem rot_6 (x : UInt32) (w : World) : Calls Tryz.prog 170 #[.int .u32 (x.toNat : Int), .int .i64 6] w fun e w' => e = .returned (.int .u32 ((rotrW x 6).toNat : Int)) ∧ ∃ k, w' = w.drewN k := rot_any x 6 _ rfl w (by omega) (by omega)
theorem rot_11 (x : UInt32) (w : World) : Calls Tryz.prog 170 #[.int .u32 (x.toNat : Int), .int .i64 11] w fun e w' => e = .returned (.int .u32 ((rotrW x 11).toNat : Int)) ∧ ∃ k, w' = w.drewN k := rot_any x 11 _ rfl w (by omega) (by omega)
theorem rot_25 (x : UInt32) (w : World) : Calls Tryz.prog 170 #[.int .u32 (x.toNat : Int), .int .i64 25] w fun e w' => e = .returned (.int .u32 ((rotrW x 25).toNat : Int)) ∧ ∃ k, w' = w.drewN k := rot_any x 25 _ rfl w (by omega) (by omega)
theorem rot_2 (x : UInt32) (w : World) : Calls Tryz.prog 170 #[.int .u32 (x.toNat : Int), .int .i64 2] w fun e w' => e = .returned (.int .u32 ((rotrW x 2).toNat : Int)) ∧ ∃ k, w' = w.drewN k := rot_any x 2 _ rfl w (by omega) (by omega)
theorem rot_13 (x : UInt32) (w : World) : Calls Tryz.prog 170 #[.int .u32 (x.toNat : Int), .int .i64 13] w fun e w' => e = .returned (.int .u32 ((rotrW x 13).toNat : Int)) ∧ ∃ k, w' = w.drewN k := rot_any x 13 _ rfl w (by omega) (by omega)
theorem rot_22 (x : UInt32) (w : World) : Calls Tryz.prog 170 #[.int .u32 (x.toNat : Int), .int .i64 22] w fun e w' => e = .returned (.int .u32 ((rotrW x 22).toNat : Int)) ∧ ∃ k, w' = w.drewN k := rot_any x 22 _ rfl w (by omega) (by omega)
theorem rot_7 (x : UInt32) (w : World) : Calls Tryz.prog 170 #[.int .u32 (x.toNat : Int), .int .i64 7] w fun e w' => e = .returned (.int .u32 ((rotrW x 7).toNat : Int)) ∧ ∃ k, w' = w.drewN k := rot_any x 7 _ rfl w (by omega) (by omega)
theorem rot_18 (x : UInt32) (w : World) : Calls Tryz.prog 170 #[.int .u32 (x.toNat : Int), .int .i64 18] w fun e w' => e = .returned (.int .u32 ((rotrW x 18).toNat : Int)) ∧ ∃ k, w' = w.drewN k := rot_any x 18 _ rfl w (by omega) (by omega)
theorem rot_17 (x : UInt32) (w : World) : Calls Tryz.prog 170 #[.int .u32 (x.toNat : Int), .int .i64 17] w fun e w' => e = .returned (.int .u32 ((rotrW x 17).toNat : Int)) ∧ ∃ k, w' = w.drewN k := rot_any x 17 _ rfl w (by omega) (by omega)
theorem rot_19 (x : UInt32) (w : World) : Calls Tryz.prog 170 #[.int .u32 (x.toNat : Int), .int .i64 19] w fun e w' => e = .returned (.int .u32 ((rotrW x 19).toNat : Int)) ∧ ∃ k, w' = w.drewN k := rot_any x 19 _ rfl w (by omega) (by omega)
theorem sig_val (x r s : UInt32) (n : Nat) (d : Int) (hd : d = 2 ^ n) (hn : n < 32) : bits BinOp.xor IntKind.u32 (bits BinOp.xor IntKind.u32 (r.toNat : Int) (s.toNat : Int)) ((x.toNat : Int) / d) = (((r ^^^ s) ^^^ (x >>> UInt32.ofNat n)).toNat : Int) := by
  rw [hd, shr32 x n hn, xor32, xor32]
theorem add4 (a b c d : UInt32) : ((a.toNat : Int) + (b.toNat : Int) + (c.toNat : Int) + (d.toNat : Int)) % 4294967296 = ((a + b + c + d).toNat : Int) := by
  rw [UInt32.toNat_add, UInt32.toNat_add, UInt32.toNat_add]
  omega
theorem rt_val (x7 x4 x5 x6 xk xw r1 r2 r3 : UInt32) : ((x7.toNat : Int) + bits BinOp.xor IntKind.u32 (bits BinOp.xor IntKind.u32 (r1.toNat : Int) (r2.toNat : Int)) (r3.toNat : Int) + bits BinOp.xor IntKind.u32 (bits BinOp.and IntKind.u32 (x4.toNat : Int) (x5.toNat : Int)) (bits BinOp.and IntKind.u32 (bits BinOp.xor IntKind.u32 4294967295 (x4.toNat : Int)) (x6.toNat : Int)) + (xk.toNat : Int) + (xw.toNat : Int)) % 4294967296 =
    ((x7 + (r1 ^^^ r2 ^^^ r3) + ((x4 &&& x5) ^^^ (~~~x4 &&& x6)) + xk + xw).toNat : Int) := by
  rw [show (4294967295 : Int) = IntKind.u32.max from rfl, not32, and32, and32, xor32, xor32, xor32]
  simp only [UInt32.toNat_add]
  omega
theorem ru_val (T x0 x1 x2 r1 r2 r3 : UInt32) : ((T.toNat : Int) + (bits BinOp.xor IntKind.u32 (bits BinOp.xor IntKind.u32 (r1.toNat : Int) (r2.toNat : Int)) (r3.toNat : Int) + bits BinOp.xor IntKind.u32 (bits BinOp.xor IntKind.u32 (bits BinOp.and IntKind.u32 (x0.toNat : Int) (x1.toNat : Int)) (bits BinOp.and IntKind.u32 (x0.toNat : Int) (x2.toNat : Int))) (bits BinOp.and IntKind.u32 (x1.toNat : Int) (x2.toNat : Int))) % 4294967296) % 4294967296 =
    ((T + ((r1 ^^^ r2 ^^^ r3) + (((x0 &&& x1) ^^^ (x0 &&& x2)) ^^^ (x1 &&& x2)))).toNat : Int) := by
  rw [and32, and32, and32, xor32, xor32, xor32, xor32]
  simp only [UInt32.toNat_add]
  omega
theorem fin_words (R v : List UInt32) (hR : R.length = 8) (hv : v.length = 8) : List.zipWith (· + ·) R v = [v.getD 0 0 + R.getD 0 0, v.getD 1 0 + R.getD 1 0, v.getD 2 0 + R.getD 2 0, v.getD 3 0 + R.getD 3 0, v.getD 4 0 + R.getD 4 0, v.getD 5 0 + R.getD 5 0, v.getD 6 0 + R.getD 6 0, v.getD 7 0 + R.getD 7 0] := by
  match R, hR, v, hv with
  | [a, b, c, d, e, f, g, h], _, [a', b', c', d', e', f', g', h'], _ =>
    simp [UInt32.add_comm]
theorem be4_val (a b c d : UInt8) : bits BinOp.or IntKind.u32 (bits BinOp.or IntKind.u32 (bits BinOp.or IntKind.u32 ((a.toNat : Int) * 16777216 % 4294967296) ((b.toNat : Int) * 65536 % 4294967296)) ((c.toNat : Int) * 256 % 4294967296)) (d.toNat : Int) =
    ((((a.toUInt32 <<< 24) ||| (b.toUInt32 <<< 16)) ||| (c.toUInt32 <<< 8)) ||| d.toUInt32).toNat := by
  have h24 := shl32 a.toUInt32 24 (by omega)
  have h16 := shl32 b.toUInt32 16 (by omega)
  have h8 := shl32 c.toUInt32 8 (by omega)
  rw [show (16777216 : Int) = 2 ^ 24 from rfl, show (65536 : Int) = 2 ^ 16 from rfl, show (256 : Int) = 2 ^ 8 from rfl, conv32, conv32 b, conv32 c, conv32 d, h24, h16, h8, or32, or32, or32]
  rfl
set_option maxRecDepth 100000 in
set_option maxHeartbeats 4000000 in
theorem rcompress_any (v : List UInt32) (bs : List UInt8) (vv bv kv : Value) (w : World) (hv : v.length = 8) (hb : bs.length = 64) (hrv : Reads w 1 vv 8 (v.map w32)) (hrb : Reads w 1 bv 64 (bs.map u8v)) (hrk : Reads w 1 kv 64 (shaK.map w32)) :
    Calls Tryz.prog 137 #[vv, bv, kv] w fun e w' => ∃ A, e = .returned (.slice A 8 8) ∧ Reads w' 1 (.slice A 8 8) 8 ((shaBlock v bs).map w32) ∧ Ext w w' := by
  have HV := hide (And.intro hv hrv)
  have HB := hide (And.intro hb hrb)
  have HK := hide hrk
  obtain ⟨b0, o0, c0, rfl, _, _, _, _⟩ := hrv.sub 0 8 (by omega) (by omega)
  obtain ⟨b1, o1, c1, rfl, _, _, _, _⟩ := hrb.sub 0 64 (by omega) (by omega)
  obtain ⟨b2, o2, c2, rfl, _, _, _, _⟩ := hrk.sub 0 64 (by omega) (by omega)
  clear hv hb hrv hrb hrk
  go_enter Tryz.func137, Tryz.ntmps137
  have hmk : ∀ W, (Instr.makeSlice 198 (.int .i64 64) (.int .i64 64)).run Tryz.prog W = .ok (.slice (some ⟨W.heap.size, 0, none⟩) 64 64) (W.alloc (.cells (wordsTo 64 (schedAt bs 0)) 201)) := fun _ => by kernel_rfl
  go_wp2
  clear hmk
  go_loopw [8] (fun i wr => ∃ k : Nat, k ≤ 16 ∧ i = .int .i64 k ∧ Hid (RSch w bs k wr)) (fun i _ => 16 - (intOf i).toNat)
  case atStart => exact ⟨0, Nat.zero_le _, rfl, hide ⟨Blk.new _ _ _, (Ext.refl w).alloc _⟩⟩
  case round =>
    obtain ⟨k, hk, rfl, HS⟩ := hrel
    by_cases hlt : k < 16
    --BEGIN1
    · have hL := schedAt_length bs k
      have hw : wr.cell? ⟨w.heap.size, k, none⟩ = some (.int .u32 0) ∧ wr.frozen? ⟨w.heap.size, k, none⟩ = false := ⟨by
        rw [(unhide HS).1.cell]
        unfold wordsTo
        rw [List.getElem?_toArray, List.getElem?_append_right (by simp; omega), List.getElem?_replicate, if_pos (by simp; omega)], (unhide HS).1.frozen k⟩
      obtain ⟨hw1, hw2⟩ := hw
      have hr1 := (unhide HB).2.ext (unhide HS).2
      have q0 := hr1.byteAt (j := 4 * k) (by rw [(unhide HB).1]; omega)
      have q1 := hr1.byteAt (j := 4 * k + 1) (by rw [(unhide HB).1]; omega)
      have q2 := hr1.byteAt (j := 4 * k + 2) (by rw [(unhide HB).1]; omega)
      have q3 := hr1.byteAt (j := 4 * k + 3) (by rw [(unhide HB).1]; omega)
      clear hr1
      have HX := hide (be4 bs k (by rw [(unhide HB).1]; omega))
      have HE := hide (fun a b c d => be4_val a b c d)
      generalize bs.getD (4 * k) 0 = y0 at *
      generalize bs.getD (4 * k + 1) 0 = y1 at *
      generalize bs.getD (4 * k + 2) 0 = y2 at *
      generalize bs.getD (4 * k + 3) 0 = y3 at *
      have e0 : IntKind.i64.wrap (4 * (k : Int)) = 4 * (k : Int) := IntWalk.i64_in _ (by omega)
      have e1 : IntKind.i64.wrap (4 * (k : Int) + 1) = 4 * (k : Int) + 1 := IntWalk.i64_in _ (by omega)
      have e2 : IntKind.i64.wrap (4 * (k : Int) + 2) = 4 * (k : Int) + 2 := IntWalk.i64_in _ (by omega)
      have e3 : IntKind.i64.wrap (4 * (k : Int) + 3) = 4 * (k : Int) + 3 := IntWalk.i64_in _ (by omega)
      have t0 : (4 * (k : Int)).toNat = 4 * k := by omega
      have t1 : (4 * (k : Int) + 1).toNat = 4 * k + 1 := by omega
      have t2 : (4 * (k : Int) + 2).toNat = 4 * k + 2 := by omega
      have t3 : (4 * (k : Int) + 3).toNat = 4 * k + 3 := by omega
      have z : (0 : Int) ≤ 4 * (k : Int) ∧ (0 : Int) ≤ 4 * (k : Int) + 1 ∧ (0 : Int) ≤ 4 * (k : Int) + 2 ∧ (0 : Int) ≤ 4 * (k : Int) + 3 ∧ 4 * (k : Int) < 64 ∧ 4 * (k : Int) + 1 < 64 ∧ 4 * (k : Int) + 2 < 64 ∧ 4 * (k : Int) + 3 < 64 ∧ (k : Int) < 64 := by omega
      obtain ⟨z1, z2, z3, z4, z5, z6, z7, z8, z9⟩ := z
      go_wp2_with fail
      go_still_tail 36, (by kernel_rfl)
      clear q0 q1 q2 q3
      change wpList _ _ _ _ _ wr.drew
      go_wp2
      go_roundw
      case rel =>
        refine ⟨k + 1, by omega, by go_num, hide ⟨?_, (Ext.setCell (unhide HS).2.drew (by simp) _)⟩⟩
        have h1 := (unhide HS).1.drew.set_ k (.int .u32 ((beWord ((bs.drop (4 * k)).take 4)).toNat : Int))
        rw [wordsTo_set' _ (schedAt_length bs k) (by omega)] at h1
        simp only [mod8]
        rw [unhide HE, ← unhide HX]
        rw [schedAt, if_pos hlt]
        first | exact h1.drew | exact h1
      case measure => simp [intOf]; omega
    --END1
    · obtain rfl : k = 16 := by omega
      clear hk hlt
      obtain ⟨wo, rfl⟩ : ∃ wo : World, wo = wr := ⟨_, rfl⟩
      go_wp2
      go_loopw [9] (fun i wr => ∃ k : Nat, 16 ≤ k ∧ k ≤ 64 ∧ i = .int .i64 k ∧ Hid (RSch w bs k wr)) (fun i _ => 64 - (intOf i).toNat)
      case atStart => exact ⟨16, by omega, by omega, rfl, HS⟩
      case round =>
        clear HS
        obtain ⟨k, hk16, hk, rfl, HS⟩ := hrel
        by_cases hlt : k < 64
        --BEGIN2
        · obtain ⟨j, rfl⟩ : ∃ j, k = j + 16 := ⟨k - 16, by omega⟩
          have hL := schedAt_length bs (j + 16)
          have cx : ∀ i, i < j + 16 → wr.cell? ⟨w.heap.size, i, none⟩ = some (.int .u32 (((schedAt bs (j + 16)).getD i 0).toNat : Int)) := fun i hi => by
            rw [(unhide HS).1.cell]
            exact wordsTo_get (by omega)
          have hold : wr.cell? ⟨w.heap.size, j + 16, none⟩ = some (.int .u32 0) := by
            rw [(unhide HS).1.cell]
            unfold wordsTo
            rw [List.getElem?_toArray, List.getElem?_append_right (by simp; omega), List.getElem?_replicate, if_pos (by simp; omega)]
          have HN := hide (sched_next bs j)
          have HC := hide (And.intro hold (And.intro (cx j (by omega)) (cx (j + 9) (by omega))))
          have c1 := cx (j + 1) (by omega)
          have c14 := cx (j + 14) (by omega)
          clear cx hold
          generalize (schedAt bs (j + 16)).getD j 0 = x0 at *
          generalize (schedAt bs (j + 16)).getD (j + 1) 0 = x1 at *
          generalize (schedAt bs (j + 16)).getD (j + 9) 0 = x9 at *
          generalize (schedAt bs (j + 16)).getD (j + 14) 0 = x14 at *
          have d64 : decide ((j : Int) + 16 < 64) = true := decide_eq_true (by omega)
          have hj : j < 48 := by omega
          clear hk16 hk hlt
          go_upto_region 9 with fail
          have i15 : (((j + 16 : Nat) : Int) - 15) = ((j + 1 : Nat) : Int) := by omega
          go_cut [10] (fun s wx => ∃ T : UInt32, s = .int .u32 (T.toNat : Int) ∧ Hid (T = (rotrW x1 7 ^^^ rotrW x1 18) ^^^ (x1 >>> 3) ∧ Ext wr wx))
          case first =>
            go_quiet ((first | (go_at_call 170; with_reducible exact Calls.quiet_of (rot_7 x1 _)) | (go_at_call 170; with_reducible exact Calls.quiet_of (rot_18 x1 _))))
            go_wp2_with fail
            go_meet
            exact ⟨_, int_eq (sig_val x1 _ _ 3 8 rfl (by omega)), hide ⟨rfl, (Ext.refl wr).drewN _⟩⟩
          case rest =>
            obtain ⟨T, rfl, HT⟩ := hcut
            obtain ⟨wp, rfl⟩ : ∃ wp : World, wp = wc := ⟨_, rfl⟩
            clear c1 i15
            have c14' := Ext.cellv (unhide HT).2 c14
            clear c14
            go_upto_region 10 with fail
            have i2 : (((j + 16 : Nat) : Int) - 2) = ((j + 14 : Nat) : Int) := by omega
            go_cut [11] (fun s wx => ∃ U : UInt32, s = .int .u32 (U.toNat : Int) ∧ Hid (U = (rotrW x14 17 ^^^ rotrW x14 19) ^^^ (x14 >>> 10) ∧ Ext wr wx))
            case first =>
              go_quiet ((first | (go_at_call 170; with_reducible exact Calls.quiet_of (rot_17 x14 _)) | (go_at_call 170; with_reducible exact Calls.quiet_of (rot_19 x14 _))))
              go_wp2_with fail
              go_meet
              exact ⟨_, int_eq (sig_val x14 _ _ 10 1024 rfl (by omega)), hide ⟨rfl, (unhide HT).2.drewN _⟩⟩
            case rest =>
              obtain ⟨U, rfl, HU⟩ := hcut
              obtain ⟨wq, rfl⟩ : ∃ wq : World, wq = wc := ⟨_, rfl⟩
              clear c14' i2
              have f0 := Ext.cellv (unhide HU).2 (unhide HC).1
              have f1 := Ext.cellv (unhide HU).2 (unhide HC).2.1
              have f2 := Ext.cellv (unhide HU).2 (unhide HC).2.2
              have ff := ((unhide HS).1.ext (unhide HU).2).frozen (j + 16)
              have i16 : IntKind.i64.wrap (((j + 16 : Nat) : Int) - 16) = (j : Int) := (IntWalk.i64_in _ (by omega)).trans (by omega)
              have i7 : IntKind.i64.wrap (((j + 16 : Nat) : Int) - 7) = ((j + 9 : Nat) : Int) := (IntWalk.i64_in _ (by omega)).trans (by omega)
              have i7' : IntKind.i64.wrap ((j : Int) + 16 - 7) = (j : Int) + 9 := (IntWalk.i64_in _ (by omega)).trans (by omega)
              have i9 : IntKind.i64.wrap ((j : Int) + 9) = (j : Int) + 9 := IntWalk.i64_in _ (by omega)
              have i0 : IntKind.i64.wrap (j : Int) = (j : Int) := IntWalk.i64_in _ (by omega)
              have t9 : ((j : Int) + 9).toNat = j + 9 := by omega
              have t16 : ((j : Int) + 16).toNat = j + 16 := by omega
              have b0 : (0 : Int) ≤ (j : Int) + 9 ∧ (j : Int) + 9 < 64 ∧ (j : Int) < 64 ∧ (j : Int) + 16 < 64 ∧ (0 : Int) ≤ (j : Int) + 16 := by omega
              obtain ⟨b1, b2, b3, b4, b5⟩ := b0
              go_upto_region 11 with fail
              go_still_tail 18, (by kernel_rfl)
              clear f1 f2
              change wpList _ _ _ _ _ wq.drew
              go_wp2
              go_roundw
              case rel =>
                repeat apply Exists.intro
                refine ⟨?_, rfl⟩
                refine ⟨j + 16 + 1, by omega, by omega, by go_num, hide ⟨?_, ?_⟩⟩
                · have h1 := (((unhide HS).1.ext (unhide HU).2).set_ (j + 16) (.int .u32 ((x0 + T + x9 + U).toNat : Int))).drew
                  rw [wordsTo_set' _ (schedAt_length bs (j + 16)) (by omega)] at h1
                  rw [unhide HN, add4, ← (unhide HT).1, ← (unhide HU).1]
                  exact h1
                · exact (((unhide HS).2.trans (unhide HU).2).setCell (by simp) _).drew
              case measure => simp [intOf]; omega
        --END2
        · obtain rfl : k = 64 := by omega
          clear hk16 hk hlt
          obtain ⟨wp, rfl⟩ : ∃ wp : World, wp = wr := ⟨_, rfl⟩
          have hv := (unhide HV).2.ext (unhide HS).2
          have v0 := hv.wordAt (j := 0) (by rw [(unhide HV).1]; omega)
          have v1 := hv.wordAt (j := 1) (by rw [(unhide HV).1]; omega)
          have v2 := hv.wordAt (j := 2) (by rw [(unhide HV).1]; omega)
          have v3 := hv.wordAt (j := 3) (by rw [(unhide HV).1]; omega)
          have v4 := hv.wordAt (j := 4) (by rw [(unhide HV).1]; omega)
          have v5 := hv.wordAt (j := 5) (by rw [(unhide HV).1]; omega)
          have v6 := hv.wordAt (j := 6) (by rw [(unhide HV).1]; omega)
          have v7 := hv.wordAt (j := 7) (by rw [(unhide HV).1]; omega)
          rw [Nat.add_zero] at v0
          have HVC := hide (And.intro v0 (And.intro v1 (And.intro v2 (And.intro v3 (And.intro v4 (And.intro v5 (And.intro v6 v7)))))))
          clear hv
          go_wp2
          clear v0 v1 v2 v3 v4 v5 v6 v7
          go_loopw [12, 13, 14, 15, 16, 17, 18, 19, 20] (fun a b c d e f g h i wr => ∃ k : Nat, k ≤ 64 ∧ i = .int .i64 k ∧ a = .int .u32 (((roundsAt bs v k).getD 0 0).toNat : Int) ∧ b = .int .u32 (((roundsAt bs v k).getD 1 0).toNat : Int) ∧ c = .int .u32 (((roundsAt bs v k).getD 2 0).toNat : Int) ∧ d = .int .u32 (((roundsAt bs v k).getD 3 0).toNat : Int) ∧ e = .int .u32 (((roundsAt bs v k).getD 4 0).toNat : Int) ∧ f = .int .u32 (((roundsAt bs v k).getD 5 0).toNat : Int) ∧ g = .int .u32 (((roundsAt bs v k).getD 6 0).toNat : Int) ∧ h = .int .u32 (((roundsAt bs v k).getD 7 0).toNat : Int) ∧ Hid (Ext wp wr)) (fun _ _ _ _ _ _ _ _ i _ => 64 - (intOf i).toNat)
          case atStart => exact ⟨0, Nat.zero_le _, rfl, rfl, rfl, rfl, rfl, rfl, rfl, rfl, rfl, hide (Ext.refl _)⟩
          case round =>
            obtain ⟨k, hk, rfl, rfl, rfl, rfl, rfl, rfl, rfl, rfl, rfl, HE⟩ := hrel
            by_cases hlt : k < 64
            · have cw : wr.cell? ⟨w.heap.size, k, none⟩ = some (.int .u32 (((sched bs).getD k 0).toNat : Int)) := by
                rw [((unhide HS).1.ext (unhide HE)).cell]
                exact wordsTo_get (by rw [schedAt_length]; exact hlt)
              have ck := ((unhide HK).ext ((unhide HS).2.trans (unhide HE))).wordAt (j := k) hlt
              have HN := hide (show roundsAt bs v (k + 1) = shaRound (roundsAt bs v k) (shaK.getD k 0) ((sched bs).getD k 0) from rfl)
              unfold shaRound at HN
              generalize (roundsAt bs v k).getD 0 0 = x0 at *
              generalize (roundsAt bs v k).getD 1 0 = x1 at *
              generalize (roundsAt bs v k).getD 2 0 = x2 at *
              generalize (roundsAt bs v k).getD 3 0 = x3 at *
              generalize (roundsAt bs v k).getD 4 0 = x4 at *
              generalize (roundsAt bs v k).getD 5 0 = x5 at *
              generalize (roundsAt bs v k).getD 6 0 = x6 at *
              generalize (roundsAt bs v k).getD 7 0 = x7 at *
              generalize (sched bs).getD k 0 = xw at *
              generalize shaK.getD k 0 = xk at *
              have d64 : decide ((k : Int) < 64) = true := decide_eq_true (by omega)
              have b64 : (k : Int) < 64 := by omega
              have t1 : (0 : Int) ≤ (k : Int) := by omega
              go_upto_region 23 with fail
              clear d64
              go_cut [21] (fun s wx => ∃ T : UInt32, s = .int .u32 (T.toNat : Int) ∧ Hid (T = x7 + (rotrW x4 6 ^^^ rotrW x4 11 ^^^ rotrW x4 25) + ((x4 &&& x5) ^^^ (~~~x4 &&& x6)) + xk + xw ∧ Ext wr wx))
              case first =>
                go_quiet ((first | (go_at_call 170; with_reducible exact Calls.quiet_of (rot_6 x4 _)) | (go_at_call 170; with_reducible exact Calls.quiet_of (rot_11 x4 _)) | (go_at_call 170; with_reducible exact Calls.quiet_of (rot_25 x4 _))))
                go_wp2_with fail
                go_meet
                exact ⟨_, int_eq (rt_val x7 x4 x5 x6 xk xw _ _ _), hide ⟨rfl, (Ext.refl wr).drewN _⟩⟩
              case rest =>
                obtain ⟨T, rfl, HT⟩ := hcut
                obtain ⟨wq, rfl⟩ : ∃ wq : World, wq = wc := ⟨_, rfl⟩
                clear cw ck
                go_wp2_with (first
                  | (go_at_call 170; with_reducible refine (rot_2 x0 _).mono ?_; rintro e w' ⟨rfl, n2, rfl⟩)
                  | (go_at_call 170; with_reducible refine (rot_13 x0 _).mono ?_; rintro e w' ⟨rfl, n13, rfl⟩)
                  | (go_at_call 170; with_reducible refine (rot_22 x0 _).mono ?_; rintro e w' ⟨rfl, n22, rfl⟩))
                go_roundw
                case rel =>
                  repeat apply Exists.intro
                  refine ⟨?_, rfl⟩
                  have a2 : ((x3.toNat : Int) + (T.toNat : Int)) % 4294967296 = ((x3 + T).toNat : Int) := add32 x3 T
                  refine ⟨k + 1, by omega, by go_num, int_eq ?_, ?_, ?_, ?_, int_eq ?_, ?_, ?_, ?_, hide (((unhide HE).trans (unhide HT).2).drewN _)⟩
                  · rw [ru_val, unhide HN, (unhide HT).1]
                    rfl
                  all_goals rw [unhide HN]
                  · rfl
                  · rfl
                  · rfl
                  · rw [a2, (unhide HT).1]; rfl
                  · rfl
                  · rfl
                  · rfl
                case measure => simp [intOf]; omega
            · obtain rfl : k = 64 := by omega
              clear hk hlt
              obtain ⟨wq, rfl⟩ : ∃ wq : World, wq = wr := ⟨_, rfl⟩
              obtain ⟨v0, v1, v2, v3, v4, v5, v6, v7⟩ := unhide HVC
              have v0 := Ext.cellv (unhide HE) v0
              have v1 := Ext.cellv (unhide HE) v1
              have v2 := Ext.cellv (unhide HE) v2
              have v3 := Ext.cellv (unhide HE) v3
              have v4 := Ext.cellv (unhide HE) v4
              have v5 := Ext.cellv (unhide HE) v5
              have v6 := Ext.cellv (unhide HE) v6
              have v7 := Ext.cellv (unhide HE) v7
              have HR := hide (fin_words (roundsAt bs v 64) v (roundsAt_length _ _ (unhide HV).1 64) (unhide HV).1)
              generalize (roundsAt bs v 64).getD 0 0 = r0 at *
              generalize (roundsAt bs v 64).getD 1 0 = r1 at *
              generalize (roundsAt bs v 64).getD 2 0 = r2 at *
              generalize (roundsAt bs v 64).getD 3 0 = r3 at *
              generalize (roundsAt bs v 64).getD 4 0 = r4 at *
              generalize (roundsAt bs v 64).getD 5 0 = r5 at *
              generalize (roundsAt bs v 64).getD 6 0 = r6 at *
              generalize (roundsAt bs v 64).getD 7 0 = r7 at *
              generalize v.getD 0 0 = y0 at *
              generalize v.getD 1 0 = y1 at *
              generalize v.getD 2 0 = y2 at *
              generalize v.getD 3 0 = y3 at *
              generalize v.getD 4 0 = y4 at *
              generalize v.getD 5 0 = y5 at *
              generalize v.getD 6 0 = y6 at *
              generalize v.getD 7 0 = y7 at *
              go_upto_region 33 with fail
              go_still_tail 40, (by kernel_rfl)
              clear v0 v1 v2 v3 v4 v5 v6 v7
              change wpList _ _ _ _ _ wq.drew
              go_wp2
              go_ret
              refine ⟨_, rfl, ?_, (((((unhide HS).2.trans (unhide HE)).drew).alloc _))⟩
              simp only [add32]
              have hz : (shaBlock v bs).map w32 = [w32 (y0 + r0), w32 (y1 + r1), w32 (y2 + r2), w32 (y3 + r3), w32 (y4 + r4), w32 (y5 + r5), w32 (y6 + r6), w32 (y7 + r7)] := by
                unfold shaBlock shaRounds
                rw [unhide HR]
                rfl
              rw [hz]
              exact (Reads.newM wq _ _ _ 8 8 _ rfl rfl (Nat.le_refl _) (by unfold maxLen; omega) rfl).ext ((Ext.refl _).drew)
end Go.Proofs.YtplkplegjoabgaaGreatDoor


namespace Go.Proofs.YtplkplegjoabgaaGreatDoor
open Go.RowKit
attribute [local go_sem] Oper.semAt_some
theorem chunk_any (A : Option Addr) (n c : Nat) (w : World) :
    Calls Tryz.prog 147 #[.slice A n c, .int .i64 64] w fun e w' => e = .returned (.func (.func 177) #[] #[.pointer (some ⟨w.heap.size, 0, none⟩), .pointer (some ⟨w.heap.size + 1, 0, none⟩)]) ∧
      (w.alloc (.cells #[.slice A n c] 40)).alloc (.cells #[.int .i64 64] 3) = w' := by
  go_enter Tryz.func147, Tryz.ntmps147
  go_wp2
  go_ret
  exact ⟨rfl, rfl⟩
theorem fin_step (m k : Nat) (h : k < m) : (List.finRange m).take (k + 1) = (List.finRange m).take k ++ [⟨k, h⟩] := by
  rw [take_step _ k (by simpa using h)]
  simp
theorem fin_map (m : Nat) : (List.finRange m).map Fin.val = List.range m := by
  apply List.ext_getElem
  · simp
  · intro i h1 h2; simp
set_option maxHeartbeats 1000000 in
theorem chunk_stops (b o c m : Nat) (Bs Bn : Nat) (S : Nat → Prop) (w : World) (hm : 64 * m ≤ 1000000000) (hc : 64 * m ≤ c) (hs : ¬ S Bs) (hn : ¬ S Bn)
    (h1 : w.cell? ⟨Bs, 0, none⟩ = some (.slice (some ⟨b, o, none⟩) (64 * m) c)) (h2 : w.cell? ⟨Bn, 0, none⟩ = some (.int .i64 64)) :
    SeqStopsK Fence.wide 2 Tryz.prog 177 #[.pointer (some ⟨Bs, 0, none⟩), .pointer (some ⟨Bn, 0, none⟩)] (fun x : Fin m => #[.slice (some ⟨b, o + 64 * x.val, none⟩) 64 64]) (KeepC S) (fun ys => ys = List.finRange m) (fun _ => True) m w := by
  intro l J Jx W hW hJ hJx hY h0
  have k1 := (hW.cell (p := ⟨Bs, 0, none⟩) (lt_of_cell h1)).trans h1
  have k2 := (hW.cell (p := ⟨Bn, 0, none⟩) (lt_of_cell h2)).trans h2
  clear h1 h2
  refine callsIn_wide.2 ?_
  go_enter Tryz.func177, Tryz.ntmps177
  go_wp2
  go_loopw [4] (fun i wr => ∃ k : Nat, k ≤ m ∧ i = .int .i64 ((64 * k : Nat) : Int) ∧ Hid (J ((List.finRange m).take k) wr) ∧ wr.cell? ⟨Bs, 0, none⟩ = some (.slice (some ⟨b, o, none⟩) (64 * m) c) ∧ wr.cell? ⟨Bn, 0, none⟩ = some (.int .i64 64)) (fun i _ => 64 * m - (intOf i).toNat)
  case atStart => exact ⟨0, Nat.zero_le _, rfl, hide h0, k1, k2⟩
  case round =>
    obtain ⟨k, hk, rfl, hj, g1, g2⟩ := hrel
    by_cases hlt : k < m
    · have e1 : ¬ 64 * k = c := by omega
      have e2 : 64 * k < 64 * m := by omega
      have e3 : 64 ≤ 64 * m - 64 * k := by omega
      go_wp2
      go_quiet (fail)
      go_upto_region 4 with fail
      have hj' := hJ _ _ (wr.drewN nq) none (unhide hj) ⟨rfl, rfl, rfl, Nat.le_refl _, fun _ _ _ => rfl⟩ (fun r e => by cases e)
      obtain ⟨fn, tmps, assign, body, hy, hR⟩ := hY ((List.finRange m).take k) ⟨k, hlt⟩ (wr.drewN nq) hj' (by simp; omega)
      dsimp only at hy
      refine (wpIn_wide (n := 2)).1 ?_
      gi_wp2
      clear hy
      refine hR.mono ?_
      rintro e W3 (⟨rfl, hJ3, hk3⟩ | ⟨rfl, hJx3⟩)
      · have g1' := hk3 _ _ hs g1
        have g2' := hk3 _ _ hn g2
        have hJ4 := hide hJ3
        clear hJ3 hk3
        gi_wp2
        go_wp2
        go_roundw
        case rel => exact ⟨k + 1, by omega, by go_num, hide (by rw [fin_step m k hlt]; exact unhide hJ4), g1', g2'⟩
        case measure => simp [intOf]; omega
      · gi_wp2
        go_wp2
        refine bodyPost_ret (results_none rfl _ _ _) rfl ?_
        exact ⟨⟨_, rfl⟩, .inr ⟨_, trivial, hJx3⟩⟩
    · obtain rfl : k = m := by omega
      go_wp2
      go_end0
      exact ⟨⟨_, rfl⟩, .inl ⟨_, rfl, by have := unhide hj; rwa [List.take_of_length_le (by simp)] at this⟩⟩
end Go.Proofs.YtplkplegjoabgaaGreatDoor


namespace Go.Proofs.YtplkplegjoabgaaGreatDoor
open Go.RowKit
set_option maxRecDepth 100000 in
set_option maxHeartbeats 4000000 in
theorem compress_any (h : List UInt32) (bs : List UInt8) (v : Value) (w : World) (hM : ShaMem w) (hh : h.length = 8) (hb : bs.length = 64) (hr : Reads w 1 v 64 (bs.map u8v)) :
    Calls Tryz.prog 146 #[.agg (h.map w32).toArray, v] w fun e w' => e = .returned (.agg ((shaBlock h bs).map w32).toArray) ∧ Ext w w' := by
  have HM := hide hM
  have HR := hide hr
  obtain ⟨b0, o0, c0, rfl, hc64, hcm, hb0, _⟩ := hr.sub 0 64 (by omega) (by omega)
  unfold maxLen at hcm
  clear hM hr
  have HH := hide hh
  have HB := hide hb
  clear hh hb
  generalize hcs : (h.map w32).toArray = hc
  have HC := hide hcs
  clear hcs
  go_enter Tryz.func146, Tryz.ntmps146
  go_wp2
  go_loopw [15] (fun i wr => ∃ k : Nat, k ≤ 64 ∧ i = .int .i64 k ∧ Hid (SchInv w hc bs k wr)) (fun i _ => 64 - (intOf i).toNat)
  case atStart =>
    refine ⟨0, Nat.zero_le _, rfl, hide ⟨((Blk.new w _ hc).alloc _).alloc _, ⟨_, (Blk.new' _ _ _ (by simp)).alloc _, rfl⟩, ?_, (((Ext.refl w).alloc _).alloc _).alloc _⟩⟩
    have := Blk.new' ((w.alloc (Obj.cells hc 208)).alloc (Obj.cells #[Value.int IntKind.u32 0, Value.int IntKind.u32 0, Value.int IntKind.u32 0, Value.int IntKind.u32 0, Value.int IntKind.u32 0, Value.int IntKind.u32 0, Value.int IntKind.u32 0, Value.int IntKind.u32 0] 208)) 222 (wordsTo 64 (schedAt bs 0)) (g := w.heap.size + 1 + 1) (by simp)
    rw [show wordsTo 64 (schedAt bs 0) = Array.replicate 64 (Value.int .u32 0) from wordsTo_zero 64] at this ⊢
    exact this
  case round =>
    obtain ⟨k, hk, rfl, HS⟩ := hrel
    by_cases hlt : k < 64
    · have hL := schedAt_length bs k
      obtain ⟨old, hold⟩ : ∃ old, wr.cell? ⟨w.heap.size + 1 + 1, k, none⟩ = some old := by
        rw [(unhide HS).2.2.1.cell]
        exact ⟨_, Array.getElem?_eq_getElem (by rw [wordsTo_size (by omega)]; exact hlt)⟩
      have hfz := (unhide HS).2.2.1.frozen k
      by_cases h16 : k < 16
      · have hk4 : 4 * k + 4 ≤ 64 := by omega
        obtain ⟨b1, o1, c1, e, _, _, _, hsub⟩ := ((unhide HR).ext (unhide HS).2.2.2).sub (4 * k) 4 hk4 (by omega)
        cases e
        have HQ := hide hsub
        clear hsub
        have HL := hide (show ((bs.drop (4 * k)).take 4).length = 4 from by have := unhide HB; simp; omega)
        go_wp2_with fail
        refine (load_any ((bs.drop (4 * k)).take 4) _ _ ?hl).mono ?_
        case hl =>
          rw [unhide HL, List.map_take, List.map_drop]
          exact unhide HQ
        rintro e w1 ⟨rfl, rfl⟩
        clear HQ
        generalize hx : beWord ((bs.drop (4 * k)).take 4) = x
        have HX := hide hx
        clear hx
        go_wp2
        go_roundw
        case rel =>
          exact ⟨k + 1, by omega, by go_num, hide ((unhide HS).step (Ext.refl _) hlt (by rw [if_pos h16, unhide HX]))⟩
        case measure => simp [intOf]; omega
      --BEGIN16
      · obtain ⟨j, rfl⟩ : ∃ j, k = j + 16 := ⟨k - 16, by omega⟩
        have cx : ∀ i, i < j + 16 → wr.cell? ⟨w.heap.size + 1 + 1, i, none⟩ = some (.int .u32 (((schedAt bs (j + 16)).getD i 0).toNat : Int)) := fun i hi => by
          rw [(unhide HS).2.2.1.cell]
          exact wordsTo_get (by omega)
        have HN := hide (show schedNext (schedAt bs (j + 16)) = (schedAt bs (j + 16)).getD j 0 + ((rotrW ((schedAt bs (j + 16)).getD (j + 1) 0) 7 ^^^ rotrW ((schedAt bs (j + 16)).getD (j + 1) 0) 18) ^^^ ((schedAt bs (j + 16)).getD (j + 1) 0 >>> 3)) + (schedAt bs (j + 16)).getD (j + 9) 0 +
            ((rotrW ((schedAt bs (j + 16)).getD (j + 14) 0) 17 ^^^ rotrW ((schedAt bs (j + 16)).getD (j + 14) 0) 19) ^^^ ((schedAt bs (j + 16)).getD (j + 14) 0 >>> 10)) from by
          unfold schedNext
          simp only [hL, show j + 16 - 15 = j + 1 from by omega, show j + 16 - 2 = j + 14 from by omega, show j + 16 - 16 = j from by omega, show j + 16 - 7 = j + 9 from by omega])
        have c0' := cx j (by omega)
        have c1 := cx (j + 1) (by omega)
        have c9 := cx (j + 9) (by omega)
        have c14 := cx (j + 14) (by omega)
        clear cx
        generalize (schedAt bs (j + 16)).getD j 0 = x0 at *
        generalize (schedAt bs (j + 16)).getD (j + 1) 0 = x1 at *
        generalize (schedAt bs (j + 16)).getD (j + 9) 0 = x9 at *
        generalize (schedAt bs (j + 16)).getD (j + 14) 0 = x14 at *
        have d16 : decide ((j : Int) + 16 < 16) = false := decide_eq_false (by omega)
        have d64 : decide ((j : Int) + 16 < 64) = true := decide_eq_true (by omega)
        have hj : j < 48 := by omega
        clear h16 hk hlt
        go_upto_region 7 with fail
        have i15 : (((j + 16 : Nat) : Int) - 15) = ((j + 1 : Nat) : Int) := by omega
        have i2 : (((j + 16 : Nat) : Int) - 2) = ((j + 14 : Nat) : Int) := by omega
        go_quiet (fail)
        go_upto_region 8 with fail
        have i16 : IntKind.i64.wrap (((j + 16 : Nat) : Int) - 16) = (j : Int) := (IntWalk.i64_in _ (by omega)).trans (by omega)
        have i7 : IntKind.i64.wrap (((j + 16 : Nat) : Int) - 7) = ((j + 9 : Nat) : Int) := (IntWalk.i64_in _ (by omega)).trans (by omega)
        have i7' : IntKind.i64.wrap ((j : Int) + 16 - 7) = (j : Int) + 9 := (IntWalk.i64_in _ (by omega)).trans (by omega)
        have i9 : IntKind.i64.wrap ((j : Int) + 9) = (j : Int) + 9 := IntWalk.i64_in _ (by omega)
        have i0 : IntKind.i64.wrap (j : Int) = (j : Int) := IntWalk.i64_in _ (by omega)
        have b0 : (0 : Int) ≤ (j : Int) + 9 ∧ (j : Int) + 9 < 64 ∧ (j : Int) < 64 ∧ (j : Int) + 16 < 64 ∧ (0 : Int) ≤ (j : Int) + 16 := by omega
        obtain ⟨b1, b2, b3, b4, b5⟩ := b0
        have t9 : ((j : Int) + 9).toNat = j + 9 := by omega
        have t16 : ((j : Int) + 16).toNat = j + 16 := by omega
        have HO := hide (And.intro c1 c14)
        clear c1 c14 i15 i2 d16 d64
        go_region_held3 (fun w' => w'.cell? ⟨w.heap.size + 1 + 1, j, none⟩ = some (.int .u32 (x0.toNat : Int)) ∧ w'.cell? ⟨w.heap.size + 1 + 1, j + 9, none⟩ = some (.int .u32 (x9.toNat : Int)) ∧ w'.cell? ⟨w.heap.size + 1 + 1, j + 16, none⟩ = some (held w' ⟨w.heap.size + 1 + 1, j + 16, none⟩) ∧ w'.frozen? ⟨w.heap.size + 1 + 1, j + 16, none⟩ = false) (first | exact ⟨c0', c9, cell_held hold, hfz⟩ | exact keepS _ (by assumption) | exact keepT _ (by omega) (by omega) (by assumption) | assumption)
          (first
            | (go_at_call 176; refine (rotr_7_18 _ _ _ ?_ ?_).mono ?_; (first | (refine new_cell _ _ _ ?_ ?_; (focus (simp; done)); (focus rfl)) | (refine old_cell _ _ (new_cell _ _ _ ?_ ?_); (focus (simp; done)); (focus rfl))); (first | (refine new_cell _ _ _ ?_ ?_; (focus (simp; done)); (focus rfl)) | (refine old_cell _ _ (new_cell _ _ _ ?_ ?_); (focus (simp; done)); (focus rfl))); rintro e w' ⟨rfl, rfl⟩)
            | (go_at_call 176; refine (rotr_17_19 _ _ _ ?_ ?_).mono ?_; (first | (refine new_cell _ _ _ ?_ ?_; (focus (simp; done)); (focus rfl)) | (refine old_cell _ _ (new_cell _ _ _ ?_ ?_); (focus (simp; done)); (focus rfl))); (first | (refine new_cell _ _ _ ?_ ?_; (focus (simp; done)); (focus rfl)) | (refine old_cell _ _ (new_cell _ _ _ ?_ ?_); (focus (simp; done)); (focus rfl))); rintro e w' ⟨rfl, rfl⟩))
        all_goals
          go_wp2
          go_roundw
          case rel =>
            rw [sched_val]
            exact ⟨j + 16 + 1, by omega, by go_num, hide ((unhide HS).step ((((Ext.refl wr).drewN _).alloc _).alloc _) (by omega) (by rw [if_neg (by omega)]; exact unhide HN))⟩
          case measure => simp [intOf]; omega
      --END16
    · obtain rfl : k = 64 := by omega
      clear hk hlt
      obtain ⟨wo, rfl⟩ : ∃ wo : World, wo = wr := ⟨_, rfl⟩
      obtain ⟨kc, hkc⟩ : ∃ kc, (shaK.map w32).toArray = kc := ⟨_, rfl⟩
      have HKC := hide hkc
      clear hkc
      have H8 := hide (show hc.size = 8 ∧ hc.all (·.oneCell') = true from by rw [← unhide HC]; exact ⟨by simpa using unhide HH, words_one h⟩)
      have HKM := hide ((unhide HM).ext (unhide HS).2.2.2).k
      go_wp2_with (first
        | (refine wpList_loadB (ty := 208) (t := 208) (x := .tmp 2) rfl rfl state_wide rfl (unhide HS).1 (unhide H8).1 ?_)
        | (refine wpList_storeB (ty := 208) (t := 208) (x := .tmp 9) (y := .tmp 64) rfl rfl state_wide rfl rfl (Blk.new _ _ _) rfl (unhide H8).1 (unhide H8).2 ?_
           intro w2 hb2 hc2 hz2
           have HQ := hide (And.intro hb2 hc2)
           have hz3 : wo.heap.size < w2.heap.size := by rw [hz2]; simp
           clear hb2 hc2 hz2)
        | (refine wpList_loadR (ty := 222) (x := .global 1) rfl rfl arr64_wide rfl (arr := kc) (cs := shaK.map w32) ?_ rfl (unhide HKC) ?_
           · exact rangeAt_chg (rangeAt_chg (unhide HKM) ((Ext.refl wo).alloc _) (fun h => h)) (unhide HQ).2 (fun e => by have := lt_of_cell ((unhide HKM) 0 _ rfl); simp at e this; omega)))
      have HE2 := hide (show Ext wo w2 from ((Ext.refl wo).alloc (.cells #[Value.int IntKind.u32 0, Value.int IntKind.u32 0, Value.int IntKind.u32 0, Value.int IntKind.u32 0, Value.int IntKind.u32 0, Value.int IntKind.u32 0, Value.int IntKind.u32 0, Value.int IntKind.u32 0] 208)).trans' (unhide HQ).2 (fun _ _ h => h) (fun i hi e => by omega))
      have HI := hide (show RndInv w hc h bs wo.heap.size 0 w2 from by
        obtain ⟨q1, ⟨o8, q5, q6⟩, q3, q4⟩ := unhide HS
        refine ⟨q1.ext (unhide HE2), ⟨o8, q5.ext (unhide HE2), q6⟩, q3.ext (unhide HE2), ?_, q4.trans (unhide HE2), q3.lt⟩
        rw [roundsAt, wordsTo_all (unhide HH), unhide HC]
        exact (unhide HQ).1)
      clear HQ HE2 HKM hz3
      go_loopw [66] (fun i wr => ∃ k : Nat, k ≤ 64 ∧ i = .int .i64 k ∧ Hid (RndInv w hc h bs wo.heap.size k wr)) (fun i _ => 64 - (intOf i).toNat)
      case atStart => exact ⟨0, Nat.zero_le _, rfl, HI⟩
      case round =>
        clear HI
        obtain ⟨k, hk, rfl, HI⟩ := hrel
        by_cases hlt : k < 64
        --BEGINR
        · have cv : ∀ i, i < 8 → wr.cell? ⟨wo.heap.size, i, none⟩ = some (.int .u32 (((roundsAt bs h k).getD i 0).toNat : Int)) := fun i hi => by
            rw [(unhide HI).2.2.2.1.cell]
            exact wordsTo_get (by rw [roundsAt_length _ _ (unhide HH)]; exact hi)
          have cw : wr.cell? ⟨w.heap.size + 1 + 1, k, none⟩ = some (.int .u32 (((sched bs).getD k 0).toNat : Int)) := by
            rw [(unhide HI).2.2.1.cell]
            exact wordsTo_get (by unfold sched; rw [schedAt_length]; exact hlt)
          have hidx : ∀ W, (Instr.index 222 (.agg kc) (.int .i64 (k : Int))).run Tryz.prog W = .ok (.int .u32 ((shaK.getD k 0).toNat : Int)) W := fun W =>
            run_index_arr (inf := _) Tryz.underlying222 (by kernel_rfl) rfl (by kernel_rfl) hlt (by rw [← unhide HKC]; exact wordsK hlt) W
          have HN := hide (show roundsAt bs h (k + 1) = shaRound (roundsAt bs h k) (shaK.getD k 0) ((sched bs).getD k 0) from rfl)
          have v0 := cv 0 (by omega)
          have v1 := cv 1 (by omega)
          have v2 := cv 2 (by omega)
          have v3 := cv 3 (by omega)
          have v4 := cv 4 (by omega)
          have v5 := cv 5 (by omega)
          have v6 := cv 6 (by omega)
          have v7 := cv 7 (by omega)
          clear cv
          unfold shaRound at HN
          generalize (roundsAt bs h k).getD 0 0 = x0 at *
          generalize (roundsAt bs h k).getD 1 0 = x1 at *
          generalize (roundsAt bs h k).getD 2 0 = x2 at *
          generalize (roundsAt bs h k).getD 3 0 = x3 at *
          generalize (roundsAt bs h k).getD 4 0 = x4 at *
          generalize (roundsAt bs h k).getD 5 0 = x5 at *
          generalize (roundsAt bs h k).getD 6 0 = x6 at *
          generalize (roundsAt bs h k).getD 7 0 = x7 at *
          generalize (sched bs).getD k 0 = xw at *
          generalize shaK.getD k 0 = xk at *
          have d64 : decide ((k : Int) < 64) = true := decide_eq_true (by omega)
          have b64 : (k : Int) < 64 := by omega
          have HO := hide (And.intro v0 (And.intro v1 (And.intro v2 (And.intro v3 (And.intro v4 (And.intro v5 v6))))))
          clear v0 v1 v2 v3
          go_upto_region 14 with fail
          have t1 : (0 : Int) ≤ (k : Int) := by omega
          clear hidx d64
          go_cut [12] (fun s12 wx => ∃ T : UInt32, s12 = .int .u32 (T.toNat : Int) ∧ Hid (T = x7 + (rotrW x4 6 ^^^ rotrW x4 11 ^^^ rotrW x4 25) + ((x4 &&& x5) ^^^ (~~~x4 &&& x6)) + xk + xw ∧ Ext wr wx))
          case first =>
            --B14
            go_region_held3 (fun w' => w'.cell? ⟨wo.heap.size, 7, none⟩ = some (.int .u32 (x7.toNat : Int)) ∧ w'.cell? ⟨wo.heap.size, 4, none⟩ = some (.int .u32 (x4.toNat : Int)) ∧ w'.cell? ⟨wo.heap.size, 5, none⟩ = some (.int .u32 (x5.toNat : Int)) ∧ w'.cell? ⟨wo.heap.size, 6, none⟩ = some (.int .u32 (x6.toNat : Int)) ∧ w'.cell? ⟨w.heap.size + 1 + 1, k, none⟩ = some (.int .u32 (xw.toNat : Int))) (first | exact ⟨v7, v4, v5, v6, cw⟩ | exact keep5 _ (by assumption) | assumption)
              (first
                | (go_at_call 176; refine (rotr_6_11_25 _ _ _ ?_ ?_ ?_).mono ?_; (refine new_cell _ _ _ ?_ ?_; (focus (simp; done)); (focus rfl)); (refine new_cell _ _ _ ?_ ?_; (focus (simp; done)); (focus rfl)); (refine new_cell _ _ _ ?_ ?_; (focus (simp; done)); (focus rfl)); rintro e w' ⟨rfl, rfl⟩))
            all_goals (go_wp2_with fail; go_meet)
            all_goals
              rw [t_val]
              exact ⟨_, rfl, hide ⟨rfl, ((Ext.refl wr).alloc _).drew⟩⟩
            --E14
          case rest =>
            obtain ⟨T, rfl, HT⟩ := hcut
            obtain ⟨wp, rfl⟩ : ∃ wp : World, wp = wc := ⟨_, rfl⟩
            clear v7 v4 v5 v6 cw
            have HP := hide (And.intro (unhide HI) (unhide HT).2)
            have v0 := Ext.cellv (unhide HT).2 (unhide HO).1
            have v1 := Ext.cellv (unhide HT).2 (unhide HO).2.1
            have v2 := Ext.cellv (unhide HT).2 (unhide HO).2.2.1
            go_upto_region 15 with fail
            go_cut [13] (fun s13 wx => ∃ U : UInt32, s13 = .int .u32 (U.toNat : Int) ∧ Hid (U = (rotrW x0 2 ^^^ rotrW x0 13 ^^^ rotrW x0 22) + (((x0 &&& x1) ^^^ (x0 &&& x2)) ^^^ (x1 &&& x2)) ∧ Ext wp wx))
            case first =>
              --B14
              go_region_held3 (fun w' => w'.cell? ⟨wo.heap.size, 0, none⟩ = some (.int .u32 (x0.toNat : Int)) ∧ w'.cell? ⟨wo.heap.size, 1, none⟩ = some (.int .u32 (x1.toNat : Int)) ∧ w'.cell? ⟨wo.heap.size, 2, none⟩ = some (.int .u32 (x2.toNat : Int))) (first | exact ⟨v0, v1, v2⟩ | exact keepc3 _ (by assumption) | assumption)
                (first
                  | (go_at_call 176; refine (rotr_2_13_22 _ _ _ ?_ ?_ ?_).mono ?_; (refine new_cell _ _ _ ?_ ?_; (focus (simp; done)); (focus rfl)); (refine new_cell _ _ _ ?_ ?_; (focus (simp; done)); (focus rfl)); (refine new_cell _ _ _ ?_ ?_; (focus (simp; done)); (focus rfl)); rintro e w' ⟨rfl, rfl⟩))
              all_goals (go_wp2_with fail; go_meet)
              all_goals
                rw [u_val]
                exact ⟨_, rfl, hide ⟨rfl, ((Ext.refl wp).alloc _).drew⟩⟩
              --E14
            case rest =>
              obtain ⟨U, rfl, HU⟩ := hcut
              have HX := hide ((unhide HT).2.trans (unhide HU).2)
              clear v0 v1 v2
              have v0 := Ext.cellv (unhide HX) (unhide HO).1
              have v1 := Ext.cellv (unhide HX) (unhide HO).2.1
              have v2 := Ext.cellv (unhide HX) (unhide HO).2.2.1
              have v3 := Ext.cellv (unhide HX) (unhide HO).2.2.2.1
              have v4 := Ext.cellv (unhide HX) (unhide HO).2.2.2.2.1
              have v5 := Ext.cellv (unhide HX) (unhide HO).2.2.2.2.2.1
              have v6 := Ext.cellv (unhide HX) (unhide HO).2.2.2.2.2.2
              have a1 : ((T.toNat : Int) + (U.toNat : Int)) % 4294967296 = ((T + U).toNat : Int) := add32 T U
              have a2 : ((x3.toNat : Int) + (T.toNat : Int)) % 4294967296 = ((x3 + T).toNat : Int) := add32 x3 T
              have HA := hide (And.intro a1 a2)
              clear a1 a2
              have HW := hide (wordsTo_size (n := 8) (show (roundsAt bs h k).length ≤ 8 from by rw [roundsAt_length _ _ (unhide HH)]; omega))
              go_wp2_with (refine wpList_storeB (ty := 208) (t := 208) (x := .tmp 9) (y := .tmp 137) rfl rfl state_wide rfl rfl ((unhide HI).2.2.2.1.ext (unhide HX)) (unhide HW) ?_ ?_ ?_; (focus rfl); (focus (rw [← Array.all_toList]; rfl)); intro w5 hb5 hc5 hz5; have HQ := hide (And.intro hb5 (And.intro hc5 hz5)); clear hb5 hc5 hz5)
              go_roundw
              case rel =>
                refine ⟨k + 1, by omega, by go_num, hide ?_⟩
                obtain ⟨q1, ⟨o8, q5, q6⟩, q3, q4, q7, q8⟩ := unhide HI
                obtain ⟨hb5, hc5, hz5⟩ := unhide HQ
                have n1 : ¬ w.heap.size = wo.heap.size := by omega
                have n2 : ¬ w.heap.size + 1 = wo.heap.size := by omega
                have n3 : ¬ w.heap.size + 1 + 1 = wo.heap.size := by omega
                refine ⟨(q1.ext (unhide HX)).chg hc5 n1, ⟨o8, (q5.ext (unhide HX)).chg hc5 n2, q6⟩, (q3.ext (unhide HX)).chg hc5 n3, ?_, (q7.trans (unhide HX)).trans' hc5 (fun _ _ h => h) (fun i hi e => by omega), q8⟩
                rw [(unhide HA).1, (unhide HA).2] at hb5
                rw [unhide HN]
                dsimp only
                rw [← (unhide HT).1, ← (unhide HU).1]
                exact hb5
              case measure => simp [intOf]; omega
        --ENDR
        · obtain rfl : k = 64 := by omega
          clear hk hlt
          obtain ⟨wq, rfl⟩ : ∃ wq : World, wq = wr := ⟨_, rfl⟩
          go_wp2
          have HR0 := hide (roundsAt_length bs h (unhide HH) 64)
          go_loopw [139] (fun i wr => ∃ k : Nat, k ≤ 8 ∧ i = .int .i64 k ∧ Hid (FinInv w hc h (roundsAt bs h 64) wo.heap.size k wr)) (fun i _ => 8 - (intOf i).toNat)
          case atStart => exact ⟨0, Nat.zero_le _, rfl, hide (FinInv.start (unhide HI))⟩
          case round =>
            clear HI
            obtain ⟨k, hk, rfl, HI⟩ := hrel
            by_cases hlt : k < 8
            · have c1 := (unhide HI).new (unhide HR0) (unhide HH) hlt
              have c2 := (unhide HI).old (unhide HC) (unhide HH) hlt
              have f1 := (unhide HI).2.2.1.frozen k
              have HST := hide (fun wr' (hE : Ext wr wr') => (unhide HI).step hE (unhide HR0) (unhide HH) hlt)
              generalize (roundsAt bs h 64).getD k 0 = xr at *
              generalize h.getD k 0 = xh at *
              have d8 : decide ((k : Int) < 8) = true := decide_eq_true (by omega)
              have b8 : (k : Int) < 8 := by omega
              have HA := hide (add32 xr xh)
              go_upto_region 21 with fail
              go_region
              all_goals
                go_wp2
                go_roundw
                case rel =>
                  rw [unhide HA]
                  exact ⟨k + 1, by omega, by go_num, hide (by first | exact (unhide HST _ (Ext.refl _)).drew | exact unhide HST _ ((Ext.refl _).drew))⟩
                case measure => simp [intOf]; omega
            · obtain rfl : k = 8 := by omega
              clear hk hlt
              obtain ⟨q1, ⟨o8, q5, q6⟩, q3, q4, q7⟩ := unhide HI
              have HQ := hide (And.intro q5 (And.intro q6 (And.intro q3 q4)))
              clear q1 q5 q6 q3 q4
              have HZ := hide (show wordsTo 8 (finAt (roundsAt bs h 64) h 8) = ((shaBlock h bs).map w32).toArray from by
                rw [finAt_end (unhide HR0) (unhide HH)]
                exact wordsTo_all (by simp; rw [unhide HR0, unhide HH]; rfl))
              have HW := hide (show (wordsTo 8 (finAt (roundsAt bs h 64) h 8)).size = 8 ∧ (wordsTo 8 (finAt (roundsAt bs h 64) h 8)).all (·.oneCell') = true from by
                rw [unhide HZ]
                exact ⟨by simp [shaBlock]; rw [show (shaRounds bs h).length = 8 from unhide HR0, unhide HH]; rfl, words_one _⟩)
              generalize wordsTo 8 (finAt (roundsAt bs h 64) h 8) = res at *
              go_wp2_with (first
                | (refine wpList_loadB (ty := 208) (t := 208) (x := .tmp 9) rfl rfl state_wide rfl (unhide HQ).2.2.1 (unhide HW).1 ?_)
                | (refine wpList_storeB (ty := 208) (t := 208) (x := .tmp 4) (y := .tmp 151) rfl rfl state_wide rfl rfl (unhide HQ).1 (unhide HQ).2.1 (unhide HW).1 (unhide HW).2 ?_
                   intro w9 hb9 hc9 hz9
                   have HV := hide (And.intro hb9 hc9)
                   clear hb9 hc9 hz9))
              refine bodyPost_ret (v := .agg res) (results_blk state_wide rfl (unhide HV).1 (unhide HW).1 rfl) rfl ⟨by rw [unhide HZ], ?_⟩
              exact (unhide HQ).2.2.2.trans' (unhide HV).2 (fun _ _ h => h) (fun i hi e => by omega)
end Go.Proofs.YtplkplegjoabgaaGreatDoor


namespace Go.Proofs.YtplkplegjoabgaaGreatDoor
open Go.RowKit
attribute [local go_sem] Oper.semAt_some
def padTo (l : List UInt8) (k : Nat) : List UInt8 := l ++ [128] ++ List.replicate k 0
theorem padTo_length (l : List UInt8) (k : Nat) : (padTo l k).length = l.length + 1 + k := by simp [padTo]; omega
theorem padTo_step (l : List UInt8) (k : Nat) : padTo l (k + 1) = padTo l k ++ [0] := by unfold padTo; rw [List.replicate_succ', List.append_assoc, List.append_assoc, List.append_assoc]
def shaFold (P : List UInt8) (l : List Nat) (v : List UInt32) : List UInt32 := l.foldl (fun v i => shaBlock v ((P.drop (64 * i)).take 64)) v
theorem shaFold_blocks (m : Nat) (v : List UInt32) (P : List UInt8) : shaFold P (List.range m) v = shaBlocks m v P := by
  induction m generalizing v P with
  | zero => rfl
  | succ m ih =>
    have e2 : ∀ i, (P.drop 64).drop (64 * i) = P.drop (64 * (i + 1)) := fun i => by rw [List.drop_drop, show 64 + 64 * i = 64 * (i + 1) from by omega]
    have h := ih (shaBlock v (P.take 64)) (P.drop 64)
    refine Eq.trans ?_ h
    unfold shaFold
    simp only [e2]
    rw [List.range_succ_eq_map, List.foldl_cons, List.foldl_map, Nat.mul_zero, List.drop_zero]
theorem shaFold_length (P : List UInt8) (l : List Nat) (v : List UInt32) (h : v.length = 8) : (shaFold P l v).length = 8 := by
  unfold shaFold
  induction l generalizing v with
  | nil => exact h
  | cons i l ih =>
    rw [List.foldl_cons]
    refine ih _ ?_
    unfold shaBlock
    rw [List.length_zipWith, h]
    rw [show (shaRounds ((P.drop (64 * i)).take 64) v).length = 8 from roundsAt_length _ _ h 64]
    rfl
def outAt (l : List UInt32) (k : Nat) : List UInt8 := (l.take k).flatMap fun w => beBytes w.toNat 4
theorem outAt_step (l : List UInt32) (k : Nat) (h : k < l.length) : outAt l (k + 1) = outAt l k ++ beBytes (l.getD k 0).toNat 4 := by
  unfold outAt
  rw [take_step l k h, List.flatMap_append, List.getD_eq_getElem?_getD, List.getElem?_eq_getElem h]
  simp
theorem outAt_length (l : List UInt32) (k : Nat) (h : k ≤ l.length) : (outAt l k).length = 4 * k := by
  induction k with
  | zero => simp [outAt]
  | succ k ih => rw [outAt_step l k h, List.length_append, ih (by omega), beBytes_length]; omega
theorem Blk.putObj {W : World} {g : Nat} {t : TypeId} {cs : Array Value} (h : Blk W g t cs) {D : Nat} {o o' : Obj} (hd : W.heap[D]? = some o) (ho : o.isCells = false) : Blk (W.putObj D o') g t cs := by
  have hne : g ≠ D := fun e => by
    unfold Blk at h
    rw [e, hd] at h
    cases h
    cases ho
  exact (World.putObj_heap_other hne).trans h
theorem bytes_one (l : List UInt8) : ((l.map u8v).toArray).all (·.oneCell') = true := by
  rw [← Array.all_toList]
  simp [u8v]
  intro x _
  rfl
def zerosOf (n : Nat) : Nat := (119 - n % 64) % 64
theorem arr32_wide : Wide Tryz.prog 172 32 := ⟨⟨_, Tryz.underlying172, rfl⟩, by kernel_rfl⟩
def PadInv (l : List UInt8) (w : World) (v : Value) (n k : Nat) (wr : World) : Prop :=
  (n = l.length + 1 + k ∧ k ≤ zerosOf l.length) ∧ wr.ownsRow (w.heap.size + 1) 5 1 v n ((padTo l k).map u8v) ∧ Ext w wr ∧ (∃ o, Blk wr w.heap.size 172 o ∧ o.size = 32)
set_option maxRecDepth 100000 in
set_option maxHeartbeats 4000000 in
theorem sum_any (l : List UInt8) (v : Value) (w : World) (hM : ShaMem w) (hr : Reads w 1 v l.length (l.map u8v)) (hl : l.length ≤ 100000000) :
    Calls Tryz.prog 124 #[v] w fun e w' => e = .returned (.agg ((sha l).map u8v).toArray) ∧ Ext w w' := by
  have HM := hide hM
  have HR := hide hr
  obtain ⟨A, c, rfl⟩ : ∃ A c, v = .slice A l.length c := by obtain ⟨_, A, c, h, _⟩ := hr; exact ⟨A, c, h⟩
  clear hM hr
  refine (callsIn_wide (n := 3)).1 (callsIn_of_wp_marks Tryz.func124 rfl trivial ((wpIn_wide (n := 3)).2 ?_))
  simp only [Tryz.ntmps124, List.size_toArray, List.length_cons, List.length_nil, Nat.reduceAdd, Nat.reduceSub, Array.replicate_succ, Array.replicate_zero, List.push_toArray, List.append_toArray, List.nil_append, List.cons_append]
  go_wp2_with fail
  refine (clone_any _ l _ ?hr (by omega)).mono ?_
  case hr => exact (unhide HR).ext ((Ext.refl w).alloc _)
  rintro e w1 ⟨v1, rfl, ho, hE⟩
  have HO := hide (And.intro ho (And.intro hE (Blk.ext (Blk.new w 172 _) hE)))
  clear ho hE
  go_wp2_with (at_builtin; refine wpList_app rfl rfl u8_row rfl (ownsRow_ext (unhide HO).1 ((Ext.refl w1).alloc _)) rfl (Reads.new1 _ _ _) (AllOne.one rfl) (by omega) (by have := (unhide HO).2.1.size'; simp at this ⊢; omega) ?_; intro A' c' w2 ho hc hv; have HQ := hide (And.intro ho (And.intro hc hv)); clear ho hc hv)
  have HI := hide (show PadInv l w (.slice A' (l.length + 1) c') (l.length + 1) 0 w2 from by
    obtain ⟨h1, h2, h3⟩ := unhide HO
    obtain ⟨h4, h5, _⟩ := unhide HQ
    have e0 : (padTo l 0).map u8v = l.map u8v ++ [u8v 128] := by unfold padTo; simp
    have hz := h2.size'
    simp only [World.size_alloc] at hz h4
    have hv := ownsRow_chg h1 (Chg.refl (fun k => ¬ v1.ownBlock = some k) w1) (fun k hk hn => hn hk)
    have hge : ∀ k, v1.ownBlock = some k → w.heap.size + 1 ≤ k := fun k hk => by have := h1.lt k hk; simp at this; omega
    refine ⟨⟨rfl, Nat.zero_le _⟩, by rw [e0]; exact h4, ?_, ⟨_, h3.chg ((Ext.refl w1).alloc _) (fun h => h) |>.chg h5 (fun e => by have := hge _ e; omega), rfl⟩⟩
    exact ((((Ext.refl w).alloc _).trans h2).alloc _).trans' h5 (fun _ _ h => h) (fun i hi e => by have := hge _ e; omega))
  clear HO HQ
  go_loopw [3] (fun b wr => ∃ (n k : Nat) (A : Option Addr) (c : Nat), b = .slice A n c ∧ n ≤ 200000000 ∧ Hid (PadInv l w (.slice A n c) n k wr)) (fun b _ => match b with | .slice _ n _ => l.length + 1 + zerosOf l.length - n | _ => 0)
  case atStart => exact ⟨_, 0, _, _, rfl, by omega, HI⟩
  case round =>
    clear HI
    obtain ⟨n, k, A1, c1, rfl, hn, HI⟩ := hrel
    by_cases hlt : k < zerosOf l.length
    · have ht : n % 64 ≠ 56 := by have h1 := (unhide HI).1; unfold zerosOf at h1 hlt; omega
      have ht2 : (((n : Int) % 64) == 56) = false := by simp; omega
      go_wp2_with (at_builtin; refine wpList_app rfl rfl u8_row rfl (ownsRow_ext (unhide HI).2.1 ((Ext.refl wr).alloc _)) rfl (Reads.new1 _ _ _) (AllOne.one rfl) (by omega) (by have := (unhide HI).2.2.1.size'; have := (unhide HI).2.2.2.choose_spec.1.lt; simp; omega) ?_; intro A' c' w3 ho hc hv; have HQ := hide (And.intro ho hc); clear ho hc hv)
      go_roundw
      case rel =>
        obtain ⟨⟨e1, e2⟩, h1, h2, o8, h3, h4⟩ := unhide HI
        obtain ⟨h5, h6⟩ := unhide HQ
        have hge : ∀ k, (Value.slice A1 n c1).ownBlock = some k → w.heap.size + 1 ≤ k := fun k hk => (h1.lt k hk).1
        refine ⟨n + 1, k + 1, A', c', rfl, by unfold zerosOf at e2; omega, hide ⟨⟨by omega, hlt⟩, ?_, (h2.alloc _).trans' h6 (fun _ _ h => h) (fun i hi e => by have := hge _ e; omega), o8, (h3.alloc _).chg h6 (fun e => by have := hge _ e; omega), h4⟩⟩
        rw [padTo_step, List.map_append]
        exact h5
      case measure => have := (unhide HI).1; simp; omega
    · obtain ⟨⟨e1, e2⟩, h1, h2, o8, h3, h4⟩ := unhide HI
      have hkz : k = zerosOf l.length := by omega
      subst hkz
      have HP := hide (show padTo l (zerosOf l.length) ++ beBytes (8 * l.length) 8 = shaPad l from rfl)
      have hmod : n % 64 = 56 := by unfold zerosOf at e1; omega
      have ht2 : (((n : Int) % 64) == 56) = true := by simp; omega
      have HN := hide (And.intro e1 hmod)
      clear e1 e2 hlt hmod h1 h2 h3 h4
      go_wp2_with fail
      clear ht2
      refine (store_lit _ n ((padTo l (zerosOf l.length)).map u8v) (8 * l.length) 8 (w.heap.size + 1) _ _ _ ?e1 ?e2 (unhide HI).2.1 ?hb (by omega) (by omega) (by omega)).mono ?_
      case e1 => simp
      case e2 => rfl
      case hb => have := (unhide HI).2.2.2.choose_spec.1.lt; omega
      rintro e w3 ⟨A3, c3, rfl, ho, hO⟩
      obtain ⟨g3, rfl⟩ : ∃ g3, A3 = some ⟨g3, 0, none⟩ := by
        obtain ⟨g, cap, u, hv, _⟩ := own_at (k := 0) ho (by omega)
        cases hv
        exact ⟨g, rfl⟩
      have HQ := hide (And.intro ho hO)
      clear ho hO
      obtain ⟨st0, hst⟩ : ∃ st, (shaH0.map w32).toArray = st := ⟨_, rfl⟩
      have HST := hide hst
      have HST2 := hide (show st0.size = 8 ∧ st0.all (·.oneCell') = true from by rw [← hst]; exact ⟨rfl, words_one _⟩)
      clear hst
      have HE3 := hide (show Ext w w3 from by
        obtain ⟨⟨e1, e2⟩, h1, h2, o8, h3, h4⟩ := unhide HI
        exact h2.trans' (unhide HQ).2.chg (fun _ _ h => h) (fun i hi e => by have := (h1.lt i e).1; omega))
      go_wp2_with (first
        | (refine wpList_loadR (ty := 208) (x := .global 0) rfl rfl state_wide rfl (arr := st0) (cs := shaH0.map w32) ?_ rfl (unhide HST) ?_; (focus exact ((unhide HM).ext (unhide HE3)).h))
        | (refine wpList_storeB (ty := 208) (t := 208) (x := .tmp 4) (y := .tmp 27) rfl rfl state_wide rfl rfl ((Blk.new w3 _ _).alloc _) rfl (unhide HST2).1 (unhide HST2).2 ?_
           intro w4 hb4 hc4 hz4
           have k5 : w4.cell? ⟨w3.heap.size + 1, 0, none⟩ = some .nilFunc := Chg.cellv hc4 (new_cell _ _ _ (by simp) rfl) (by simp)
           have f5 : w4.frozen? ⟨w3.heap.size + 1, 0, none⟩ = false := Chg.frozenv hc4 ((Blk.new' _ _ _ (by simp)).frozen 0) (by simp) (by simp)
           have HV := hide (And.intro hb4 (And.intro hc4 hz4))
           clear hb4 hc4 hz4)
        | (go_at_call 147; refine (chunk_any _ _ _ _).mono ?_; rintro e w' ⟨rfl, rfl⟩))
      obtain ⟨m, hm⟩ : ∃ m, n + 8 = 64 * m := ⟨(n + 8) / 64, by have := (unhide HN).2; omega⟩
      have HL := hide (show (shaPad l).length = 64 * m from by
        rw [← unhide HP, List.length_append, padTo_length, beBytes_length, ← hm]; have := (unhide HN).1; omega)
      have HS := hide (show w3.heap.size < w4.heap.size ∧ w4.heap.size = w3.heap.size + 2 from by have := (unhide HV).2.2; simp at this; omega)
      refine wp_range (gf := 177) (S := fun k => k = w3.heap.size) (all := List.finRange m) (N := m) (encs := fun x : Fin m => #[.slice (some ⟨g3, 0 + 64 * x.val, none⟩) 64 64]) rfl (call_enters Tryz.func177 (by kernel_rfl) rfl) ?hS (chunk_stops g3 0 c3 m _ _ _ _ (by omega) ?hc ?hs ?hn ?h1 ?h2) (fun _ => rfl)
        (fun pre W => Blk W w3.heap.size 208 ((shaFold (shaPad l) (pre.map Fin.val) shaH0).map w32).toArray ∧ W.cell? ⟨w3.heap.size + 1, 0, none⟩ = some (.func (.func 146) #[] #[]))
        (fun pre W W' h k => ⟨k.blk h.1, k.cell h.2⟩) ?h0 ?a1 ?assign ?body ?done
      case assign =>
        intro l x W K hK
        gi_wp2
        exact hK
      case hS => intro k e; have := (unhide HS).1; simp; omega
      case hc =>
        have h1 := (unhide HQ).1
        obtain ⟨g, cap, u, hv, _⟩ := own_at (k := 0) h1 (by omega)
        cases hv
        obtain ⟨_, h2⟩ := h1
        rcases h2 with ⟨e, _⟩ | ⟨g, cap, cur, hv, _, _, hle, _⟩
        · cases e
        · cases hv; omega
      case hs => have := (unhide HS).1; omega
      case hn => have := (unhide HS).1; omega
      case h1 =>
        rw [← hm]
        exact old_cell _ _ (new_cell _ _ _ (by simp) rfl)
      case h2 => exact new_cell _ _ _ (by simp) rfl
      case h0 =>
        refine ⟨?_, ?_⟩
        · have := (unhide HV).1
          rw [← unhide HST] at this
          exact ((this.far' (by omega) _ _).alloc _).alloc _
        · exact old_cell _ _ (old_cell _ _ (World.cell?_setCell_same' _ _ _ (by rw [k5]; rfl)))
      case body =>
        rintro lb pre x W hc ⟨hb, hf⟩ hlen
        have hg3 : w.heap.size + 1 ≤ g3 ∧ g3 < w3.heap.size := (unhide HQ).1.lt g3 rfl
        obtain ⟨hg3a, hg3b⟩ := hg3
        have HR3 : Hid (Reads w3 1 (.slice (some ⟨g3, 0, none⟩) (n + 8) c3) (n + 8) ((shaPad l).map u8v)) := hide (by have := Reads.of_own (unhide HQ).1; rwa [← List.map_append, unhide HP] at this)
        have HEW : Hid (Chg (fun k => k = w3.heap.size) w3 W) := hide (by
          have h1 : Chg (fun k => k = w3.heap.size) w3 w4 := (((Ext.refl w3).alloc _).alloc _).chg.trans (unhide HV).2.1
          exact (((h1.setCell (p := ⟨w3.heap.size + 1, 0, none⟩) (.inr (by simp)) _).alloc _).alloc _).trans hc)
        have HBX := hide (show ((((shaPad l).drop (64 * x.val)).take 64).length = 64) from by have := x.isLt; simp; rw [unhide HL]; omega)
        have HRX : Hid (Reads W 1 (.slice (some ⟨g3, 64 * x.val, none⟩) 64 64) 64 ((((shaPad l).drop (64 * x.val)).take 64).map u8v)) := hide (by
          have h1 := (unhide HR3).chg (unhide HEW) (fun k _ hk e => by cases hk; exact absurd e (Nat.ne_of_lt hg3b))
          obtain ⟨b, o, c, hv, h2, h3, _, h4⟩ := h1.sub (64 * x.val) 64 (by have := x.isLt; omega) (by omega)
          cases hv
          rw [List.map_take, List.map_drop]
          rw [Nat.zero_add] at h4
          exact h4.cap (by omega) (by unfold maxLen; omega))
        have HMW : Hid (ShaMem W) := hide (((unhide HM).ext (unhide HE3)).chg (unhide HEW) (fun e => by have h1 : _ < w.heap.size := lt_of_cell ((unhide HM).k 0 _ rfl); have := (unhide HE3).size'; simp at h1; omega) (fun e => by have h1 : _ < w.heap.size := lt_of_cell ((unhide HM).h 0 _ rfl); have := (unhide HE3).size'; simp at h1; omega))
        have HCC := hide (compress_any (shaFold (shaPad l) (pre.map Fin.val) shaH0) (((shaPad l).drop (64 * x.val)).take 64) _ W (unhide HMW) (shaFold_length _ _ _ rfl) (unhide HBX) (unhide HRX))
        have HB := hide hb
        clear hb
        generalize hst : ((shaFold (shaPad l) (pre.map Fin.val) shaH0).map w32).toArray = stp at *
        have H8 := hide (show stp.size = 8 from by rw [← hst]; simp; exact shaFold_length _ _ _ rfl)
        have HT := hide hst
        clear hst
        have HN8 := hide (show ((shaBlock (shaFold (shaPad l) (pre.map Fin.val) shaH0) (((shaPad l).drop (64 * x.val)).take 64)).map w32).toArray.size = 8 from by simp; exact shaFold_length (shaPad l) [x.val] (shaFold (shaPad l) (pre.map Fin.val) shaH0) (shaFold_length _ _ _ rfl))
        gi_wp2_with (first
          | (refine wpListIn_loadB (ty := 208) (t := 208) (x := .tmp 4) rfl rfl state_wide rfl (unhide HB) (unhide H8) ?_)
          | (refine ⟨trivial, ?_⟩; gi_at_call 146; refine (CallsIn.inRound lb (callsIn_wide.2 (unhide HCC))).mono ?_; rintro e w9 ⟨rfl, hE9⟩; have HX9 := hide hE9; clear hE9)
          | (refine wpListIn_storeB (ty := 208) (t := 208) (x := .tmp 4) (y := .tmp 34) rfl rfl state_wide rfl rfl ((unhide HB).ext (unhide HX9)) (unhide H8) (unhide HN8) (words_one _) ?_; intro w10 hb10 hc10 hz10))
        refine ⟨(unhide HX9).chg.trans hc10, ?_, Chg.cellv hc10 (Ext.cellv (unhide HX9) hf) (by simp)⟩
        rw [List.map_append]
        unfold shaFold
        rw [List.foldl_append]
        exact hb10
      case done =>
        rintro D W hD hc ⟨hb, hf⟩ hd
        have HEW : Hid (Ext w W) := hide (by
          have h1 : Chg (fun k => k = w3.heap.size) w3 w4 := (((Ext.refl w3).alloc _).alloc _).chg.trans (unhide HV).2.1
          have h2 := (((h1.setCell (p := ⟨w3.heap.size + 1, 0, none⟩) (.inr (by simp)) _).alloc _).alloc _).trans hc
          exact (unhide HE3).trans' h2 (fun _ _ h => h) (fun i hi e => by have := (unhide HE3).size'; omega))
        have HO : Hid (∃ o, Blk W w.heap.size 172 o ∧ o.size = 32) := hide (by
          obtain ⟨_, h1, _, o8, h3, h4⟩ := unhide HI
          have hlt := h3.lt
          have k1 := h3.chg (unhide HQ).2.chg (fun e => by have := (h1.lt _ e).1; omega)
          have hlt3 := k1.lt
          have h1 : Chg (fun k => k = w3.heap.size) w3 w4 := (((Ext.refl w3).alloc _).alloc _).chg.trans (unhide HV).2.1
          have h2 := (((h1.setCell (p := ⟨w3.heap.size + 1, 0, none⟩) (.inr (by simp)) _).alloc _).alloc _).trans hc
          exact ⟨o8, k1.chg h2 (by omega), h4⟩)
        rw [fin_map, shaFold_blocks] at hb
        have hm2 : m = (shaPad l).length / 64 := by rw [unhide HL]; omega
        rw [hm2] at hb
        have HSL := hide (show (shaBlocks ((shaPad l).length / 64) shaH0 (shaPad l)).length = 8 from by rw [← shaFold_blocks]; exact shaFold_length _ _ _ rfl)
        have HSH := hide (show (shaBlocks ((shaPad l).length / 64) shaH0 (shaPad l)).flatMap (fun w => beBytes w.toNat 4) = sha l from rfl)
        generalize shaBlocks ((shaPad l).length / 64) shaH0 (shaPad l) = stf at *
        obtain ⟨stq, hstq⟩ : ∃ s, (stf.map w32).toArray = s := ⟨_, rfl⟩
        rw [hstq] at hb
        have HB := hide hb
        have HTQ := hide hstq
        have H8 := hide (show stq.size = 8 from by rw [← hstq]; simpa using unhide HSL)
        have hDw : w.heap.size < D := by have := (unhide HE3).size'; have := (unhide HS).1; simp at hD; omega
        have HD := hide (And.intro hDw hd)
        clear hDw
        clear hb hf hd hD hstq hm2 HQ HV HS HE3 HST HST2 HI HN k5 f5 hc
        go_wp2_with (refine wpList_loadB (ty := 208) (t := 208) (x := .tmp 4) rfl rfl state_wide rfl (unhide HB) (unhide H8) ?_)
        go_loopw [7, 36] (fun b i wr => ∃ (k : Nat) (A : Option Addr) (c : Nat), k ≤ 8 ∧ i = .int .i64 k ∧ b = .slice A (4 * k) c ∧ Hid (wr.ownsRow W.heap.size 5 1 (.slice A (4 * k) c) (4 * k) ((outAt stf k).map u8v) ∧ Ext W wr)) (fun _ i _ => 8 - (intOf i).toNat)
        case atStart => exact ⟨0, none, 0, Nat.zero_le _, rfl, rfl, hide ⟨World.ownsRow_nil _ _ _ _, Ext.refl _⟩⟩
        case round =>
          obtain ⟨k, A7, c7, hk, rfl, rfl, HI⟩ := hrel
          by_cases hlt : k < 8
          · have hidx : ∀ X, (Instr.index 208 (.agg stq) (.int .i64 (k : Int))).run Tryz.prog X = .ok (.int .u32 ((stf.getD k 0).toNat : Int)) X := fun X =>
              run_index_arr (inf := _) Tryz.underlying208 (by kernel_rfl) rfl (by kernel_rfl) hlt (by rw [← unhide HTQ, ← wordsTo_all (unhide HSL)]; exact wordsTo_get (by rw [unhide HSL]; exact hlt)) X
            have HS2 := hide (outAt_step stf k (by rw [unhide HSL]; exact hlt))
            have hx := (stf.getD k 0).toNat_lt
            generalize stf.getD k 0 = xk at *
            go_wp2_with fail
            refine (store_lit _ (4 * k) ((outAt stf k).map u8v) xk.toNat 4 W.heap.size _ _ _ ?e1 ?e2 (unhide HI).1 ?hb (by omega) (by omega) (by omega)).mono ?_
            case e1 => first | rfl | simp
            case e2 => rfl
            case hb => exact (unhide HI).2.size'
            rintro e w5 ⟨A5, c5, rfl, ho, hO⟩
            have HQ := hide (And.intro ho hO)
            clear ho hO
            go_wp2
            go_roundw
            case rel =>
              refine ⟨k + 1, A5, c5, by omega, by go_num, rfl, hide ⟨?_, ?_⟩⟩
              · rw [unhide HS2, List.map_append]
                exact (unhide HQ).1
              · exact Onto.new_ext (unhide HI).2 (unhide HQ).2 (fun q hq => ((unhide HI).1.lt q hq).1)
            case measure => simp [intOf]; omega
          · obtain rfl : k = 8 := by omega
            clear hk hlt
            obtain ⟨g7, rfl⟩ : ∃ g7, A7 = some ⟨g7, 0, none⟩ := by
              obtain ⟨g, cap, u, hv, _⟩ := own_at (k := 0) (unhide HI).1 (by omega)
              cases hv
              exact ⟨g, rfl⟩
            have HG := hide (show outAt stf 8 = sha l from by
              unfold outAt
              rw [List.take_of_length_le (by rw [unhide HSL]; omega)]
              exact unhide HSH)
            have HRG : Hid (wr.rangeAt g7 0 ((sha l).map u8v)) := hide (by
              have h1 := (unhide HI).1
              rw [unhide HG] at h1
              intro j v hj
              have := h1.cells (g := g7) rfl j v hj
              rwa [add_lit] at this)
            have HLS := hide (show (sha l).length = 32 from by rw [← unhide HG]; exact outAt_length stf 8 (by rw [unhide HSL]; omega))
            obtain ⟨o8, ho8, ho8s⟩ := unhide HO
            have HO8 := hide (And.intro (ho8.ext (unhide HI).2) ho8s)
            clear ho8 ho8s
            obtain ⟨res, hres⟩ : ∃ r, ((sha l).map u8v).toArray = r := ⟨_, rfl⟩
            have HRS := hide (show res.size = 32 ∧ res.all (·.oneCell') = true from by rw [← hres]; exact ⟨by simpa using unhide HLS, bytes_one _⟩)
            have HRE := hide hres
            clear hres
            have harr := fun X => run_arrayAt (P := Tryz.prog) Tryz.underlying172 (ad := some ⟨g7, 0, none⟩) (len := 4 * 8) (c := c7) (by omega) X
            go_wp2_with (first
              | (refine wpList_loadR (ty := 172) (x := .tmp 45) rfl rfl arr32_wide rfl (arr := res) (cs := (sha l).map u8v) (unhide HRG) ?_ (unhide HRE) ?_; (focus (simpa using unhide HLS)))
              | (refine wpList_storeB (ty := 172) (t := 172) (x := .tmp 2) (y := .tmp 46) rfl rfl arr32_wide rfl rfl (unhide HO8).1 (unhide HO8).2 (unhide HRS).1 (unhide HRS).2 ?_; intro w9 hb9 hc9 hz9))
            have hd9 := ((unhide HI).2.blk (unhide HD).2)
            have hd9' := Chg.blk hc9 hd9 (fun e => by have := (unhide HD).1; omega)
            refine leave_mark rfl hd9' (results_blk arr32_wide rfl (hb9.putObj hd9' rfl) (unhide HRS).1 rfl) ⟨by rw [unhide HRE], ?_⟩
            refine putObj_ext _ (((unhide HEW).trans (unhide HI).2).trans' hc9 (fun _ _ h => h) (fun i hi e => by omega)) (by have := (unhide HD).1; omega)
end Go.Proofs.YtplkplegjoabgaaGreatDoor


namespace Go.Proofs.YtplkplegjoabgaaGreatDoor
open Go.RowKit
section
variable {P : Program} {w : World}
theorem run_appF {t ty e : TypeId} {bytes : Nat} (T : SlTy P t e 1 bytes) {b : Addr} {n : Nat} {xs : List Value} (hs : Reads w 1 (.slice (some b) n n) n xs) (hn : 0 < n)
    {u : Value} {m : Nat} {news : List Value} (hr : Reads w 1 u m news) (h1 : AllOne news) (hbytes : (n + m) * bytes ≤ 140737488355328) :
    ∃ A' c' w', (Builtin.append_ #[t, t] ty #[.slice (some b) n n, u]).run P w = .ok (.slice A' (n + m) c') w' ∧ Reads w' 1 (.slice A' (n + m) c') (n + m) (xs ++ news) ∧ Ext w w' := by
  obtain ⟨ht, ⟨i, z, hi, hz, hsize, hby, hzs⟩, _, hbp⟩ := T
  obtain ⟨hl, A, c, rfl, hmc, hcm, hcell⟩ := hr
  have h63 : n + m ≤ maxLen := by
    have : (n + m) * 1 ≤ (n + m) * bytes := Nat.mul_le_mul_left _ hbp
    unfold maxLen; omega
  rcases Nat.eq_zero_or_pos m with h0 | h0
  · subst h0
    have hnl : news = [] := List.eq_nil_of_length_eq_zero (by simpa using hl)
    subst hnl
    refine ⟨_, n, w, ?_, by simpa using hs, Ext.refl _⟩
    rcases A with _ | ad
    · simp [Builtin.append_, run_underlying ht, sizeOf, typeInfo, hi, Builtin.lenOf, Builtin.firstCells, storeCells]
    · obtain ⟨_, A2, c2, e2, _, _, hc2⟩ := hs
      cases e2
      obtain ⟨b0, o0, e0, _⟩ := hc2 hn
      cases e0
      have := run_append_room_cells (P := P) w t ty e i ht hi b0 o0 n n ad 0 c [] (by simp) (fun j u h => by simp at h) (fun u h => by cases h) (by omega) (fun j h => by simp at h) (fun j h => by simp at h)
      simpa [World.setCells] using this
  · obtain ⟨hxl, A2, c2, e2, _, _, hc2⟩ := hs
    cases e2
    obtain ⟨b0, o0, e0, hcs⟩ := hc2 hn
    cases e0
    obtain ⟨b1, o1, rfl, hcn⟩ := hcell h0
    obtain ⟨v', w', hrun, r1, r2⟩ := run_append_arg_grows (P := P) w t ty e i z 1 bytes ht hi hz hsize hby hzs (by omega) ⟨b0, o0, none⟩ n n xs hxl (fun j u hj => by rw [Addr.add_lit]; exact hcs j u hj) ⟨b1, o1, none⟩ m c news hl (fun j u hj => by rw [Addr.add_lit]; exact hcn j u hj) (by omega) h63 hbytes
    obtain ⟨A', c', rfl⟩ := own_slice r1
    exact ⟨A', c', w', hrun, Reads.of_own r1, (Ext.refl w).grown r2 (fun k h => by cases h)⟩
theorem wp_appF {o : Oper} {a : Act} {K : Act → World → Prop} {Q : Exit → Act → World → Prop} {s x : Operand} {t : TypeId}
    (ho : o.op = .call { callee := .builtin .append, args := #[s, x], argTypes := #[t, t] })
    {e : TypeId} {bytes : Nat} (T : SlTy P t e 1 bytes) {b : Addr} {n : Nat} {xs : List Value} (hs : a.eval s = .slice (some b) n n) (hown : Reads w 1 (.slice (some b) n n) n xs) (hn : 0 < n)
    {u : Value} (hx : a.eval x = u) {m : Nat} {news : List Value} (hr : Reads w 1 u m news) (h1 : AllOne news) (hbytes : (n + m) * bytes ≤ 140737488355328)
    (h : ∀ (A' : Option Addr) (c' : Nat) w', Reads w' 1 (.slice A' (n + m) c') (n + m) (xs ++ news) → Ext w w' → K (a.put o.dst (.slice A' (n + m) c')) w') : o.wp P a w K Q := by
  obtain ⟨A', c', w', hrun, h2, h3⟩ := run_appF (P := P) (ty := o.type) T hown hn hr h1 hbytes
  unfold Oper.wp execOp
  simp only [ho, resolve, invoke, builtin, Sem.run_bind, Sem.run_pure, Result.andThen_ok, List.map_toArray, List.map_cons, List.map_nil, hs, hx, hrun]
  exact h A' c' w' h2 h3
theorem step_appF {ops : Array Oper} {o : Oper} {a : Act} {K : Act → World → Prop} {Q : Exit → Act → World → Prop} {E : Prop} (hgd : o.guard = none) {s x : Operand} {t : TypeId}
    (ho : o.op = .call { callee := .builtin .append, args := #[s, x], argTypes := #[t, t] })
    {e : TypeId} {bytes : Nat} (T : SlTy P t e 1 bytes) {b : Addr} {n : Nat} {xs : List Value} (hs : a.eval s = .slice (some b) n n) (hown : Reads w 1 (.slice (some b) n n) n xs) (hn : 0 < n)
    {u : Value} (hx : a.eval x = u) {m : Nat} {news : List Value} (hr : Reads w 1 u m news) (h1 : AllOne news) (hbytes : (n + m) * bytes ≤ 140737488355328)
    (h : ∀ (A' : Option Addr) (c' : Nat) w', Reads w' 1 (.slice A' (n + m) c') (n + m) (xs ++ news) → Ext w w' → K (a.put o.dst (.slice A' (n + m) c')) w') :
    if Region.wanted o (yielded ops a.tmps) = true then Oper.wp P o a w K Q else E := by
  have hw : Region.wanted o (yielded ops a.tmps) = true := by simp [Region.wanted, hgd]
  rw [if_pos hw]
  exact wp_appF ho T hs hown hn hx hr h1 hbytes h
theorem wpList_appF {ops : Array Oper} {rest : List Oper} {o : Oper} {a : Act} {Q : Exit → Act → World → Prop} (hgd : o.guard = none) {s x : Operand} {t : TypeId}
    (ho : o.op = .call { callee := .builtin .append, args := #[s, x], argTypes := #[t, t] })
    {e : TypeId} {bytes : Nat} (T : SlTy P t e 1 bytes) {b : Addr} {n : Nat} {xs : List Value} (hs : a.eval s = .slice (some b) n n) (hown : Reads w 1 (.slice (some b) n n) n xs) (hn : 0 < n)
    {u : Value} (hx : a.eval x = u) {m : Nat} {news : List Value} (hr : Reads w 1 u m news) (h1 : AllOne news) (hbytes : (n + m) * bytes ≤ 140737488355328)
    (h : ∀ (A' : Option Addr) (c' : Nat) w', Reads w' 1 (.slice A' (n + m) c') (n + m) (xs ++ news) → Ext w w' → wpList P ops Q rest (a.put o.dst (.slice A' (n + m) c')) w') : wpList P ops Q (o :: rest) a w :=
  wpList_plain hgd fun _ hK => wp_appF ho T hs hown hn hx hr h1 hbytes fun A' c' w' h2 h3 => hK _ _ (h A' c' w' h2 h3)
end
end Go.Proofs.YtplkplegjoabgaaGreatDoor


namespace Go.Proofs.YtplkplegjoabgaaGreatDoor
open Go.RowKit
theorem mul_1_64 (w : World) : Calls Tryz.prog 191 #[.int .u64 1, .int .u64 64] w fun e w' => e = .returned (.tuple #[.int .u64 0, .int .u64 64]) ∧ w = w' := by
  go_enter Tryz.func191, Tryz.ntmps191
  go_wp2
  go_ret2
  exact ⟨by kernel_rfl, rfl⟩
theorem splice_rep {α : Type} (cur : List α) (x : α) (p m : Nat) (h : cur.take p = List.replicate p x) (_hl : p + m ≤ cur.length) : (splice cur p (List.replicate m x)).take (p + m) = List.replicate (p + m) x := by
  unfold splice
  rw [h, ← List.append_assoc, List.replicate_append_replicate, List.take_left' (by simp)]
def RepInv (x : UInt8) (w : World) (g n p : Nat) (wr : World) : Prop := ∃ cur : List Value, wr.heap[g]? = some (.cells cur.toArray 5 (0, 0)) ∧ cur.take p = List.replicate p (u8v x) ∧ cur.length = n ∧ Below w.heap.size w wr
theorem u8_info : (Tryz.prog.info? 5).map (·.size) = some 1 := by kernel_rfl
set_option maxRecDepth 100000 in
set_option maxHeartbeats 1000000 in
theorem repeat_any (x : UInt8) (v : Value) (w : World) (hr : Reads w 1 v 1 [u8v x]) :
    Calls Tryz.prog 190 #[v, .int .i64 64] w fun e w' => ∃ g, e = .returned (.slice (some ⟨g, 0, none⟩) 64 64) ∧ Reads w' 1 (.slice (some ⟨g, 0, none⟩) 64 64) 64 (List.replicate 64 (u8v x)) ∧ Ext w w' ∧ w.heap.size ≤ g ∧ (∀ i, w'.frozen? ⟨g, i, none⟩ = false) := by
  have HR := hide hr
  obtain ⟨b, o, c, u, rfl, hc1, hc2, hb, hu, hcu⟩ := hr.at1 (k := 0) (by omega)
  cases hu
  unfold u8v at hcu
  have HU := hide hcu
  clear hr hcu
  obtain ⟨cs, hrunM, hle, hmax⟩ := Lib.run_makeNoZero (P := Tryz.prog) w #[3] 40 5 Tryz.underlying40 64 (by omega)
  have hcall : (callFunc 192 #[.int .i64 64]).run Tryz.prog w = .ok (.value (.slice (some ⟨w.heap.size, 0, none⟩) 64 cs.size)) ((w.alloc (.cells cs 5)).drewN 2) := by
    have := run_callFunc_extern (P := Tryz.prog) (args := #[.int .i64 64]) (w := w) Tryz.func192 (by kernel_rfl) (by kernel_rfl) (by kernel_rfl) (e := Extern.BytealgMakeNoZero.makeNoZero #[3] #[40]) (by kernel_rfl)
    rw [this]
    have h2 : (Extern.BytealgMakeNoZero.makeNoZero #[3] #[40] #[.int .i64 64]).run Tryz.prog w = _ := hrunM
    rw [h2]
    rfl
  clear hrunM
  have hmx := hmax (by unfold maxLen; omega)
  unfold maxLen at hmx
  clear hmax
  have i1 : (64 : Int) ≤ (cs.size : Int) := by omega
  have HC := hide (show RepInv x w w.heap.size cs.size 0 ((w.alloc (.cells cs 5)).drewN 2) from ⟨cs.toList, (Blk.new w 5 cs).drewN 2, rfl, by simp, (((Ext.refl w).alloc _).drewN _).below⟩)
  go_enter Tryz.func190, Tryz.ntmps190
  go_upto_region 17 with (go_at_call 191; refine (mul_1_64 _).mono ?_; rintro e w' ⟨rfl, rfl⟩)
  iterate 7 (first | go_values | go_skip | go_guarded | go_step | go_upon)
  obtain ⟨cur0, C1, C2, C3, C4⟩ := unhide HC
  refine wpList_copy_splice rfl (.tmp 58) (.tmp 59) 40 40 rfl 5 Tryz.underlying40 u8_info (some ⟨w.heap.size, 0, none⟩) (some ⟨b, o, none⟩) 64 64 1 c rfl rfl w.heap.size 0 cur0 5 C1 [u8v x] rfl ?_ ?_ ?_ w.heap.size w C4 (Nat.le_refl _) ?_
  · intro _
    refine ⟨rfl, _, rfl, fun j v hj => ?_⟩
    match j, hj with
    | 0, hj =>
      cases hj
      exact (C4.cell (p := ⟨b, o, none⟩) hb).trans (unhide HU)
  · simp; omega
  · intro v hv; simp at hv; subst hv; rfl
  · intro w2 G1 G2
    have HI := hide (show RepInv x w w.heap.size cs.size 1 w2 from ⟨_, unhide G1, by have := splice_rep cur0 (u8v x) 0 1 C2 (by omega); simpa using this, by rw [length_splice _ _ _ (by simp; omega)]; exact C3, G2⟩)
    clear C1 C2 C3 C4 G1 G2
    go_wp2
    go_loopw [10] (fun p wr => ∃ k : Nat, 0 < k ∧ k ≤ 64 ∧ p = .int .i64 k ∧ Hid (RepInv x w w.heap.size cs.size k wr)) (fun p _ => 64 - (intOf p).toNat)
    case atStart => exact ⟨1, by omega, by omega, rfl, HI⟩
    case round =>
      clear HI
      obtain ⟨k, hk0, hk, rfl, HI⟩ := hrel
      by_cases hlt : k < 64
      · obtain ⟨cur, C1, C2, C3, C4⟩ := unhide HI
        have hC3 : 64 ≤ cur.length := by omega
        have HK := hide (And.intro C2 C3)
        clear C2 C3
        have d64 : decide ((k : Int) < 64) = true := decide_eq_true (by omega)
        have b64 : (k : Int) < 64 := by omega
        have bn : ¬ k = 64 := by omega
        have b1 : (k : Int) ≤ 64 := by omega
        have b0 : (0 : Int) ≤ (k : Int) := by omega
        obtain ⟨m, hm⟩ : ∃ m, Nat.min k (64 - k) = m := ⟨_, rfl⟩
        have hm1 : k + m ≤ 64 ∧ m ≤ k ∧ 0 < m := by have : Nat.min k (64 - k) = min k (64 - k) := rfl; omega
        have p2 : 0 < (List.replicate m (u8v x)).length → some (⟨w.heap.size, k, none⟩ : Addr) = some ⟨w.heap.size, k, none⟩ ∧ ∃ ad, some (⟨w.heap.size, 0, none⟩ : Addr) = some ad ∧ ∀ (j : Nat) (v : Value), (List.replicate m (u8v x))[j]? = some v → wr.drew.cell? (ad.add j) = some v := by
          intro _
          refine ⟨rfl, _, rfl, fun j v hj => ?_⟩
          have hjm : j < m := by
            rcases Nat.lt_or_ge j m with h | h
            · exact h
            · rw [List.getElem?_eq_none (by simpa using h)] at hj; cases hj
          rw [List.getElem?_replicate, if_pos hjm] at hj
          cases hj
          rw [add_lit, Nat.zero_add]
          have := Blk.cell (show Blk wr w.heap.size 5 cur.toArray from C1) j
          refine Eq.trans this ?_
          have e := (unhide HK).1
          have e2 : (cur.take k)[j]? = some (u8v x) := by rw [e, List.getElem?_replicate, if_pos (by omega)]
          rw [List.getElem?_take, if_pos (by omega)] at e2
          simpa using e2
        have p1 : (List.replicate m (u8v x)).length = Nat.min k (64 - k) := by rw [hm]; simp
        have p4 : ∀ v ∈ List.replicate m (u8v x), v.oneCell' = true := by intro v hv; rw [(List.mem_replicate.1 hv).2]; rfl
        obtain ⟨w3, hrun, HN⟩ : ∃ w3, (Builtin.copy_ #[40, 40] 3 #[.slice (some ⟨w.heap.size, k, none⟩) (64 - k) (64 - k), .slice (some ⟨w.heap.size, 0, none⟩) k 64]).run Tryz.prog wr.drew = .ok (.int .i64 (m : Int)) w3 ∧ Hid (RepInv x w w.heap.size cs.size (k + m) w3) := by
          obtain ⟨_, ad, e, hsrc⟩ := p2 (by simp; omega)
          cases e
          have h := run_copy_row (P := Tryz.prog) wr.drew 40 40 3 5 w.heap.size k (64 - k) (64 - k) ⟨w.heap.size, 0, none⟩ k 64 cur.toArray 5 (List.replicate m (u8v x)) Tryz.underlying40 u8_info C1 p1 hsrc (by simp; omega) p4
          simp only [List.length_replicate] at h
          refine ⟨_, h, hide ⟨splice cur k (List.replicate m (u8v x)), ?_, splice_rep cur (u8v x) k m (unhide HK).1 (by omega), ?_, ?_⟩⟩
          · have := setRow_heap wr.drew w.heap.size _ (splice cur k (List.replicate m (u8v x))).toArray 5 _ C1
            simpa [splice, List.append_assoc] using this
          · rw [length_splice _ _ _ (by simp; omega)]; exact (unhide HK).2
          · exact below_setRow (C4.trans (Ext.below ((Ext.refl wr).drew) |>.mono (by have := C4.size; omega))) (Nat.le_refl _) _
        have HM := hide (And.intro hm hm1)
        obtain ⟨hm2, hm3, hm4⟩ := hm1
        clear hm p1 p2 p4 C1 C4 hC3
        go_upto_region 20 with fail
        go_region
        all_goals
          go_wp2
          go_roundw
          case rel => exact ⟨k + m, by omega, by omega, by go_num, HN⟩
          case measure => simp [intOf]; omega
      · obtain rfl : k = 64 := by omega
        go_wp2
        go_ret
        obtain ⟨cur, C1, C2, C3, C4⟩ := unhide HI
        refine ⟨_, rfl, ?_, Ext.of_below C4, Nat.le_refl _, (show Blk wr w.heap.size 5 cur.toArray from C1).frozen⟩
        have := Reads.of_blk (show Blk wr w.heap.size 5 cur.toArray from C1) (i := 0) (n := 64) (c := 64) (by simp; omega) (by omega) (by unfold maxLen; omega)
        simpa [C2] using this
end Go.Proofs.YtplkplegjoabgaaGreatDoor
