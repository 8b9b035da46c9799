/-
  Cells of slices of bytes and of words.
-/
import Derived.Test.YtjemfefkgfoikaaDoorShaC
namespace Go.Proofs.YtjemfefkgfoikaaDoor
open Go.RowKit

theorem Reads.at_ {w : World} {b o n c : Nat} {xs : List Value} (h : Reads w 1 (.slice (some ⟨b, o, none⟩) n c) n xs) {j : Nat} {u : Value} (hj : xs[j]? = some u) : w.cell? ⟨b, o + j, none⟩ = some u := by
  obtain ⟨hl, A, c', e, _, _, hc⟩ := h
  have hjl : j < xs.length := by
    rcases Nat.lt_or_ge j xs.length with h | h
    · exact h
    · rw [List.getElem?_eq_none h] at hj; cases hj
  obtain ⟨b', o', e', hcc⟩ := hc (by omega)
  cases e
  cases e'
  exact hcc j u hj
theorem Reads.byteAt {w : World} {b o n c : Nat} {l : List UInt8} (h : Reads w 1 (.slice (some ⟨b, o, none⟩) n c) n (l.map u8v)) {j : Nat} (hj : j < l.length) : w.cell? ⟨b, o + j, none⟩ = some (.int .u8 ((l.getD j 0).toNat : Int)) :=
  h.at_ (by rw [List.getElem?_map, List.getD_eq_getElem?_getD, List.getElem?_eq_getElem hj]; rfl)
theorem Reads.wordAt {w : World} {b o n c : Nat} {l : List UInt32} (h : Reads w 1 (.slice (some ⟨b, o, none⟩) n c) n (l.map w32)) {j : Nat} (hj : j < l.length) : w.cell? ⟨b, o + j, none⟩ = some (.int .u32 ((l.getD j 0).toNat : Int)) :=
  h.at_ (by rw [List.getElem?_map, List.getD_eq_getElem?_getD, List.getElem?_eq_getElem hj]; rfl)
theorem Reads.slice_lt {w : World} {b o n c : Nat} {xs : List Value} (h : Reads w 1 (.slice (some ⟨b, o, none⟩) n c) n xs) (hn : 0 < n) : b < w.heap.size ∧ n ≤ c ∧ c ≤ maxLen := by
  obtain ⟨b', o', c', u, e, h1, h2, h3, _⟩ := h.at1 hn
  cases e
  exact ⟨h3, h1, h2⟩

/-- A slice of bytes of the call's own, that grows: its block lies at B or above, nothing that was there at w0 has changed. -/
structure GB (w0 : World) (B : Nat) (v : Value) (n : Nat) (l : List UInt8) (wr : World) : Prop where
  own : wr.ownsRow B 5 1 v n (l.map u8v)
  ext : Ext w0 wr
  base : w0.heap.size ≤ B
  room : B ≤ wr.heap.size
theorem GB.nil {w0 wr : World} {B : Nat} (hE : Ext w0 wr) (hB : w0.heap.size ≤ B) (hR : B ≤ wr.heap.size) : GB w0 B (.slice none 0 0) 0 [] wr := ⟨World.ownsRow_nil _ _ _ _, hE, hB, hR⟩
theorem GB.len {w0 wr : World} {B n : Nat} {v : Value} {l : List UInt8} (h : GB w0 B v n l wr) : l.length = n := by have := h.own.1; simpa using this
theorem GB.to {w0 wr w1 : World} {B n : Nat} {v : Value} {l : List UInt8} (h : GB w0 B v n l wr) (hE : Ext wr w1) : GB w0 B v n l w1 := ⟨ownsRow_ext h.own hE, h.ext.trans hE, h.base, Nat.le_trans h.room hE.size'⟩
theorem GB.step {w0 wr w1 w2 : World} {B n n' : Nat} {v v' : Value} {l l' : List UInt8} (h : GB w0 B v n l wr) (hE : Ext wr w1) (hc : Chg (fun k => v.ownBlock = some k) w1 w2) (ho : w2.ownsRow B 5 1 v' n' (l'.map u8v)) : GB w0 B v' n' l' w2 :=
  ⟨ho, (h.ext.trans hE).trans' hc (fun _ _ h => h) (fun i hi e => by have := (h.own.lt i e).1; have := h.base; omega), h.base, Nat.le_trans h.room (Nat.le_trans hE.size' hc.size)⟩
theorem GB.blk {w0 wr w1 w2 : World} {B n : Nat} {v : Value} {l : List UInt8} (h : GB w0 B v n l wr) (hE : Ext wr w1) (hc : Chg (fun k => v.ownBlock = some k) w1 w2) {g : Nat} {t : TypeId} {cs : Array Value} (hb : Blk wr g t cs) (hg : g < B) : Blk w2 g t cs :=
  (hb.ext hE).chg hc (fun e => by have := (h.own.lt g e).1; omega)
theorem GB.reads {w0 wr : World} {B n : Nat} {v : Value} {l : List UInt8} (h : GB w0 B v n l wr) : Reads wr 1 v n (l.map u8v) := Reads.of_own h.own

/-- Bytes, and zeros behind them up to n. -/
def bytesTo (n : Nat) (l : List UInt8) : Array Value := (l.map u8v ++ List.replicate (n - l.length) (Value.int .u8 0)).toArray
theorem bytesTo_get {n : Nat} {l : List UInt8} {i : Nat} (h : i < l.length) : (bytesTo n l)[i]? = some (.int .u8 ((l.getD i 0).toNat : Int)) := by
  unfold bytesTo
  rw [List.getElem?_toArray, List.getElem?_append_left (by simpa using h), List.getElem?_map, List.getD_eq_getElem?_getD, List.getElem?_eq_getElem h]
  rfl
theorem bytesTo_zero_at {n : Nat} {l : List UInt8} {i : Nat} (h : l.length ≤ i) (hi : i < n) : (bytesTo n l)[i]? = some (.int .u8 0) := by
  unfold bytesTo
  rw [List.getElem?_toArray, List.getElem?_append_right (by simpa using h), List.getElem?_replicate, if_pos (by simp; omega)]
theorem bytesTo_set {n k : Nat} {l : List UInt8} (x : UInt8) (hl : l.length = k) (h : k < n) : (bytesTo n l).setIfInBounds k (.int .u8 (x.toNat : Int)) = bytesTo n (l ++ [x]) := by
  subst hl
  unfold bytesTo
  rw [show n - l.length = (n - (l ++ [x]).length) + 1 from by simp; omega, List.replicate_succ]
  simp [u8v]
theorem bytesTo_nil (n : Nat) : bytesTo n [] = Array.replicate n (Value.int .u8 0) := by
  unfold bytesTo
  simp
theorem bytesTo_size {n : Nat} {l : List UInt8} (h : l.length ≤ n) : (bytesTo n l).size = n := by
  unfold bytesTo
  simp
  omega
theorem bytesTo_all {n : Nat} {l : List UInt8} (h : l.length = n) : bytesTo n l = (l.map u8v).toArray := by
  unfold bytesTo
  rw [h, Nat.sub_self]
  simp

end Go.Proofs.YtjemfefkgfoikaaDoor
