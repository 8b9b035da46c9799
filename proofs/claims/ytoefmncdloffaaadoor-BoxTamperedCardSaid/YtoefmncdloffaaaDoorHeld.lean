
/-
  Loads of wide arrays in a region that draws its order.
-/
import Derived.Test.YtoefmncdloffaaaDoorShaI
import Derived.Deep.RegionHeld3
namespace Go.Proofs.YtoefmncdloffaaaDoor
open Go.RowKit

theorem ylm {S : World → Prop} {ops : Array Oper} {o : Oper} {a : Act} {T : TypeId} {n : Nat} (Wd : Wide Tryd.prog T n) {x : Operand} (ho : o.op = .load T x) (hw : Region.wanted o (yielded ops a.tmps) = true) {g off : Nat} {cs : List Value} (hx : a.eval x = .pointer (some ⟨g, off, none⟩)) (hn : cs.length = n) (hB : ∀ w, S w → w.rangeAt g off cs) : YieldsIf Tryd.prog ops S o (.agg cs.toArray) a := by
  obtain ⟨d, hu, hd⟩ := Wd.und
  exact yieldsIf_load_mid (P := Tryd.prog) (S := S) hw T x ho g off hx cs d hB hu hd (by rw [hn]; exact Wd.info)
theorem ylb {S : World → Prop} {ops : Array Oper} {o : Oper} {a : Act} {T : TypeId} {n : Nat} (Wd : Wide Tryd.prog T n) {x : Operand} (ho : o.op = .load T x) (hw : Region.wanted o (yielded ops a.tmps) = true) {g : Nat} {t : TypeId} {cs : Array Value} (hx : a.eval x = .pointer (some ⟨g, 0, none⟩)) (hn : cs.size = n) (hB : ∀ w, S w → Blk w g t cs) : YieldsIf Tryd.prog ops S o (.agg cs) a := by
  have := ylm (S := S) (ops := ops) (o := o) (a := a) Wd ho hw (cs := cs.toList) hx (by rw [Array.length_toList, hn]) (fun w h => (hB w h).range)
  rwa [Array.toArray_toList] at this
theorem range_from {w : World} {g : Nat} {t : TypeId} {pre l : List Value} (h : Blk w g t (pre ++ l).toArray) : w.rangeAt g pre.length l := fun j v hj => by
  rw [h.cell, List.getElem?_toArray, List.getElem?_append_right (by omega), show pre.length + j - pre.length = j from by omega]
  exact hj
theorem rangeAt_ext {w w' : World} {g o : Nat} {cs : List Value} (h : w.rangeAt g o cs) (hE : Ext w w') : w'.rangeAt g o cs := fun j v hj => Ext.cellv hE (h j v hj)

/-- A block is made and filled: nothing that was there has changed. -/
theorem made_ext {w w1 w2 : World} {o : Obj} (h : Ext w w1) (hc : Chg (fun k => k = w1.heap.size) (w1.alloc o) w2) : Ext w w2 := (h.alloc _).trans' hc (fun _ _ h => h) (fun i hi e => by have := h.size'; omega)
theorem made_ext1 {w1 w2 : World} {o : Obj} (hc : Chg (fun k => k = w1.heap.size) (w1.alloc o) w2) : Ext w1 w2 := made_ext (Ext.refl w1) hc
/-- An array in the midst of a block, loaded whole (the operation may be guarded, the guard known). -/
theorem wpList_loadMG {P : Program} {ops : Array Oper} {rest : List Oper} {o : Oper} {a : Act} {w : World} {Q : Exit → Act → World → Prop} (hgd : Region.wanted o (yielded ops a.tmps) = true) {ty : TypeId} {x : Operand} (ho : o.op = .load ty x) {n : Nat} (W : Wide P ty n)
    {g off : Nat} (hx : a.eval x = .pointer (some ⟨g, off, none⟩)) {cs : List Value} (hB : w.rangeAt g off cs) (hn : cs.length = n) (h : wpList P ops Q rest (a.put o.dst (.agg cs.toArray)) w) : wpList P ops Q (o :: rest) a w := by
  obtain ⟨d, hu, hd⟩ := W.und
  exact Go.BigFrame.wpList_want hgd fun _ hK => wp_load_mid ty x ho g off hx cs d hB hu hd (by rw [hn]; exact W.info) (hK _ _ h)

end Go.Proofs.YtoefmncdloffaaaDoor
