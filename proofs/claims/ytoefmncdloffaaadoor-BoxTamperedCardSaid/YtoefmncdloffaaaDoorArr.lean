
/-
  Arrays by value and parts of slices.
-/
import Derived.Test.YtoefmncdloffaaaDoorWide
import Derived.ChangeKeysEq
import Derived.DeepKeys
namespace Go.Proofs.YtoefmncdloffaaaDoor
open Go.RowKit

theorem Blk.far' {w : World} {g : Nat} {t : TypeId} {cs : Array Value} (h : Blk w g t cs) {b : Nat} (hn : ¬ g = b) (i : Nat) (u : Value) : Blk (w.setCell ⟨b, i, none⟩ u) g t cs := h.far hn u
theorem new_cell (W : World) (t : TypeId) (cs : Array Value) {g : Nat} (hg : g = W.heap.size) {i : Nat} {v : Value} (hv : cs[i]? = some v) : (W.alloc (.cells cs t)).cell? ⟨g, i, none⟩ = some v := by
  rw [(Blk.new' W t cs hg).cell]; exact hv
theorem old_cell (W : World) (o : Obj) {p : Addr} {v : Value} (h : W.cell? p = some v) : (W.alloc o).cell? p = some v := Ext.cellv ((Ext.refl W).alloc o) h
theorem keep5 {W : World} (o : Obj) {p q r s u : Addr} {a b c d e : Value} (h : W.cell? p = some a ∧ W.cell? q = some b ∧ W.cell? r = some c ∧ W.cell? s = some d ∧ W.cell? u = some e) : (W.alloc o).cell? p = some a ∧ (W.alloc o).cell? q = some b ∧ (W.alloc o).cell? r = some c ∧ (W.alloc o).cell? s = some d ∧ (W.alloc o).cell? u = some e :=
  ⟨old_cell _ _ h.1, old_cell _ _ h.2.1, old_cell _ _ h.2.2.1, old_cell _ _ h.2.2.2.1, old_cell _ _ h.2.2.2.2⟩
theorem keepc3 {W : World} (o : Obj) {p q r : Addr} {a b c : Value} (h : W.cell? p = some a ∧ W.cell? q = some b ∧ W.cell? r = some c) : (W.alloc o).cell? p = some a ∧ (W.alloc o).cell? q = some b ∧ (W.alloc o).cell? r = some c :=
  ⟨old_cell _ _ h.1, old_cell _ _ h.2.1, old_cell _ _ h.2.2⟩
theorem keep3 {W : World} (o : Obj) {p q : Addr} {a b : Value} (h : W.cell? p = some a ∧ W.cell? q = some b) : (W.alloc o).cell? p = some a ∧ (W.alloc o).cell? q = some b := ⟨old_cell _ _ h.1, old_cell _ _ h.2⟩
/-- What a region keeps whose last store goes to cell r. -/
def KeptFor (p q r : Addr) (a b : Value) (W : World) : Prop := W.cell? p = some a ∧ W.cell? q = some b ∧ W.cell? r = some (held W r) ∧ W.frozen? r = false
theorem keepS {W : World} (o : Obj) {p q r : Addr} {a b : Value} (h : W.cell? p = some a ∧ W.cell? q = some b ∧ W.cell? r = some (held W r) ∧ W.frozen? r = false) : (W.alloc o).cell? p = some a ∧ (W.alloc o).cell? q = some b ∧ (W.alloc o).cell? r = some (held (W.alloc o) r) ∧ (W.alloc o).frozen? r = false :=
  ⟨old_cell _ _ h.1, old_cell _ _ h.2.1, cell_held (old_cell _ _ h.2.2.1), Ext.frozenv ((Ext.refl W).alloc o) h.2.2.2 (lt_of_cell h.2.2.1)⟩
theorem keepT {W : World} (u : Value) {g i j k : Nat} {a b : Value} (hi : i ≠ k) (hj : j ≠ k) (h : W.cell? ⟨g, i, none⟩ = some a ∧ W.cell? ⟨g, j, none⟩ = some b ∧ W.cell? ⟨g, k, none⟩ = some (held W ⟨g, k, none⟩) ∧ W.frozen? ⟨g, k, none⟩ = false) :
    (W.setCell ⟨g, k, none⟩ u).cell? ⟨g, i, none⟩ = some a ∧ (W.setCell ⟨g, k, none⟩ u).cell? ⟨g, j, none⟩ = some b ∧ (W.setCell ⟨g, k, none⟩ u).cell? ⟨g, k, none⟩ = some (held (W.setCell ⟨g, k, none⟩ u) ⟨g, k, none⟩) ∧ (W.setCell ⟨g, k, none⟩ u).frozen? ⟨g, k, none⟩ = false := by
  refine ⟨?_, ?_, cell_held (World.cell?_setCell_same' _ _ _ (by rw [h.2.2.1]; rfl)), by rw [World.frozen?_setCell]; exact h.2.2.2⟩
  · rw [World.cell?_setCell_other (h := by intro e; cases e; exact hi rfl)]; exact h.1
  · rw [World.cell?_setCell_other (h := by intro e; cases e; exact hj rfl)]; exact h.2.1
section
variable {P : Program}
theorem run_index_arr {T elem : TypeId} {len : Nat} (hu : P.underlying T = some (.array len elem)) (hp : P.plainKey elem = true) {inf : TypeInfo} (hi : P.info? elem = some inf) (h1 : P.cellsOf elem = 1)
    {cs : Array Value} {k : Nat} (hk : k < len) {v : Value} (hv : cs[k]? = some v) (w : World) : (Instr.index T (.agg cs) (.int .i64 (k : Int))).run P w = .ok v w := by
  have h2 : (0 : Int) ≤ (k : Int) ∧ (k : Int) < (len : Int) := by omega
  simp [Instr.index, asIntOf, run_underlying hu, run_sizeOf (w := w) hi, h1, hk, run_part_plain w hp hv]

/-- A table is loaded whole. -/
theorem wpList_loadR {ops : Array Oper} {rest : List Oper} {o : Oper} {a : Act} {w : World} {Q : Exit → Act → World → Prop} (hgd : o.guard = none) {ty : TypeId} {x : Operand} (ho : o.op = .load ty x) {n : Nat} (W : Wide P ty n)
    {g : Nat} (hx : a.eval x = .pointer (some ⟨g, 0, none⟩)) {cs : List Value} {arr : Array Value} (hB : w.rangeAt g 0 cs) (hn : cs.length = n) (ha : cs.toArray = arr) (h : wpList P ops Q rest (a.put o.dst (.agg arr)) w) : wpList P ops Q (o :: rest) a w :=
  wpList_plain hgd fun _ hK => by
    obtain ⟨d, hu, hd⟩ := W.und
    refine wp_load_mid ty x ho g 0 hx cs d hB hu hd (by rw [hn]; exact W.info) ?_
    rw [ha]
    exact hK _ _ h
/-- The one result lies in a block of its own. -/
theorem loadVar_blk {w : World} {b : Nat} {t : TypeId} {cs : Array Value} (hB : Blk w b t cs) {T : TypeId} {n : Nat} (W : Wide P T n) (hn : cs.size = n) : (loadVar T ⟨b, 0, none⟩).run P w = .ok (.agg cs) w := by
  obtain ⟨d, hu, hd⟩ := W.und
  have := run_loadVar_mid (P := P) w b 0 T cs.toList d hB.range hu hd (by rw [Array.length_toList, hn]; exact W.info)
  rw [Array.toArray_toList] at this
  exact this
theorem results_blk {fn : Func} {i : Tmp} {T : TypeId} {n : Nat} (W : Wide P T n) (hf : fn.results = #[.cell i T]) {tmps : Array Value} {w : World} {b : Nat} {t : TypeId} {cs : Array Value} (hB : Blk w b t cs) (hn : cs.size = n) (ei : tmps.getD i undef = .pointer (some ⟨b, 0, none⟩)) :
    (results fn tmps).run P w = .ok (.agg cs) w := by
  have h1 := loadVar_blk hB W hn
  simp only [Array.getD_eq_getD_getElem?] at ei
  simp [results, hf, ei, asAddr, h1]
/-- A part of a slice. -/
theorem Reads.sub {w : World} {v : Value} {n : Nat} {xs : List Value} (h : Reads w 1 v n xs) (i m : Nat) (hi : i + m ≤ n) (hm : 0 < m) :
    ∃ b o c, v = .slice (some ⟨b, o, none⟩) n c ∧ n ≤ c ∧ c ≤ maxLen ∧ b < w.heap.size ∧ Reads w 1 (.slice (some ⟨b, o + i, none⟩) m (c - i)) m ((xs.drop i).take m) := by
  obtain ⟨b, o, c, u, rfl, h1, h2, h3, _, _⟩ := h.at1 (k := 0) (by omega)
  have hl := h.1
  refine ⟨b, o, c, rfl, h1, h2, h3, by simp; omega, _, _, rfl, by omega, by omega, fun _ => ⟨b, o + i, rfl, fun j u hu => ?_⟩⟩
  have hj : j < m := by
    rcases Nat.lt_or_ge j m with h | h
    · exact h
    · rw [List.getElem?_eq_none (by simp; omega)] at hu; cases hu
  rw [List.getElem?_take, if_pos hj, List.getElem?_drop] at hu
  obtain ⟨_, A, c', e, _, _, h4⟩ := h
  cases e
  obtain ⟨b', o', e, hc⟩ := h4 (by omega)
  cases e
  rw [Nat.add_assoc]
  exact hc _ _ hu
/-- The same with another capacity. -/
theorem Reads.cap {w : World} {A : Option Addr} {n c c' : Nat} {xs : List Value} (h : Reads w 1 (.slice A n c) n xs) (h1 : n ≤ c') (h2 : c' ≤ maxLen) : Reads w 1 (.slice A n c') n xs := by
  obtain ⟨hl, A', c'', e, _, _, h4⟩ := h
  cases e
  exact ⟨hl, A, c', rfl, h1, h2, h4⟩
/-- The cells of a block. -/
theorem Reads.of_blk {w : World} {g : Nat} {t : TypeId} {cs : Array Value} (h : Blk w g t cs) {i n c : Nat} (hi : i + n ≤ cs.size) (hc : n ≤ c) (hm : c ≤ maxLen) :
    Reads w 1 (.slice (some ⟨g, i, none⟩) n c) n ((cs.toList.drop i).take n) := by
  refine ⟨by simp; omega, _, _, rfl, hc, hm, fun _ => ⟨g, i, rfl, fun j u hu => ?_⟩⟩
  have hj : j < n := by
    rcases Nat.lt_or_ge j n with h | h
    · exact h
    · rw [List.getElem?_eq_none (by simp; omega)] at hu; cases hu
  rw [List.getElem?_take, if_pos hj, List.getElem?_drop] at hu
  rw [h.cell, ← hu]
  simp
end

end Go.Proofs.YtoefmncdloffaaaDoor
