
/-
  Structs and arrays of many cells, loaded and stored whole: one step each, whatever their width.
-/
import Derived.Test.YtoefmncdloffaaaDoorBase
import Derived.Deep.MidRow
namespace Go.Proofs.YtoefmncdloffaaaDoor
open Go.RowKit

structure Wide (P : Program) (ty : TypeId) (n : Nat) : Prop where
  und : ∃ d, P.underlying ty = some d ∧ d.isRow = true
  info : (P.info? ty).map (·.size) = some n

/-- n cells of block g from offset o on are written. -/
theorem Blk.range {w : World} {g : Nat} {t : TypeId} {cs : Array Value} (h : Blk w g t cs) : w.rangeAt g 0 cs.toList := fun j v hv => by
  rw [Nat.zero_add, h.cell]
  simpa using hv
theorem Blk.there_ {w : World} {g : Nat} {t : TypeId} {cs : Array Value} (h : Blk w g t cs) : w.there g 0 cs.size := fun j hj => by
  rw [Nat.zero_add, h.cell, h.frozen]
  simp [hj]
theorem heap_setCells_other (b : Nat) : ∀ (vs : List Value) (o : Nat) (w : World) (k : Nat), k ≠ b → (w.setCells b o vs).heap[k]? = w.heap[k]? := by
  intro vs
  induction vs with
  | nil => intro o w k hk; rfl
  | cons v vs ih =>
    intro o w k hk
    show ((w.setCell ⟨b, o, none⟩ v).setCells b (o + 1) vs).heap[k]? = _
    rw [ih _ _ _ hk, Below.heap_setCell _ _ _ _ hk]
theorem setCells_chg (b : Nat) : ∀ (vs : List Value) (o : Nat) (w : World), Chg (fun k => k = b) w (w.setCells b o vs) ∧ (w.setCells b o vs).heap.size = w.heap.size := by
  intro vs
  induction vs with
  | nil => intro o w; exact ⟨Chg.refl _ _, rfl⟩
  | cons v vs ih =>
    intro o w
    have h := ih (o + 1) (w.setCell ⟨b, o, none⟩ v)
    refine ⟨(Chg.setCell (S := fun k => k = b) (p := ⟨b, o, none⟩) (Chg.refl _ _) (.inl rfl) v).trans h.1, ?_⟩
    show ((w.setCell ⟨b, o, none⟩ v).setCells b (o + 1) vs).heap.size = _
    rw [h.2]
    simp [World.setCell]
theorem setCells_blk (b : Nat) (t : TypeId) : ∀ (vs : List Value) (pre : List Value) (old : List Value) (w : World), old.length = vs.length → Blk w b t (pre ++ old).toArray → Blk (w.setCells b pre.length vs) b t (pre ++ vs).toArray := by
  intro vs
  induction vs with
  | nil => intro pre old w hl h; cases old with | nil => exact h | cons => simp at hl
  | cons v vs ih =>
    intro pre old w hl h
    cases old with
    | nil => simp at hl
    | cons x old =>
      have h1 := h.set_ pre.length v
      have e : (pre ++ x :: old).toArray.setIfInBounds pre.length v = ((pre ++ [v]) ++ old).toArray := by simp
      rw [e] at h1
      have := ih (pre ++ [v]) old (w.setCell ⟨b, pre.length, none⟩ v) (by simpa using hl) h1
      simp only [List.length_append, List.length_cons, List.length_nil, Nat.zero_add, List.append_assoc, List.singleton_append] at this
      exact this
theorem store_blk {w : World} {g : Nat} {t : TypeId} {old cs : Array Value} (h : Blk w g t old) (hs : old.size = cs.size) : Blk (w.setCells g 0 cs.toList) g t cs := by
  have := setCells_blk g t cs.toList [] old.toList w (by simpa using hs) (by simpa using h)
  simpa using this

section
variable {P : Program}
theorem wp_loadB {o : Oper} {a : Act} {w : World} {K : Act → World → Prop} {Q : Exit → Act → World → Prop} {ty : TypeId} {x : Operand} (ho : o.op = .load ty x) {n : Nat} (W : Wide P ty n)
    {g : Nat} (hx : a.eval x = .pointer (some ⟨g, 0, none⟩)) {t : TypeId} {cs : Array Value} (hB : Blk w g t cs) (hn : cs.size = n) (h : K (a.put o.dst (.agg cs)) w) : o.wp P a w K Q := by
  obtain ⟨d, hu, hd⟩ := W.und
  refine wp_load_mid ty x ho g 0 hx cs.toList d hB.range hu hd (by rw [Array.length_toList, hn]; exact W.info) ?_
  rw [Array.toArray_toList]
  exact h
theorem wpList_loadB {ops : Array Oper} {rest : List Oper} {o : Oper} {a : Act} {w : World} {Q : Exit → Act → World → Prop} (hgd : o.guard = none) {ty : TypeId} {x : Operand} (ho : o.op = .load ty x) {n : Nat} (W : Wide P ty n)
    {g : Nat} (hx : a.eval x = .pointer (some ⟨g, 0, none⟩)) {t : TypeId} {cs : Array Value} (hB : Blk w g t cs) (hn : cs.size = n) (h : wpList P ops Q rest (a.put o.dst (.agg cs)) w) : wpList P ops Q (o :: rest) a w :=
  wpList_plain hgd fun _ hK => wp_loadB ho W hx hB hn (hK _ _ h)
theorem step_loadB {ops : Array Oper} {o : Oper} {a : Act} {w : World} {K : Act → World → Prop} {Q : Exit → Act → World → Prop} {E : Prop} (hgd : o.guard = none) {ty : TypeId} {x : Operand} (ho : o.op = .load ty x) {n : Nat} (W : Wide P ty n)
    {g : Nat} (hx : a.eval x = .pointer (some ⟨g, 0, none⟩)) {t : TypeId} {cs : Array Value} (hB : Blk w g t cs) (hn : cs.size = n) (h : K (a.put o.dst (.agg cs)) w) : if Region.wanted o (yielded ops a.tmps) = true then Oper.wp P o a w K Q else E := by
  have hw : Region.wanted o (yielded ops a.tmps) = true := by simp [Region.wanted, hgd]
  rw [if_pos hw]
  exact wp_loadB ho W hx hB hn h
theorem wp_storeB {o : Oper} {a : Act} {w : World} {K : Act → World → Prop} {Q : Exit → Act → World → Prop} {ty : TypeId} {x y : Operand} (ho : o.op = .store ty x y) {n : Nat} (W : Wide P ty n)
    {g : Nat} (hx : a.eval x = .pointer (some ⟨g, 0, none⟩)) {cs : Array Value} (hy : a.eval y = .agg cs) {t : TypeId} {old : Array Value} (hB : Blk w g t old) (ho2 : old.size = n) (hn : cs.size = n) (h1 : cs.all (·.oneCell') = true)
    (h : ∀ w', Blk w' g t cs → Chg (fun k => k = g) w w' → w'.heap.size = w.heap.size → K (a.put o.dst undef) w') : o.wp P a w K Q := by
  refine wp_store_mid ty x y ho g 0 cs hx hy (by rw [show cs.size = old.size from by omega]; exact hB.there_) (by rw [hn]; exact W.info) h1 ?_
  exact h _ (store_blk hB (by omega)) (setCells_chg g cs.toList 0 w).1 (setCells_chg g cs.toList 0 w).2
theorem wpList_storeB {ops : Array Oper} {rest : List Oper} {o : Oper} {a : Act} {w : World} {Q : Exit → Act → World → Prop} (hgd : o.guard = none) {ty : TypeId} {x y : Operand} (ho : o.op = .store ty x y) {n : Nat} (W : Wide P ty n)
    {g : Nat} (hx : a.eval x = .pointer (some ⟨g, 0, none⟩)) {cs : Array Value} (hy : a.eval y = .agg cs) {t : TypeId} {old : Array Value} (hB : Blk w g t old) (ho2 : old.size = n) (hn : cs.size = n) (h1 : cs.all (·.oneCell') = true)
    (h : ∀ w', Blk w' g t cs → Chg (fun k => k = g) w w' → w'.heap.size = w.heap.size → wpList P ops Q rest (a.put o.dst undef) w') : wpList P ops Q (o :: rest) a w :=
  wpList_plain hgd fun _ hK => wp_storeB ho W hx hy hB ho2 hn h1 fun w' h2 h3 h4 => hK _ _ (h w' h2 h3 h4)
theorem step_storeB {ops : Array Oper} {o : Oper} {a : Act} {w : World} {K : Act → World → Prop} {Q : Exit → Act → World → Prop} {E : Prop} (hgd : o.guard = none) {ty : TypeId} {x y : Operand} (ho : o.op = .store ty x y) {n : Nat} (W : Wide P ty n)
    {g : Nat} (hx : a.eval x = .pointer (some ⟨g, 0, none⟩)) {cs : Array Value} (hy : a.eval y = .agg cs) {t : TypeId} {old : Array Value} (hB : Blk w g t old) (ho2 : old.size = n) (hn : cs.size = n) (h1 : cs.all (·.oneCell') = true)
    (h : ∀ w', Blk w' g t cs → Chg (fun k => k = g) w w' → w'.heap.size = w.heap.size → K (a.put o.dst undef) w') : if Region.wanted o (yielded ops a.tmps) = true then Oper.wp P o a w K Q else E := by
  have hw : Region.wanted o (yielded ops a.tmps) = true := by simp [Region.wanted, hgd]
  rw [if_pos hw]
  exact wp_storeB ho W hx hy hB ho2 hn h1 h
end

/-! ### The same as rules of the walk: a block's cells as one term -/
def blkOf (w : World) (g : Nat) : Array Value := match w.heap[g]? with | some (.cells cs _ (0, 0)) => cs | _ => #[]
def setBlk (w : World) (g : Nat) (cs : Array Value) : World := w.setCells g 0 cs.toList
theorem Blk.blkOf {w : World} {g : Nat} {t : TypeId} {cs : Array Value} (h : Blk w g t cs) : blkOf w g = cs := by
  unfold Blk at h
  unfold Proofs.YtoefmncdloffaaaDoor.blkOf
  rw [h]
  rfl
theorem blk_of_size {w : World} {g n : Nat} (h : (blkOf w g).size = n) (hn : n ≠ 0) : ∃ t, Blk w g t (blkOf w g) := by
  unfold blkOf at h ⊢
  split at h
  · rename_i cs t e
    refine ⟨t, ?_⟩
    unfold Blk
    rw [e]
  · exact absurd h.symm hn
theorem load_blk {P : Program} {ty : TypeId} {n : Nat} (W : Wide P ty n) (hn : n ≠ 0) (w : World) (g : Nat) (h : (blkOf w g).size = n) : (Instr.loadAt ty (.pointer (some ⟨g, 0, none⟩))).run P w = .ok (.agg (blkOf w g)) w := by
  obtain ⟨t, hB⟩ := blk_of_size h hn
  obtain ⟨d, hu, hd⟩ := W.und
  have := run_loadAt_mid (P := P) w g 0 ty (blkOf w g).toList d hB.range hu hd (by rw [Array.length_toList, h]; exact W.info)
  rw [Array.toArray_toList] at this
  exact this
theorem store_blk' {P : Program} {ty : TypeId} {n : Nat} (W : Wide P ty n) (hn : n ≠ 0) (w : World) (g : Nat) (cs : Array Value) (h : (blkOf w g).size = n) (hs : cs.size = n) (h1 : cs.all (·.oneCell') = true) :
    (Instr.storeAt ty (.pointer (some ⟨g, 0, none⟩)) (.agg cs)).run P w = .ok () (setBlk w g cs) := by
  obtain ⟨t, hB⟩ := blk_of_size h hn
  exact run_storeAt_mid (P := P) w g 0 ty cs (by rw [hs, ← h]; exact hB.there_) (by rw [hs]; exact W.info) h1
theorem setBlk_chg (w : World) (g : Nat) (cs : Array Value) : Chg (fun k => k = g) w (setBlk w g cs) := (setCells_chg g cs.toList 0 w).1
theorem setBlk_size (w : World) (g : Nat) (cs : Array Value) : (setBlk w g cs).heap.size = w.heap.size := (setCells_chg g cs.toList 0 w).2
theorem setBlk_other (w : World) (b : Nat) (cs : Array Value) (k : Nat) (h : k ≠ b) : (setBlk w b cs).heap[k]? = w.heap[k]? := heap_setCells_other b cs.toList 0 w k h
theorem blkOf_setBlk_other (w : World) (b g : Nat) (cs : Array Value) (h : ¬ g = b) : blkOf (setBlk w b cs) g = blkOf w g := by unfold blkOf; rw [setBlk_other w b cs g h]
theorem cell_setBlk_other (w : World) (b g i : Nat) (cs : Array Value) (h : ¬ g = b) : (setBlk w b cs).cell? ⟨g, i, none⟩ = w.cell? ⟨g, i, none⟩ := World.cell?_of_block (setBlk_other w b cs g h)
theorem frozen_setBlk_other (w : World) (b g i : Nat) (cs : Array Value) (h : ¬ g = b) : (setBlk w b cs).frozen? ⟨g, i, none⟩ = w.frozen? ⟨g, i, none⟩ := World.frozen?_of_block (setBlk_other w b cs g h)
theorem setBlk_drew (w : World) (b : Nat) (cs : Array Value) : setBlk w.drew b cs = (setBlk w b cs).drew := by
  unfold setBlk
  generalize cs.toList = l
  generalize 0 = o
  induction l generalizing o w with
  | nil => rfl
  | cons v l ih =>
    show (w.drew.setCell ⟨b, o, none⟩ v).setCells b (o + 1) l = ((w.setCell ⟨b, o, none⟩ v).setCells b (o + 1) l).drew
    rw [World.setCell_drew, ih]
theorem blkOf_drew (w : World) (g : Nat) : blkOf w.drew g = blkOf w g := rfl
theorem blkOf_alloc_new (w : World) (cs : Array Value) (t : TypeId) (g : Nat) (hg : g = w.heap.size) : blkOf (w.alloc (.cells cs t)) g = cs := (Blk.new' w t cs hg).blkOf
theorem blkOf_alloc_past (w : World) (o : Obj) (g : Nat) (hg : g < w.heap.size) : blkOf (w.alloc o) g = blkOf w g := by unfold blkOf; rw [Below.heap_alloc w o g hg]
theorem blkOf_setCell_other (w : World) (g b i : Nat) (v : Value) (h : ¬ g = b) : blkOf (w.setCell ⟨b, i, none⟩ v) g = blkOf w g := by unfold blkOf; rw [Below.heap_setCell w ⟨b, i, none⟩ v g h]
theorem Blk.setBlk {w : World} {g : Nat} {t : TypeId} {old : Array Value} (h : Blk w g t old) (cs : Array Value) (hs : old.size = cs.size) : Blk (setBlk w g cs) g t cs := store_blk h hs
theorem Blk.setBlk_far {w : World} {g b : Nat} {t : TypeId} {cs cs' : Array Value} (h : Blk w g t cs) (hn : ¬ g = b) : Blk (Proofs.YtoefmncdloffaaaDoor.setBlk w b cs') g t cs := (setBlk_other w b cs' g hn).trans h

end Go.Proofs.YtoefmncdloffaaaDoor
