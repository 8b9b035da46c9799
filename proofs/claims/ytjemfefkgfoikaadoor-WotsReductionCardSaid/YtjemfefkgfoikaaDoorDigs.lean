/-
  Slices of digests: cells, elements, appending.
-/
import Derived.Test.YtjemfefkgfoikaaDoorHeld
import Derived.Test.YtjemfefkgfoikaaDoorEqD
import Derived.Great.BuildSlice
namespace Go.Proofs.YtjemfefkgfoikaaDoor
open Go.RowKit

/-- The cells of a list of digests. -/
def dcells (ds : List (List UInt8)) : List Value := ds.flatMap fun d => d.map u8v
def D16 (ds : List (List UInt8)) : Prop := ∀ d ∈ ds, d.length = 16
theorem D16.cons {d : List UInt8} {ds : List (List UInt8)} (h : D16 (d :: ds)) : d.length = 16 ∧ D16 ds := ⟨h d List.mem_cons_self, fun x hx => h x (List.mem_cons_of_mem _ hx)⟩
theorem D16.nil : D16 [] := fun d h => by cases h
theorem D16.append {a b : List (List UInt8)} (h : D16 a) (k : D16 b) : D16 (a ++ b) := fun d hd => (List.mem_append.1 hd).elim (h d) (k d)
theorem D16.one {d : List UInt8} (h : d.length = 16) : D16 [d] := fun x hx => by simp at hx; subst hx; exact h
theorem D16.get {ds : List (List UInt8)} (h : D16 ds) {k : Nat} (hk : k < ds.length) : ds[k].length = 16 := h _ (List.getElem_mem hk)
theorem dcells_append (a b : List (List UInt8)) : dcells (a ++ b) = dcells a ++ dcells b := List.flatMap_append
theorem dcells_one (d : List UInt8) : dcells [d] = d.map u8v := by unfold dcells; simp
theorem dcells_length : ∀ {ds : List (List UInt8)}, D16 ds → (dcells ds).length = ds.length * 16
  | [], _ => rfl
  | d :: ds, h => by
    have := dcells_length h.cons.2
    unfold dcells at this ⊢
    rw [List.flatMap_cons, List.length_append, this, List.length_map, h.cons.1, List.length_cons]
    omega
theorem dcells_at : ∀ {ds : List (List UInt8)}, D16 ds → ∀ (k : Nat) (hk : k < ds.length) (j : Nat), j < 16 → (dcells ds)[k * 16 + j]? = (ds[k].map u8v)[j]?
  | [], _, k, hk, _, _ => by simp at hk
  | d :: ds, h, 0, _, j, hj => by
    unfold dcells
    rw [List.flatMap_cons, List.getElem?_append_left (by rw [List.length_map, h.cons.1]; omega)]
    simp
  | d :: ds, h, k + 1, hk, j, hj => by
    have := dcells_at h.cons.2 k (by simpa using hk) j hj
    unfold dcells at this ⊢
    rw [List.flatMap_cons, List.getElem?_append_right (by rw [List.length_map, h.cons.1]; omega), List.length_map, h.cons.1, show (k + 1) * 16 + j - 16 = k * 16 + j from by omega, this]
    rfl
theorem dcells_one' : ∀ {ds : List (List UInt8)}, AllOne (dcells ds)
  | [] => fun v h => by cases h
  | d :: ds => fun v h => by
    unfold dcells at h
    rw [List.flatMap_cons, List.mem_append] at h
    rcases h with h | h
    · exact AllOne.u8 d v h
    · exact dcells_one' (ds := ds) v h

/-- The slice value reads as a list of digests. -/
def Digs (w : World) (v : Value) (ds : List (List UInt8)) : Prop := D16 ds ∧ Reads w 16 v ds.length (dcells ds)
section
variable {w w' : World} {v : Value} {ds : List (List UInt8)}
theorem Digs.ext (h : Digs w v ds) (hE : Ext w w') : Digs w' v ds := ⟨h.1, h.2.ext hE⟩
theorem Digs.nil (w : World) : Digs w (.slice none 0 0) [] := ⟨D16.nil, Reads.nil w 16⟩
theorem Digs.form (h : Digs w v ds) : ∃ A c, v = .slice A ds.length c ∧ ds.length ≤ c ∧ c ≤ maxLen := by
  obtain ⟨_, _, A, c, h, h1, h2, _⟩ := h
  exact ⟨A, c, h, h1, h2⟩
theorem Digs.at (h : Digs w v ds) {k : Nat} (hk : k < ds.length) : ∃ b o c, v = .slice (some ⟨b, o, none⟩) ds.length c ∧ ds.length ≤ c ∧ c ≤ maxLen ∧ b < w.heap.size ∧ w.rangeAt b (o + k * 16) (ds[k].map u8v) := by
  obtain ⟨hd, hl, A, c, rfl, h1, h2, h3⟩ := h
  obtain ⟨b, o, rfl, hc⟩ := h3 (by omega)
  have hlk := hd.get hk
  refine ⟨b, o, c, rfl, h1, h2, ?_, fun j u hu => ?_⟩
  · have e := dcells_at hd k hk 0 (by omega)
    have e2 : (ds[k].map u8v)[0]? = some (u8v (ds[k][0]'(by omega))) := by rw [List.getElem?_map, List.getElem?_eq_getElem (show 0 < ds[k].length by omega)]; rfl
    exact lt_of_cell (hc _ _ (e.trans e2))
  · have hj : j < 16 := by
      rcases Nat.lt_or_ge j 16 with h | h
      · exact h
      · rw [List.getElem?_eq_none (by rw [List.length_map]; omega)] at hu; cases hu
    rw [Nat.add_assoc]
    exact hc _ _ ((dcells_at hd k hk j hj).trans hu)
/-- A part of the list. -/
theorem Digs.sub (h : Digs w v ds) (i m c' : Nat) (hi : i + m ≤ ds.length) (hm : 0 < m) (hc1 : m ≤ c') (hc2 : c' ≤ maxLen) :
    ∃ b o c, v = .slice (some ⟨b, o, none⟩) ds.length c ∧ Digs w (.slice (some ⟨b, o + i * 16, none⟩) m c') ((ds.drop i).take m) := by
  obtain ⟨b, o, c, rfl, h1, h2, hb, _⟩ := h.at (k := i) (by omega)
  obtain ⟨hd, hl, A, c2, e, _, _, h3⟩ := h
  cases e
  obtain ⟨b', o', e, hc⟩ := h3 (by omega)
  cases e
  have hd' : D16 ((ds.drop i).take m) := fun d hx => hd d (List.mem_of_mem_drop (List.mem_of_mem_take hx))
  have hlen : ((ds.drop i).take m).length = m := by simp; omega
  refine ⟨b, o, c, rfl, hd', ?_⟩
  rw [hlen]
  refine ⟨by rw [dcells_length hd', hlen], _, c', rfl, hc1, hc2, fun _ => ⟨b, o + i * 16, rfl, fun j u hu => ?_⟩⟩
  have hj : j < m * 16 := by
    rcases Nat.lt_or_ge j (m * 16) with h | h
    · exact h
    · rw [List.getElem?_eq_none (by rw [dcells_length hd', hlen]; omega)] at hu; cases hu
  have e1 := dcells_at hd' (j / 16) (by rw [hlen]; omega) (j % 16) (by omega)
  have e2 := dcells_at hd (i + j / 16) (by omega) (j % 16) (by omega)
  rw [show j / 16 * 16 + j % 16 = j from by omega, hu] at e1
  have e3 : ((ds.drop i).take m)[j / 16]'(by rw [hlen]; omega) = ds[i + j / 16]'(by omega) := by simp
  rw [e3, ← e2] at e1
  have := hc _ _ e1.symm
  rw [show (o + i * 16 + j) = o + ((i + j / 16) * 16 + j % 16) from by omega]
  exact this
end
theorem digs_row : SlTy Tryd.prog 24 23 16 16 := SlTy.mk' (z := .agg (Array.replicate 16 (.int .u8 0))) (by kernel_rfl) (by kernel_rfl) rfl (by omega) (by omega)
theorem fold_set : ∀ (l : List Value) (pre old : List Value), old.length = l.length → (l.zipIdx pre.length).foldl (fun (acc : Array Value) x => acc.setIfInBounds (0 + x.2) x.1) (pre ++ old).toArray = (pre ++ l).toArray
  | [], pre, old, h => by cases old with | nil => rfl | cons => simp at h
  | v :: l, pre, old, h => by
    cases old with
    | nil => simp at h
    | cons x old =>
      rw [List.zipIdx_cons, List.foldl_cons]
      have e : (pre ++ x :: old).toArray.setIfInBounds (0 + pre.length) v = ((pre ++ [v]) ++ old).toArray := by simp
      have := fold_set l (pre ++ [v]) old (by simpa using h)
      simp only [List.length_append, List.length_cons, List.length_nil, Nat.zero_add, List.append_assoc, List.singleton_append] at this e ⊢
      rw [e]
      exact this
theorem fill_one (old cs : Array Value) (n : Nat) (ho : old.size = n) (hc : cs.size = n) : Instr.fill (fun i => some (i * n, n)) old [(0, .agg cs)] = some cs := by
  unfold Instr.fill
  simp only [Nat.zero_mul]
  have h1 : (Value.agg cs).cells = cs := rfl
  rw [h1, if_neg (by simp; omega)]
  unfold Instr.fill
  have := fold_set cs.toList [] old.toList (by simp; omega)
  simp only [List.length_nil, List.nil_append, Array.toArray_toList] at this
  rw [← Array.foldl_toList, Array.toList_zipIdx]
  exact congrArg some this
section
variable {P : Program}
theorem wp_build1 {o : Oper} {a : Act} {w : World} {K : Act → World → Prop} {Q : Exit → Act → World → Prop} {t e : TypeId} {size bytes : Nat} (T : SlTy P t e size bytes) (hsz : size ≤ 1000) {x : Operand} (ho : o.op = .buildSlice t 1 #[(0, x)]) {cs : Array Value} (hx : a.eval x = .agg cs) (hn : cs.size = size)
    (h : K (a.put o.dst (.slice (some ⟨w.heap.size, 0, none⟩) 1 1)) (w.alloc (.cells cs e))) : o.wp P a w K Q := by
  obtain ⟨ht, ⟨i, z, hi, hz, hsize, _, hzs⟩, h0, _⟩ := T
  refine wp_buildSlice t e 1 #[(0, x)] ho cs i z ht hi hz (by rw [hsize]; omega) (by rw [hsize]; omega) ?_ h
  rw [hsize]
  have := fill_one ((Array.range (1 * size)).map (z.cells[· % z.cells.size]!)) cs size (by simp) hn
  simpa [hx] using this
theorem wpList_build1 {ops : Array Oper} {rest : List Oper} {o : Oper} {a : Act} {w : World} {Q : Exit → Act → World → Prop} (hgd : o.guard = none) {t e : TypeId} {size bytes : Nat} (T : SlTy P t e size bytes) (hsz : size ≤ 1000) {x : Operand} (ho : o.op = .buildSlice t 1 #[(0, x)]) {cs : Array Value} (hx : a.eval x = .agg cs) (hn : cs.size = size)
    (h : wpList P ops Q rest (a.put o.dst (.slice (some ⟨w.heap.size, 0, none⟩) 1 1)) (w.alloc (.cells cs e))) : wpList P ops Q (o :: rest) a w :=
  wpList_plain hgd fun _ hK => wp_build1 T hsz ho hx hn (hK _ _ h)
end
/-- A new block of one digest. -/
theorem Reads.newD (w : World) (e : TypeId) (d : List UInt8) (h : d.length = 16) {g : Nat} (hg : g = w.heap.size) : Reads (w.alloc (.cells (d.map u8v).toArray e)) 16 (.slice (some ⟨g, 0, none⟩) 1 1) 1 (d.map u8v) := by
  subst hg
  refine ⟨by rw [List.length_map, h], _, 1, rfl, Nat.le_refl _, by unfold maxLen; omega, fun _ => ⟨_, 0, rfl, fun j u hu => ?_⟩⟩
  rw [Nat.zero_add, (Blk.new w e _).cell]
  simpa using hu
/-- A slice of digests of the call's own, that grows. -/
structure GD (w0 : World) (B : Nat) (v : Value) (n : Nat) (ds : List (List UInt8)) (wr : World) : Prop where
  own : wr.ownsRow B 23 16 v n (dcells ds)
  all : D16 ds
  ext : Ext w0 wr
  base : w0.heap.size ≤ B
  room : B ≤ wr.heap.size
theorem GD.nil {w0 wr : World} {B : Nat} (hE : Ext w0 wr) (hB : w0.heap.size ≤ B) (hR : B ≤ wr.heap.size) : GD w0 B (.slice none 0 0) 0 [] wr := ⟨World.ownsRow_nil _ _ _ _, D16.nil, hE, hB, hR⟩
theorem GD.len {w0 wr : World} {B n : Nat} {v : Value} {ds : List (List UInt8)} (h : GD w0 B v n ds wr) : ds.length = n := by have := h.own.1; rw [dcells_length h.all] at this; omega
theorem GD.to {w0 wr w1 : World} {B n : Nat} {v : Value} {ds : List (List UInt8)} (h : GD w0 B v n ds wr) (hE : Ext wr w1) : GD w0 B v n ds w1 := ⟨ownsRow_ext h.own hE, h.all, h.ext.trans hE, h.base, Nat.le_trans h.room hE.size'⟩
theorem GD.step {w0 wr w1 w2 : World} {B n n' : Nat} {v v' : Value} {ds : List (List UInt8)} {d : List UInt8} (hd : d.length = 16) (h : GD w0 B v n ds wr) (hE : Ext wr w1) (hc : Chg (fun k => v.ownBlock = some k) w1 w2) (ho : w2.ownsRow B 23 16 v' n' (dcells ds ++ d.map u8v)) : GD w0 B v' n' (ds ++ [d]) w2 :=
  ⟨by rw [dcells_append, dcells_one]; exact ho, h.all.append (D16.one hd), (h.ext.trans hE).trans' hc (fun _ _ h => h) (fun i hi e => by have := (h.own.lt i e).1; have := h.base; omega), h.base, Nat.le_trans h.room (Nat.le_trans hE.size' hc.size)⟩
theorem GD.digs {w0 wr : World} {B n : Nat} {v : Value} {ds : List (List UInt8)} (h : GD w0 B v n ds wr) : Digs wr v ds := ⟨h.all, by have := Reads.of_own h.own; rwa [← h.len] at this⟩
theorem GD.form {w0 wr : World} {B n : Nat} {v : Value} {ds : List (List UInt8)} (h : GD w0 B v n ds wr) : ∃ A c, v = .slice A n c := own_slice h.own

end Go.Proofs.YtjemfefkgfoikaaDoor
