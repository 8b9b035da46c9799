
/-
  Two digests laid into two new blocks by a region that draws its order.
-/
import Derived.Test.YtoefmncdloffaaaDoorFacts
import Derived.Test.YtoefmncdloffaaaDoorHeld
namespace Go.Proofs.YtoefmncdloffaaaDoor
open Go.RowKit

def ptr (g : Nat) : Value := .pointer (some ⟨g, 0, none⟩)
theorem ptr_inj {a b : Nat} (h : ptr a = ptr b) : a = b := by cases h; rfl
def Fresh (w0 : World) (v : Value) (W : World) : Prop := ∃ g, v = ptr g ∧ w0.heap.size ≤ g ∧ ∃ cs : Array Value, cs.size = 16 ∧ Blk W g 23 cs
def Filled (w0 : World) (u : Value) (a : Array Value) (W : World) : Prop := ∃ g, u = ptr g ∧ w0.heap.size ≤ g ∧ Blk W g 23 a
theorem Fresh.ext {w0 : World} {v : Value} {W W' : World} (h : Fresh w0 v W) (hE : Ext W W') : Fresh w0 v W' := by
  obtain ⟨g, h1, h2, cs, h3, h4⟩ := h
  exact ⟨g, h1, h2, cs, h3, h4.ext hE⟩
theorem Filled.ext {w0 : World} {u : Value} {a : Array Value} {W W' : World} (h : Filled w0 u a W) (hE : Ext W W') : Filled w0 u a W' := by
  obtain ⟨g, h1, h2, h4⟩ := h
  exact ⟨g, h1, h2, h4.ext hE⟩
theorem Fresh.set {w0 : World} {v : Value} {W W' : World} {g : Nat} (h : Fresh w0 v W) (hc : Chg (fun k => k = g) W W') (hn : v ≠ ptr g) : Fresh w0 v W' := by
  obtain ⟨g', h1, h2, cs, h3, h4⟩ := h
  exact ⟨g', h1, h2, cs, h3, h4.chg hc (fun e => hn (by rw [h1, e]))⟩
theorem Filled.set {w0 : World} {u : Value} {a : Array Value} {W W' : World} {g : Nat} (h : Filled w0 u a W) (hc : Chg (fun k => k = g) W W') (hn : u ≠ ptr g) : Filled w0 u a W' := by
  obtain ⟨g', h1, h2, h4⟩ := h
  exact ⟨g', h1, h2, h4.chg hc (fun e => hn (by rw [h1, e]))⟩
theorem Fresh.new (w0 W : World) (h : w0.heap.size ≤ W.heap.size) (cs : Array Value) (hs : cs.size = 16) : Fresh w0 (ptr W.heap.size) (W.alloc (.cells cs 23)) := ⟨_, rfl, h, cs, hs, Blk.new _ _ _⟩
theorem Fresh.ne {w0 : World} {v : Value} {W : World} (h : Fresh w0 v W) : v ≠ ptr W.heap.size := by
  obtain ⟨g, h1, _, cs, _, h4⟩ := h
  intro e
  have := ptr_inj (h1.symm.trans e)
  have := h4.lt
  omega

/-- The facts: of the operations ahead by their values alone; of the two allocs i1, i1 + 1; of the two stores behind them. -/
def TwoF (P : Nat → Value → Prop) (i1 : Nat) (w0 : World) (ca ha : Array Value) : Nat → Value → Value → World → Prop := fun i v u W =>
  if i = i1 then Fresh w0 v W else if i = i1 + 1 then Fresh w0 v W else if i = i1 + 2 then Filled w0 u ca W else if i = i1 + 3 then Filled w0 u ha W else P i v
def twoLink (i1 : Nat) : Nat → Nat := fun i => if i = i1 + 2 then i1 else if i = i1 + 3 then i1 + 1 else i
/-- What the base says: nothing that was there has changed, and the two blocks differ. -/
def TwoB (i1 : Nat) (w0 : World) : (Nat → Bool) → (Nat → Value) → World → Prop := fun L xs W => Ext w0 W ∧ (L i1 = true → L (i1 + 1) = true → xs i1 ≠ xs (i1 + 1))
section
variable {P : Nat → Value → Prop} {i1 : Nat} {w0 : World} {ca ha : Array Value} {i : Nat} {v u : Value} {W W' : World} {L : Nat → Bool} {xs : Nat → Value}
theorem TwoF.ext (h : TwoF P i1 w0 ca ha i v u W) (hE : Ext W W') : TwoF P i1 w0 ca ha i v u W' := by
  unfold TwoF at h ⊢
  split
  · rename_i e; rw [if_pos e] at h; exact h.ext hE
  · rename_i e; rw [if_neg e] at h
    split
    · rename_i e; rw [if_pos e] at h; exact h.ext hE
    · rename_i e; rw [if_neg e] at h
      split
      · rename_i e; rw [if_pos e] at h; exact h.ext hE
      · rename_i e; rw [if_neg e] at h
        split
        · rename_i e; rw [if_pos e] at h; exact h.ext hE
        · rename_i e; rw [if_neg e] at h; exact h
theorem TwoF.set {g : Nat} (h : TwoF P i1 w0 ca ha i v u W) (hc : Chg (fun k => k = g) W W') (h1 : i = i1 → v ≠ ptr g) (h2 : i = i1 + 1 → v ≠ ptr g) (h3 : i = i1 + 2 → u ≠ ptr g) (h4 : i = i1 + 3 → u ≠ ptr g) : TwoF P i1 w0 ca ha i v u W' := by
  unfold TwoF at h ⊢
  split
  · rename_i e; rw [if_pos e] at h; exact h.set hc (h1 e)
  · rename_i e; rw [if_neg e] at h
    split
    · rename_i e; rw [if_pos e] at h; exact h.set hc (h2 e)
    · rename_i e; rw [if_neg e] at h
      split
      · rename_i e; rw [if_pos e] at h; exact h.set hc (h3 e)
      · rename_i e; rw [if_neg e] at h
        split
        · rename_i e; rw [if_pos e] at h; exact h.set hc (h4 e)
        · rename_i e; rw [if_neg e] at h; exact h
theorem TwoB.other (h : TwoB i1 w0 L xs W) (hE : Ext W W') (h1 : i ≠ i1) (h2 : i ≠ i1 + 1) : TwoB i1 w0 (fun j => if j = i then true else L j) (upd xs i v) W' := by
  refine ⟨h.1.trans hE, fun a b => ?_⟩
  dsimp only at a b
  rw [if_neg (fun e => h1 e.symm)] at a
  rw [if_neg (fun e => h2 e.symm)] at b
  rw [show upd xs i v i1 = xs i1 from if_neg (fun e => h1 e.symm), show upd xs i v (i1 + 1) = xs (i1 + 1) from if_neg (fun e => h2 e.symm)]
  exact h.2 a b
theorem TwoB.store {g : Nat} (h : TwoB i1 w0 L xs W) (hc : Chg (fun k => k = g) W W') (hg : w0.heap.size ≤ g) (h1 : i ≠ i1) (h2 : i ≠ i1 + 1) : TwoB i1 w0 (fun j => if j = i then true else L j) (upd xs i v) W' := by
  refine ⟨h.1.trans' hc (fun _ _ h => h) (fun k hk e => by omega), fun a b => ?_⟩
  dsimp only at a b
  rw [if_neg (fun e => h1 e.symm)] at a
  rw [if_neg (fun e => h2 e.symm)] at b
  rw [show upd xs i v i1 = xs i1 from if_neg (fun e => h1 e.symm), show upd xs i v (i1 + 1) = xs (i1 + 1) from if_neg (fun e => h2 e.symm)]
  exact h.2 a b
theorem TwoB.first (h : TwoB i1 w0 L xs W) (hE : Ext W W') (hf : L (i1 + 1) = true → xs (i1 + 1) ≠ v) : TwoB i1 w0 (fun j => if j = i1 then true else L j) (upd xs i1 v) W' := by
  refine ⟨h.1.trans hE, fun _ b => ?_⟩
  dsimp only at b
  rw [if_neg (by omega)] at b
  rw [show upd xs i1 v i1 = v from if_pos rfl, show upd xs i1 v (i1 + 1) = xs (i1 + 1) from if_neg (by omega)]
  exact (hf b).symm
theorem TwoB.second (h : TwoB i1 w0 L xs W) (hE : Ext W W') (hf : L i1 = true → xs i1 ≠ v) : TwoB i1 w0 (fun j => if j = i1 + 1 then true else L j) (upd xs (i1 + 1) v) W' := by
  refine ⟨h.1.trans hE, fun a _ => ?_⟩
  dsimp only at a
  rw [if_neg (by omega)] at a
  rw [show upd xs (i1 + 1) v (i1 + 1) = v from if_pos rfl, show upd xs (i1 + 1) v i1 = xs i1 from if_neg (by omega)]
  exact hf a
end

theorem wp_loadM {P : Program} {o : Oper} {a : Act} {w : World} {K : Act → World → Prop} {Q : Exit → Act → World → Prop} {ty : TypeId} {x : Operand} (ho : o.op = .load ty x) {n : Nat} (Wd : Wide P ty n)
    {g off : Nat} (hx : a.eval x = .pointer (some ⟨g, off, none⟩)) {cs : List Value} (hB : w.rangeAt g off cs) (hn : cs.length = n) (h : K (a.put o.dst (.agg cs.toArray)) w) : o.wp P a w K Q := by
  obtain ⟨d, hu, hd⟩ := Wd.und
  exact wp_load_mid ty x ho g off hx cs d hB hu hd (by rw [hn]; exact Wd.info) h

end Go.Proofs.YtoefmncdloffaaaDoor
