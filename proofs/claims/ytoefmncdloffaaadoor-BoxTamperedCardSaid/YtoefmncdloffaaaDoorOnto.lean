
/-
  A slice of the call's own that is appended to again and again: what else may have changed.
-/
import Derived.Test.YtoefmncdloffaaaDoorBase
namespace Go.Proofs.YtoefmncdloffaaaDoor
open Go.RowKit

/-- From (w, v) to (w', v'): of the blocks that were there only v's own has changed; v' lies there or in a new block. -/
structure Onto (w : World) (v : Value) (w' : World) (v' : Value) : Prop where
  chg : Chg (fun k => v.ownBlock = some k) w w'
  own : v'.ownBlock = v.ownBlock ∨ ∃ g, v'.ownBlock = some g ∧ w.heap.size ≤ g
theorem Onto.refl (w : World) (v : Value) : Onto w v w v := ⟨Chg.refl _ _, .inl rfl⟩
theorem Onto.trans {a b c : World} {u v x : Value} (h : Onto a u b v) (k : Onto b v c x) : Onto a u c x := by
  refine ⟨h.chg.trans' k.chg (fun _ _ h => h) (fun i hi e => ?_), ?_⟩
  · rcases h.own with h1 | ⟨g, h1, h2⟩
    · rw [← h1]; exact e
    · rw [h1] at e; cases e; omega
  · rcases k.own with h1 | ⟨g, h1, h2⟩
    · rw [h1]; exact h.own
    · exact .inr ⟨g, h1, Nat.le_trans h.chg.size h2⟩
theorem Onto.ext {a b c : World} {u v : Value} (h : Onto a u b v) (k : Ext b c) : Onto a u c v := ⟨h.chg.ext k, h.own⟩
theorem Onto.of_ext {a b : World} {v : Value} (k : Ext a b) : Onto a v b v := ⟨k.chg, .inl rfl⟩
theorem Onto.app {w w' : World} {v v' : Value} (hc : Chg (fun k => v.ownBlock = some k) w w') (hv : v'.ownBlock = v.ownBlock ∨ ∃ g, v'.ownBlock = some g ∧ w.heap.size ≤ g ∧ g < w'.heap.size) : Onto w v w' v' :=
  ⟨hc, hv.imp id fun ⟨g, h1, h2, _⟩ => ⟨g, h1, h2⟩⟩
/-- A row whose block is new is no one else's. -/
theorem Onto.to_ext {w w' : World} {v' : Value} {n c : Nat} (h : Onto w (.slice none n c) w' v') : Ext w w' := h.chg.mono (fun k _ e => by simp [Value.ownBlock] at e)
theorem Onto.new_ext {w0 w w' : World} {v v' : Value} (h0 : Ext w0 w) (h : Onto w v w' v') (hv : ∀ g, v.ownBlock = some g → w0.heap.size ≤ g) : Ext w0 w' :=
  h0.trans' h.chg (fun _ _ h => h) (fun i hi e => by have := hv i e; omega)

end Go.Proofs.YtoefmncdloffaaaDoor
