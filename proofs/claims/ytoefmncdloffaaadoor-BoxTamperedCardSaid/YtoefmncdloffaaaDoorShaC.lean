
/-
  slices.Clone of bytes.
-/
import Derived.Test.YtoefmncdloffaaaDoorShaB
namespace Go.Proofs.YtoefmncdloffaaaDoor
open Go.RowKit

theorem AllOne.u8 (l : List UInt8) : AllOne (l.map u8v) := AllOne.map (fun _ => rfl) l

set_option maxHeartbeats 400000 in
theorem clone_any (v : Value) (l : List UInt8) (w : World) (h : Reads w 1 v l.length (l.map u8v)) (hn : l.length ≤ 1000000000) :
    Calls Tryd.prog 133 #[v] w fun e w' => ∃ v', e = .returned v' ∧ w'.ownsRow w.heap.size 5 1 v' l.length (l.map u8v) ∧ Ext w w' := by
  have HH := hide h
  obtain ⟨hl, A, c, rfl, _, _, hp⟩ := h
  rcases A with _ | a
  · have h0 : l = [] := by
      cases l with
      | nil => rfl
      | cons x l =>
        obtain ⟨b, o, e, _⟩ := hp (by simp)
        cases e
    subst h0
    clear hl hp
    simp only [List.length_nil]
    have hnil := fun w => Lib.run_eql_slice_nil (P := Tryd.prog) w 29 5 none 0 c 0 0 Tryd.underlying29
    go_enter Tryd.func133, Tryd.ntmps133
    go_wp2
    go_ret
    exact ⟨_, rfl, World.ownsRow_nil _ _ _ _, Ext.refl _⟩
  · clear hl hp
    have hnil := fun w => Lib.run_eql_slice_nil (P := Tryd.prog) w 29 5 (some a) l.length c 0 0 Tryd.underlying29
    go_enter Tryd.func133, Tryd.ntmps133
    go_wp2_with (at_builtin; refine wpList_app rfl rfl u8_row rfl (own_empty _ w.heap.size _ _ (Nat.le_refl _)) rfl ((unhide HH).ext ((Ext.refl w).alloc _)) (AllOne.u8 l) (by omega) (by simp) ?_; intro A' c' w2 ho hc hv)
    have HQ := hide (And.intro ho (And.intro hc hv))
    clear ho hc hv
    go_wp2
    go_ret
    obtain ⟨ho, hc, hv⟩ := unhide HQ
    refine ⟨_, rfl, by simpa using ho, ?_⟩
    exact ((Ext.refl w).alloc (.cells #[] 5)).trans' hc (fun _ _ h => h) (fun i hi e => by cases e; exact absurd hi (Nat.lt_irrefl _))

end Go.Proofs.YtoefmncdloffaaaDoor
