/-
  Several texts in one file: each has its own heading below.
-/
import Derived.Test.YtgndblhpfjkfhaaDoorQbN
import Derived.Test.YtgndblhpfjkfhaaDoorQbO
import Derived.Test.YtgndblhpfjkfhaaDoorQbJ
import Derived.Test.YtgndblhpfjkfhaaDoorQbM
import Derived.Test.YtgndblhpfjkfhaaDoorQbE

/-
  Trees of one-time keys: Verify of the reference.
-/
namespace Go.Proofs.YtgndblhpfjkfhaaDoor
open Go.RowKit

set_option maxRecDepth 100000 in
set_option maxHeartbeats 4000000 in
theorem rtver_neg (ra ma : Array Value) (h index : Int) (cv pv : Value) (w : World) (hi : index < 0) :
    Calls Tryd.prog 79 #[.agg ra, .int .i64 h, .agg ma, .agg #[.int .i64 index, cv, pv]] w fun e w' => e = .returned (.bool false) ∧ Ext w w' := by
  have HS := hide (VI.start w ra ma index cv pv)
  have hd : decide (index < 0) = true := decide_eq_true hi
  have HF : Hid (∀ W, VI w ra ma index cv pv W → W.cell? ⟨w.heap.size + 1 + 1, 0, none⟩ = some (.int .i64 index)) := hide (fun W hW => hW.cells.1)
  clear hi
  go_enter Tryd.func79, Tryd.ntmps79
  go_upto_region 1 with fail
  refine wp_region_held_drew (S := fun W => VI w ra ma index cv pv W) (by kernel_rfl) ((unhide HS).to (Ext.refl _).drew) (fun hHeld => ?_)
  refine wpAnyH_take (i := 0) (oi := _) (v := ?_) rfl (by kernel_rfl) (by kernel_rfl) (by kernel_rfl) (fun _ _ _ h => h) (Or.inl ⟨by rfl, fun wz hSz => ?_⟩) (by assumption) ?_
  rotate_left
  · (first | (go_simp; done) | (go_simp; with_reducible rfl) | (obtain f1 := (unhide HF) wz hSz; clear hSz; first | (go_simp; done) | (go_simp; with_reducible rfl)))
  try simp only [Act.put, List.setIfInBounds_toArray, List.set_cons_zero, List.set_cons_succ, List.getElem_toArray, List.getElem_cons_zero]
  refine wpAnyH_take (i := 1) (oi := _) (v := ?_) rfl (by kernel_rfl) (by kernel_rfl) (by kernel_rfl) (fun _ _ _ h => h) (Or.inl ⟨by rfl, fun wz hSz => ?_⟩) (by assumption) ?_
  rotate_left
  · (first | (go_simp; done) | (go_simp; with_reducible rfl) | (obtain f1 := (unhide HF) wz hSz; clear hSz; first | (go_simp; done) | (go_simp; with_reducible rfl)))
  try simp only [Act.put, List.setIfInBounds_toArray, List.set_cons_zero, List.set_cons_succ, List.getElem_toArray, List.getElem_cons_succ, List.getElem_cons_zero]
  refine wpAnyH_take (i := 2) (oi := _) (v := ?_) rfl (by kernel_rfl) (by kernel_rfl) (by kernel_rfl) (fun _ _ _ h => h) (Or.inl ⟨by rfl, fun wz hSz => ?_⟩) (by assumption) ?_
  rotate_left
  · (first | (go_simp; done) | (go_simp; with_reducible rfl) | (obtain f1 := (unhide HF) wz hSz; clear hSz; first | (go_simp; done) | (go_simp; with_reducible rfl)))
  try simp only [Act.put, List.setIfInBounds_toArray, List.set_cons_zero, List.set_cons_succ, List.getElem_toArray, List.getElem_cons_succ, List.getElem_cons_zero]
  refine wpAnyH_take (i := 3) (oi := _) (v := ?_) rfl (by kernel_rfl) (by kernel_rfl) (by kernel_rfl) (fun _ _ _ h => h) (Or.inl ⟨by rfl, fun wz hSz => ?_⟩) (by assumption) ?_
  rotate_left
  · (first | (go_simp; done) | (go_simp; with_reducible rfl) | (obtain f1 := (unhide HF) wz hSz; clear hSz; first | (go_simp; done) | (go_simp; with_reducible rfl)))
  try simp only [Act.put, List.setIfInBounds_toArray, List.set_cons_zero, List.set_cons_succ, List.getElem_toArray, List.getElem_cons_succ, List.getElem_cons_zero]
  refine wpAnyH_take (i := 4) (oi := _) (v := undef) rfl (by kernel_rfl) (by kernel_rfl) (by kernel_rfl) (fun _ _ _ h => h) (Or.inr ⟨by rfl, rfl⟩) (by assumption) ?_
  try simp only [Act.put, List.setIfInBounds_toArray, List.set_cons_zero, List.set_cons_succ, List.getElem_toArray, List.getElem_cons_succ, List.getElem_cons_zero]
  refine wpAnyH_take (i := 5) (oi := _) (v := undef) rfl (by kernel_rfl) (by kernel_rfl) (by kernel_rfl) (fun _ _ _ h => h) (Or.inr ⟨by rfl, rfl⟩) (by assumption) ?_
  try simp only [Act.put, List.setIfInBounds_toArray, List.set_cons_zero, List.set_cons_succ, List.getElem_toArray, List.getElem_cons_succ, List.getElem_cons_zero]
  refine wpAnyH_take (i := 6) (oi := _) (v := undef) rfl (by kernel_rfl) (by kernel_rfl) (by kernel_rfl) (fun _ _ _ h => h) (Or.inr ⟨by rfl, rfl⟩) (by assumption) ?_
  try simp only [Act.put, List.setIfInBounds_toArray, List.set_cons_zero, List.set_cons_succ, List.getElem_toArray, List.getElem_cons_succ, List.getElem_cons_zero]
  refine wpAnyH_take (i := 7) (oi := _) (v := undef) rfl (by kernel_rfl) (by kernel_rfl) (by kernel_rfl) (fun _ _ _ h => h) (Or.inr ⟨by rfl, rfl⟩) (by assumption) ?_
  try simp only [Act.put, List.setIfInBounds_toArray, List.set_cons_zero, List.set_cons_succ, List.getElem_toArray, List.getElem_cons_succ, List.getElem_cons_zero]
  refine wpAnyH_take (i := 8) (oi := _) (v := undef) rfl (by kernel_rfl) (by kernel_rfl) (by kernel_rfl) (fun _ _ _ h => h) (Or.inr ⟨by rfl, rfl⟩) (by assumption) ?_
  try simp only [Act.put, List.setIfInBounds_toArray, List.set_cons_zero, List.set_cons_succ, List.getElem_toArray, List.getElem_cons_succ, List.getElem_cons_zero]
  refine wpAnyH_take (i := 9) (oi := _) (v := ?_) rfl (by kernel_rfl) (by kernel_rfl) (by kernel_rfl) (fun _ _ _ h => h) (Or.inl ⟨by rfl, fun wz hSz => ?_⟩) (by assumption) ?_
  rotate_left
  · (first | (go_simp; done) | (go_simp; with_reducible rfl) | (obtain f1 := (unhide HF) wz hSz; clear hSz; first | (go_simp; done) | (go_simp; with_reducible rfl)))
  try simp only [Act.put, List.setIfInBounds_toArray, List.set_cons_zero, List.set_cons_succ, List.getElem_toArray, List.getElem_cons_succ, List.getElem_cons_zero]
  refine wpAnyH_done (by kernel_rfl) ?_ _
  have H9 := hide hHeld.ext
  clear hHeld
  go_wp2
  go_ret
  exact ⟨rfl, unhide H9⟩
set_option maxRecDepth 100000 in
set_option maxHeartbeats 4000000 in
theorem rtver_height (ra ma : Array Value) (h index : Int) (cv pv : Value) (w : World) (hh : ¬ okH h) (h0 : 0 ≤ index) :
    Calls Tryd.prog 79 #[.agg ra, .int .i64 h, .agg ma, .agg #[.int .i64 index, cv, pv]] w fun e w' => e = .returned (.bool false) ∧ Ext w w' := by
  have HV := hide (fun W => many_no h W hh)
  have HS := hide (VI.start w ra ma index cv pv)
  have hd : decide (index < 0) = false := decide_eq_false (by omega)
  have hd2 : decide (0 ≤ index) = true := decide_eq_true h0
  have HF : Hid (∀ W, VI w ra ma index cv pv W → W.cell? ⟨w.heap.size + 1 + 1, 0, none⟩ = some (.int .i64 index)) := hide (fun W hW => hW.cells.1)
  clear hh
  go_enter Tryd.func79, Tryd.ntmps79
  go_upto_region 1 with fail
  refine wp_region_held_drew (S := fun W => VI w ra ma index cv pv W) (by kernel_rfl) ((unhide HS).to (Ext.refl _).drew) (fun hHeld => ?_)
  refine wpAnyH_take (i := 0) (oi := _) (v := ?_) rfl (by kernel_rfl) (by kernel_rfl) (by kernel_rfl) (fun _ _ _ h => h) (Or.inl ⟨by rfl, fun wz hSz => ?_⟩) (by assumption) ?_
  rotate_left
  · (first | (go_simp; done) | (go_simp; with_reducible rfl) | (obtain f1 := (unhide HF) wz hSz; clear hSz; first | (go_simp; done) | (go_simp; with_reducible rfl)))
  try simp only [Act.put, List.setIfInBounds_toArray, List.set_cons_zero, List.set_cons_succ, List.getElem_toArray, List.getElem_cons_zero]
  refine wpAnyH_take (i := 1) (oi := _) (v := ?_) rfl (by kernel_rfl) (by kernel_rfl) (by kernel_rfl) (fun _ _ _ h => h) (Or.inl ⟨by rfl, fun wz hSz => ?_⟩) (by assumption) ?_
  rotate_left
  · (first | (go_simp; done) | (go_simp; with_reducible rfl) | (obtain f1 := (unhide HF) wz hSz; clear hSz; first | (go_simp; done) | (go_simp; with_reducible rfl)))
  try simp only [Act.put, List.setIfInBounds_toArray, List.set_cons_zero, List.set_cons_succ, List.getElem_toArray, List.getElem_cons_succ, List.getElem_cons_zero]
  refine wpAnyH_take (i := 2) (oi := _) (v := ?_) rfl (by kernel_rfl) (by kernel_rfl) (by kernel_rfl) (fun _ _ _ h => h) (Or.inl ⟨by rfl, fun wz hSz => ?_⟩) (by assumption) ?_
  rotate_left
  · (first | (go_simp; done) | (go_simp; with_reducible rfl) | (obtain f1 := (unhide HF) wz hSz; clear hSz; first | (go_simp; done) | (go_simp; with_reducible rfl)))
  try simp only [Act.put, List.setIfInBounds_toArray, List.set_cons_zero, List.set_cons_succ, List.getElem_toArray, List.getElem_cons_succ, List.getElem_cons_zero]
  refine wpAnyH_take (i := 3) (oi := _) (v := ?_) rfl (by kernel_rfl) (by kernel_rfl) (by kernel_rfl) (fun _ _ _ h => h) (Or.inl ⟨by rfl, fun wz hSz => ?_⟩) (by assumption) ?_
  rotate_left
  · (first | (go_simp; done) | (go_simp; with_reducible rfl) | (obtain f1 := (unhide HF) wz hSz; clear hSz; first | (go_simp; done) | (go_simp; with_reducible rfl)))
  try simp only [Act.put, List.setIfInBounds_toArray, List.set_cons_zero, List.set_cons_succ, List.getElem_toArray, List.getElem_cons_succ, List.getElem_cons_zero]
  refine wpAnyH_take (i := 4) (oi := _) (v := ?_) rfl (by kernel_rfl) (by kernel_rfl) (by kernel_rfl) (fun _ _ _ h => h) (Or.inl ⟨by rfl, fun wz hSz => ?_⟩) (by assumption) ?_
  rotate_left
  · (first | (go_simp; done) | (go_simp; with_reducible rfl) | (obtain f1 := (unhide HF) wz hSz; clear hSz; first | (go_simp; done) | (go_simp; with_reducible rfl)))
  try simp only [Act.put, List.setIfInBounds_toArray, List.set_cons_zero, List.set_cons_succ, List.getElem_toArray, List.getElem_cons_succ, List.getElem_cons_zero]
  refine wpAnyH_take (i := 5) (oi := _) (v := ?_) rfl (by kernel_rfl) (by kernel_rfl) (by kernel_rfl) (fun _ _ _ h => h) (Or.inl ⟨by rfl, fun wz hSz => ?_⟩) (by assumption) ?_
  rotate_left
  · (first | (go_simp; done) | (go_simp; with_reducible rfl) | (obtain f1 := (unhide HF) wz hSz; clear hSz; first | (go_simp; done) | (go_simp; with_reducible rfl)))
  try simp only [Act.put, List.setIfInBounds_toArray, List.set_cons_zero, List.set_cons_succ, List.getElem_toArray, List.getElem_cons_succ, List.getElem_cons_zero]
  refine wpAnyH_take (i := 6) (oi := _) (v := ?_) rfl (by kernel_rfl) (by kernel_rfl) (by kernel_rfl) (fun _ _ _ h => h) (Or.inl ⟨by rfl, fun wz hSz => ?_⟩) (by assumption) ?_
  rotate_left
  · (first | (go_simp; done) | (go_simp; with_reducible rfl) | (obtain f1 := (unhide HF) wz hSz; clear hSz; first | (go_simp; done) | (go_simp; with_reducible rfl)))
  try simp only [Act.put, List.setIfInBounds_toArray, List.set_cons_zero, List.set_cons_succ, List.getElem_toArray, List.getElem_cons_succ, List.getElem_cons_zero]
  refine wpAnyH_ready (rs := [7]) (by kernel_rfl) (by simp) (AllReadyH.cons (o := _) rfl (fun K hK => ?_) AllReadyH.nil)
  try go_simp
  (refine (unhide HV _).mono ?_; rintro e w3 ⟨rfl, rfl⟩; have hS := hHeld; clear hHeld)
  refine hK.out _ _ ?_ (fun hHeld => ?_)
  · exact hS
  clear hK K
  try simp only [Act.put, List.setIfInBounds_toArray, List.set_cons_zero, List.set_cons_succ, List.getElem_toArray, List.getElem_cons_succ, List.getElem_cons_zero]
  refine wpAnyH_take (i := 8) (oi := _) (v := ?_) rfl (by kernel_rfl) (by kernel_rfl) (by kernel_rfl) (fun _ _ _ h => h) (Or.inl ⟨by rfl, fun wz hSz => ?_⟩) (by assumption) ?_
  rotate_left
  · (first | (go_simp; done) | (go_simp; with_reducible rfl) | (obtain f1 := (unhide HF) wz hSz; clear hSz; first | (go_simp; done) | (go_simp; with_reducible rfl)))
  try simp only [Act.put, List.setIfInBounds_toArray, List.set_cons_zero, List.set_cons_succ, List.getElem_toArray, List.getElem_cons_succ, List.getElem_cons_zero]
  refine wpAnyH_take (i := 9) (oi := _) (v := ?_) rfl (by kernel_rfl) (by kernel_rfl) (by kernel_rfl) (fun _ _ _ h => h) (Or.inl ⟨by rfl, fun wz hSz => ?_⟩) (by assumption) ?_
  rotate_left
  · (first | (go_simp; done) | (go_simp; with_reducible rfl) | (obtain f1 := (unhide HF) wz hSz; clear hSz; first | (go_simp; done) | (go_simp; with_reducible rfl)))
  try simp only [Act.put, List.setIfInBounds_toArray, List.set_cons_zero, List.set_cons_succ, List.getElem_toArray, List.getElem_cons_succ, List.getElem_cons_zero]
  refine wpAnyH_done (by kernel_rfl) ?_ _
  have H9 := hide hHeld.ext
  clear hHeld
  go_wp2
  go_ret
  exact ⟨rfl, unhide H9⟩
set_option maxRecDepth 100000 in
set_option maxHeartbeats 4000000 in
theorem rtver_big (ra ma : Array Value) (h n : Nat) (hn : n = 2 ^ h) (hh : h ≤ 4) (index : Int) (cv pv : Value) (w : World) (hi : (n : Int) ≤ index) :
    Calls Tryd.prog 79 #[.agg ra, .int .i64 (h : Int), .agg ma, .agg #[.int .i64 index, cv, pv]] w fun e w' => e = .returned (.bool false) ∧ Ext w w' := by
  have HV := hide (fun W => many_yes h n hn hh W)
  have HS := hide (VI.start w ra ma index cv pv)
  have hd : decide (index < 0) = false := decide_eq_false (by omega)
  have hd2 : decide ((n : Int) ≤ index) = true := decide_eq_true hi
  have HF : Hid (∀ W, VI w ra ma index cv pv W → W.cell? ⟨w.heap.size + 1 + 1, 0, none⟩ = some (.int .i64 index)) := hide (fun W hW => hW.cells.1)
  clear hn hi
  go_enter Tryd.func79, Tryd.ntmps79
  go_upto_region 1 with fail
  refine wp_region_held_drew (S := fun W => VI w ra ma index cv pv W) (by kernel_rfl) ((unhide HS).to (Ext.refl _).drew) (fun hHeld => ?_)
  refine wpAnyH_take (i := 0) (oi := _) (v := ?_) rfl (by kernel_rfl) (by kernel_rfl) (by kernel_rfl) (fun _ _ _ h => h) (Or.inl ⟨by rfl, fun wz hSz => ?_⟩) (by assumption) ?_
  rotate_left
  · (first | (go_simp; done) | (go_simp; with_reducible rfl) | (obtain f1 := (unhide HF) wz hSz; clear hSz; first | (go_simp; done) | (go_simp; with_reducible rfl)))
  try simp only [Act.put, List.setIfInBounds_toArray, List.set_cons_zero, List.set_cons_succ, List.getElem_toArray, List.getElem_cons_zero]
  refine wpAnyH_take (i := 1) (oi := _) (v := ?_) rfl (by kernel_rfl) (by kernel_rfl) (by kernel_rfl) (fun _ _ _ h => h) (Or.inl ⟨by rfl, fun wz hSz => ?_⟩) (by assumption) ?_
  rotate_left
  · (first | (go_simp; done) | (go_simp; with_reducible rfl) | (obtain f1 := (unhide HF) wz hSz; clear hSz; first | (go_simp; done) | (go_simp; with_reducible rfl)))
  try simp only [Act.put, List.setIfInBounds_toArray, List.set_cons_zero, List.set_cons_succ, List.getElem_toArray, List.getElem_cons_succ, List.getElem_cons_zero]
  refine wpAnyH_take (i := 2) (oi := _) (v := ?_) rfl (by kernel_rfl) (by kernel_rfl) (by kernel_rfl) (fun _ _ _ h => h) (Or.inl ⟨by rfl, fun wz hSz => ?_⟩) (by assumption) ?_
  rotate_left
  · (first | (go_simp; done) | (go_simp; with_reducible rfl) | (obtain f1 := (unhide HF) wz hSz; clear hSz; first | (go_simp; done) | (go_simp; with_reducible rfl)))
  try simp only [Act.put, List.setIfInBounds_toArray, List.set_cons_zero, List.set_cons_succ, List.getElem_toArray, List.getElem_cons_succ, List.getElem_cons_zero]
  refine wpAnyH_take (i := 3) (oi := _) (v := ?_) rfl (by kernel_rfl) (by kernel_rfl) (by kernel_rfl) (fun _ _ _ h => h) (Or.inl ⟨by rfl, fun wz hSz => ?_⟩) (by assumption) ?_
  rotate_left
  · (first | (go_simp; done) | (go_simp; with_reducible rfl) | (obtain f1 := (unhide HF) wz hSz; clear hSz; first | (go_simp; done) | (go_simp; with_reducible rfl)))
  try simp only [Act.put, List.setIfInBounds_toArray, List.set_cons_zero, List.set_cons_succ, List.getElem_toArray, List.getElem_cons_succ, List.getElem_cons_zero]
  refine wpAnyH_take (i := 4) (oi := _) (v := ?_) rfl (by kernel_rfl) (by kernel_rfl) (by kernel_rfl) (fun _ _ _ h => h) (Or.inl ⟨by rfl, fun wz hSz => ?_⟩) (by assumption) ?_
  rotate_left
  · (first | (go_simp; done) | (go_simp; with_reducible rfl) | (obtain f1 := (unhide HF) wz hSz; clear hSz; first | (go_simp; done) | (go_simp; with_reducible rfl)))
  try simp only [Act.put, List.setIfInBounds_toArray, List.set_cons_zero, List.set_cons_succ, List.getElem_toArray, List.getElem_cons_succ, List.getElem_cons_zero]
  refine wpAnyH_take (i := 5) (oi := _) (v := ?_) rfl (by kernel_rfl) (by kernel_rfl) (by kernel_rfl) (fun _ _ _ h => h) (Or.inl ⟨by rfl, fun wz hSz => ?_⟩) (by assumption) ?_
  rotate_left
  · (first | (go_simp; done) | (go_simp; with_reducible rfl) | (obtain f1 := (unhide HF) wz hSz; clear hSz; first | (go_simp; done) | (go_simp; with_reducible rfl)))
  try simp only [Act.put, List.setIfInBounds_toArray, List.set_cons_zero, List.set_cons_succ, List.getElem_toArray, List.getElem_cons_succ, List.getElem_cons_zero]
  refine wpAnyH_take (i := 6) (oi := _) (v := ?_) rfl (by kernel_rfl) (by kernel_rfl) (by kernel_rfl) (fun _ _ _ h => h) (Or.inl ⟨by rfl, fun wz hSz => ?_⟩) (by assumption) ?_
  rotate_left
  · (first | (go_simp; done) | (go_simp; with_reducible rfl) | (obtain f1 := (unhide HF) wz hSz; clear hSz; first | (go_simp; done) | (go_simp; with_reducible rfl)))
  try simp only [Act.put, List.setIfInBounds_toArray, List.set_cons_zero, List.set_cons_succ, List.getElem_toArray, List.getElem_cons_succ, List.getElem_cons_zero]
  refine wpAnyH_ready (rs := [7]) (by kernel_rfl) (by simp) (AllReadyH.cons (o := _) rfl (fun K hK => ?_) AllReadyH.nil)
  try go_simp
  (refine (unhide HV _).mono ?_; rintro e w3 ⟨rfl, rfl⟩; have hS := hHeld; clear hHeld)
  refine hK.out _ _ ?_ (fun hHeld => ?_)
  · exact hS
  clear hK K
  try simp only [Act.put, List.setIfInBounds_toArray, List.set_cons_zero, List.set_cons_succ, List.getElem_toArray, List.getElem_cons_succ, List.getElem_cons_zero]
  refine wpAnyH_take (i := 8) (oi := _) (v := ?_) rfl (by kernel_rfl) (by kernel_rfl) (by kernel_rfl) (fun _ _ _ h => h) (Or.inl ⟨by rfl, fun wz hSz => ?_⟩) (by assumption) ?_
  rotate_left
  · (first | (go_simp; done) | (go_simp; with_reducible rfl) | (obtain f1 := (unhide HF) wz hSz; clear hSz; first | (go_simp; done) | (go_simp; with_reducible rfl)))
  try simp only [Act.put, List.setIfInBounds_toArray, List.set_cons_zero, List.set_cons_succ, List.getElem_toArray, List.getElem_cons_succ, List.getElem_cons_zero]
  refine wpAnyH_take (i := 9) (oi := _) (v := ?_) rfl (by kernel_rfl) (by kernel_rfl) (by kernel_rfl) (fun _ _ _ h => h) (Or.inl ⟨by rfl, fun wz hSz => ?_⟩) (by assumption) ?_
  rotate_left
  · (first | (go_simp; done) | (go_simp; with_reducible rfl) | (obtain f1 := (unhide HF) wz hSz; clear hSz; first | (go_simp; done) | (go_simp; with_reducible rfl)))
  try simp only [Act.put, List.setIfInBounds_toArray, List.set_cons_zero, List.set_cons_succ, List.getElem_toArray, List.getElem_cons_succ, List.getElem_cons_zero]
  refine wpAnyH_done (by kernel_rfl) ?_ _
  have H9 := hide hHeld.ext
  clear hHeld
  go_wp2
  go_ret
  exact ⟨rfl, unhide H9⟩
set_option maxRecDepth 100000 in
set_option maxHeartbeats 4000000 in
theorem rtver_chain (root msg : List UInt8) (h n : Nat) (hn : n = 2 ^ h) (hh : h ≤ 4) (i : Nat) (hi : i < n) (hm : msg.length = 16) (chain : List (List UInt8)) (cv pv : Value) (w : World) (hDc : Digs w cv chain) (hc : ¬ chain.length = 68) :
    Calls Tryd.prog 79 #[.agg (root.map u8v).toArray, .int .i64 (h : Int), .agg (msg.map u8v).toArray, .agg #[.int .i64 (i : Int), cv, pv]] w fun e w' => e = .returned (.bool false) ∧ Ext w w' := by
  have HR := hide (fun W (hE : Ext w W) => rrecover_no msg chain cv W hc (hDc.ext hE))
  obtain ⟨ra, hra⟩ : ∃ x, (root.map u8v).toArray = x := ⟨_, rfl⟩
  obtain ⟨ma, hma⟩ : ∃ x, (msg.map u8v).toArray = x := ⟨_, rfl⟩
  rw [hma] at HR
  rw [hra, hma]
  have HSZ := hide (show ma.size = 16 from by rw [← hma]; simpa using hm)
  have HV := hide (fun W => many_yes h n hn hh W)
  have HS := hide (VI.start w ra ma (i : Int) cv pv)
  have hd : decide ((i : Int) < 0) = false := decide_eq_false (by omega)
  have hd2 : decide ((n : Int) ≤ (i : Int)) = false := decide_eq_false (by omega)
  have hd3 : decide (n ≤ i) = false := decide_eq_false (by omega)
  have HF : Hid (∀ W, VI w ra ma (i : Int) cv pv W → W.cell? ⟨w.heap.size + 1 + 1, 0, none⟩ = some (.int .i64 (i : Int))) := hide (fun W hW => hW.cells.1)
  have HZ16 := hide (show (z16.map u8v).toArray.size = 16 ∧ (z16.map u8v).toArray.all (·.oneCell') = true from ⟨rfl, bytes_one _⟩)
  obtain ⟨za, hza⟩ : ∃ x, (z16.map u8v).toArray = x := ⟨_, rfl⟩
  rw [hza] at HR HZ16
  clear hn hi hra hma hza hDc hc hm
  go_enter Tryd.func79, Tryd.ntmps79
  go_upto_region 1 with fail
  refine wp_region_held_drew (S := fun W => VI w ra ma (i : Int) cv pv W) (by kernel_rfl) ((unhide HS).to (Ext.refl _).drew) (fun hHeld => ?_)
  refine wpAnyH_take (i := 0) (oi := _) (v := ?_) rfl (by kernel_rfl) (by kernel_rfl) (by kernel_rfl) (fun _ _ _ h => h) (Or.inl ⟨by rfl, fun wz hSz => ?_⟩) (by assumption) ?_
  rotate_left
  · (first | (go_simp; done) | (go_simp; with_reducible rfl) | (obtain f1 := (unhide HF) wz hSz; clear hSz; first | (go_simp; done) | (go_simp; with_reducible rfl)))
  try simp only [Act.put, List.setIfInBounds_toArray, List.set_cons_zero, List.set_cons_succ, List.getElem_toArray, List.getElem_cons_zero]
  refine wpAnyH_take (i := 1) (oi := _) (v := ?_) rfl (by kernel_rfl) (by kernel_rfl) (by kernel_rfl) (fun _ _ _ h => h) (Or.inl ⟨by rfl, fun wz hSz => ?_⟩) (by assumption) ?_
  rotate_left
  · (first | (go_simp; done) | (go_simp; with_reducible rfl) | (obtain f1 := (unhide HF) wz hSz; clear hSz; first | (go_simp; done) | (go_simp; with_reducible rfl)))
  try simp only [Act.put, List.setIfInBounds_toArray, List.set_cons_zero, List.set_cons_succ, List.getElem_toArray, List.getElem_cons_succ, List.getElem_cons_zero]
  refine wpAnyH_take (i := 2) (oi := _) (v := ?_) rfl (by kernel_rfl) (by kernel_rfl) (by kernel_rfl) (fun _ _ _ h => h) (Or.inl ⟨by rfl, fun wz hSz => ?_⟩) (by assumption) ?_
  rotate_left
  · (first | (go_simp; done) | (go_simp; with_reducible rfl) | (obtain f1 := (unhide HF) wz hSz; clear hSz; first | (go_simp; done) | (go_simp; with_reducible rfl)))
  try simp only [Act.put, List.setIfInBounds_toArray, List.set_cons_zero, List.set_cons_succ, List.getElem_toArray, List.getElem_cons_succ, List.getElem_cons_zero]
  refine wpAnyH_take (i := 3) (oi := _) (v := ?_) rfl (by kernel_rfl) (by kernel_rfl) (by kernel_rfl) (fun _ _ _ h => h) (Or.inl ⟨by rfl, fun wz hSz => ?_⟩) (by assumption) ?_
  rotate_left
  · (first | (go_simp; done) | (go_simp; with_reducible rfl) | (obtain f1 := (unhide HF) wz hSz; clear hSz; first | (go_simp; done) | (go_simp; with_reducible rfl)))
  try simp only [Act.put, List.setIfInBounds_toArray, List.set_cons_zero, List.set_cons_succ, List.getElem_toArray, List.getElem_cons_succ, List.getElem_cons_zero]
  refine wpAnyH_take (i := 4) (oi := _) (v := ?_) rfl (by kernel_rfl) (by kernel_rfl) (by kernel_rfl) (fun _ _ _ h => h) (Or.inl ⟨by rfl, fun wz hSz => ?_⟩) (by assumption) ?_
  rotate_left
  · (first | (go_simp; done) | (go_simp; with_reducible rfl) | (obtain f1 := (unhide HF) wz hSz; clear hSz; first | (go_simp; done) | (go_simp; with_reducible rfl)))
  try simp only [Act.put, List.setIfInBounds_toArray, List.set_cons_zero, List.set_cons_succ, List.getElem_toArray, List.getElem_cons_succ, List.getElem_cons_zero]
  refine wpAnyH_take (i := 5) (oi := _) (v := ?_) rfl (by kernel_rfl) (by kernel_rfl) (by kernel_rfl) (fun _ _ _ h => h) (Or.inl ⟨by rfl, fun wz hSz => ?_⟩) (by assumption) ?_
  rotate_left
  · (first | (go_simp; done) | (go_simp; with_reducible rfl) | (obtain f1 := (unhide HF) wz hSz; clear hSz; first | (go_simp; done) | (go_simp; with_reducible rfl)))
  try simp only [Act.put, List.setIfInBounds_toArray, List.set_cons_zero, List.set_cons_succ, List.getElem_toArray, List.getElem_cons_succ, List.getElem_cons_zero]
  refine wpAnyH_take (i := 6) (oi := _) (v := ?_) rfl (by kernel_rfl) (by kernel_rfl) (by kernel_rfl) (fun _ _ _ h => h) (Or.inl ⟨by rfl, fun wz hSz => ?_⟩) (by assumption) ?_
  rotate_left
  · (first | (go_simp; done) | (go_simp; with_reducible rfl) | (obtain f1 := (unhide HF) wz hSz; clear hSz; first | (go_simp; done) | (go_simp; with_reducible rfl)))
  try simp only [Act.put, List.setIfInBounds_toArray, List.set_cons_zero, List.set_cons_succ, List.getElem_toArray, List.getElem_cons_succ, List.getElem_cons_zero]
  refine wpAnyH_ready (rs := [7]) (by kernel_rfl) (by simp) (AllReadyH.cons (o := _) rfl (fun K hK => ?_) AllReadyH.nil)
  try go_simp
  (refine (unhide HV _).mono ?_; rintro e w3 ⟨rfl, rfl⟩; have hS := hHeld; clear hHeld)
  refine hK.out _ _ ?_ (fun hHeld => ?_)
  · exact hS
  clear hK K
  try simp only [Act.put, List.setIfInBounds_toArray, List.set_cons_zero, List.set_cons_succ, List.getElem_toArray, List.getElem_cons_succ, List.getElem_cons_zero]
  refine wpAnyH_take (i := 8) (oi := _) (v := ?_) rfl (by kernel_rfl) (by kernel_rfl) (by kernel_rfl) (fun _ _ _ h => h) (Or.inl ⟨by rfl, fun wz hSz => ?_⟩) (by assumption) ?_
  rotate_left
  · (first | (go_simp; done) | (go_simp; with_reducible rfl) | (obtain f1 := (unhide HF) wz hSz; clear hSz; first | (go_simp; done) | (go_simp; with_reducible rfl)))
  try simp only [Act.put, List.setIfInBounds_toArray, List.set_cons_zero, List.set_cons_succ, List.getElem_toArray, List.getElem_cons_succ, List.getElem_cons_zero]
  refine wpAnyH_take (i := 9) (oi := _) (v := ?_) rfl (by kernel_rfl) (by kernel_rfl) (by kernel_rfl) (fun _ _ _ h => h) (Or.inl ⟨by rfl, fun wz hSz => ?_⟩) (by assumption) ?_
  rotate_left
  · (first | (go_simp; done) | (go_simp; with_reducible rfl) | (obtain f1 := (unhide HF) wz hSz; clear hSz; first | (go_simp; done) | (go_simp; with_reducible rfl)))
  try simp only [Act.put, List.setIfInBounds_toArray, List.set_cons_zero, List.set_cons_succ, List.getElem_toArray, List.getElem_cons_succ, List.getElem_cons_zero]
  refine wpAnyH_done (by kernel_rfl) ?_ _
  have H1 := hide hHeld
  obtain ⟨f0, f1, f2⟩ := hHeld.cells
  clear hHeld
  go_wp2_with (first
    | (refine wpList_loadB (ty := 23) (t := 23) (x := .tmp 6) rfl rfl digest_wide rfl (cs := ma) (unhide H1).msg (unhide HSZ) ?_)
    | (go_at_call 108; refine (unhide HR _ (unhide H1).ext).mono ?_; rintro e w5 ⟨rfl, hE5⟩; have H5 := hide ((unhide H1).to hE5); clear hE5)
    | (refine wpList_storeB (ty := 23) (t := 23) (x := .tmp 9) (y := .tmp 26) rfl rfl digest_wide rfl rfl (Blk.new w5 _ _) rfl (unhide HZ16).1 (unhide HZ16).2 ?_; intro w7 hb7 hc7 hz7; have H7 := hide ((unhide H5).to (made_ext1 hc7)); clear hb7 hc7 hz7))
  go_ret
  exact ⟨rfl, (unhide H7).ext⟩
set_option maxRecDepth 100000 in
set_option maxHeartbeats 8000000 in
theorem rtver_in (root msg : List UInt8) (h n : Nat) (hn : n = 2 ^ h) (hh : h ≤ 4) (i : Nat) (hi : i < n) (chain path : List (List UInt8)) (cv pv : Value) (w : World) (hr : root.length = 16) (hm : msg.length = 16) (hDc : Digs w cv chain) (hDp : Digs w pv path) (hc : chain.length = 68) :
    Calls Tryd.prog 79 #[.agg (root.map u8v).toArray, .int .i64 (h : Int), .agg (msg.map u8v).toArray, .agg #[.int .i64 (i : Int), cv, pv]] w fun e w' => e = .returned (.bool (verifyS root n i (recoverS msg (chainAt chain)) path)) ∧ Ext w w' := by
  have hn16 : n ≤ 16 := by subst hn; exact pow_le16 h h (Nat.le_refl _) hh
  have hkl : (recoverS msg (chainAt chain)).length = 16 := digestS_length _ _
  have HR := hide (fun W (hE : Ext w W) => rrecover_yes msg chain cv W hm hc (hDc.ext hE))
  have HMV := hide (fun W (hE : Ext w W) => rmverify_in root (recoverS msg (chainAt chain)) n i path pv W hr hkl (by omega) (hDp.ext hE) hi)
  obtain ⟨res, hres⟩ : ∃ x, verifyS root n i (recoverS msg (chainAt chain)) path = x := ⟨_, rfl⟩
  rw [hres] at HMV ⊢
  obtain ⟨key, hkey⟩ : ∃ x, recoverS msg (chainAt chain) = x := ⟨_, rfl⟩
  rw [hkey] at HR HMV hkl
  obtain ⟨ra, hra⟩ : ∃ x, (root.map u8v).toArray = x := ⟨_, rfl⟩
  obtain ⟨ma, hma⟩ : ∃ x, (msg.map u8v).toArray = x := ⟨_, rfl⟩
  obtain ⟨ka, hka⟩ : ∃ x, (key.map u8v).toArray = x := ⟨_, rfl⟩
  have HSZ := hide (show ma.size = 16 ∧ ra.size = 16 ∧ ka.size = 16 ∧ ka.all (·.oneCell') = true from by rw [← hma, ← hra, ← hka]; exact ⟨by simpa using hm, by simpa using hr, by simpa using hkl, bytes_one _⟩)
  rw [hma, hka] at HR
  rw [hra, hka] at HMV
  rw [hra, hma]
  have HV := hide (fun W => many_yes h n hn hh W)
  have HS := hide (VI.start w ra ma (i : Int) cv pv)
  have hd : decide ((i : Int) < 0) = false := decide_eq_false (by omega)
  have hd2 : decide ((n : Int) ≤ (i : Int)) = false := decide_eq_false (by omega)
  have hd3 : decide (n ≤ i) = false := decide_eq_false (by omega)
  have HF : Hid (∀ W, VI w ra ma (i : Int) cv pv W → W.cell? ⟨w.heap.size + 1 + 1, 0, none⟩ = some (.int .i64 (i : Int))) := hide (fun W hW => hW.cells.1)
  clear hn hi hra hma hka hkey hres hDc hDp hc hm hr hkl
  go_enter Tryd.func79, Tryd.ntmps79
  go_upto_region 1 with fail
  refine wp_region_held_drew (S := fun W => VI w ra ma (i : Int) cv pv W) (by kernel_rfl) ((unhide HS).to (Ext.refl _).drew) (fun hHeld => ?_)
  refine wpAnyH_take (i := 0) (oi := _) (v := ?_) rfl (by kernel_rfl) (by kernel_rfl) (by kernel_rfl) (fun _ _ _ h => h) (Or.inl ⟨by rfl, fun wz hSz => ?_⟩) (by assumption) ?_
  rotate_left
  · (first | (go_simp; done) | (go_simp; with_reducible rfl) | (obtain f1 := (unhide HF) wz hSz; clear hSz; first | (go_simp; done) | (go_simp; with_reducible rfl)))
  try simp only [Act.put, List.setIfInBounds_toArray, List.set_cons_zero, List.set_cons_succ, List.getElem_toArray, List.getElem_cons_zero]
  refine wpAnyH_take (i := 1) (oi := _) (v := ?_) rfl (by kernel_rfl) (by kernel_rfl) (by kernel_rfl) (fun _ _ _ h => h) (Or.inl ⟨by rfl, fun wz hSz => ?_⟩) (by assumption) ?_
  rotate_left
  · (first | (go_simp; done) | (go_simp; with_reducible rfl) | (obtain f1 := (unhide HF) wz hSz; clear hSz; first | (go_simp; done) | (go_simp; with_reducible rfl)))
  try simp only [Act.put, List.setIfInBounds_toArray, List.set_cons_zero, List.set_cons_succ, List.getElem_toArray, List.getElem_cons_succ, List.getElem_cons_zero]
  refine wpAnyH_take (i := 2) (oi := _) (v := ?_) rfl (by kernel_rfl) (by kernel_rfl) (by kernel_rfl) (fun _ _ _ h => h) (Or.inl ⟨by rfl, fun wz hSz => ?_⟩) (by assumption) ?_
  rotate_left
  · (first | (go_simp; done) | (go_simp; with_reducible rfl) | (obtain f1 := (unhide HF) wz hSz; clear hSz; first | (go_simp; done) | (go_simp; with_reducible rfl)))
  try simp only [Act.put, List.setIfInBounds_toArray, List.set_cons_zero, List.set_cons_succ, List.getElem_toArray, List.getElem_cons_succ, List.getElem_cons_zero]
  refine wpAnyH_take (i := 3) (oi := _) (v := ?_) rfl (by kernel_rfl) (by kernel_rfl) (by kernel_rfl) (fun _ _ _ h => h) (Or.inl ⟨by rfl, fun wz hSz => ?_⟩) (by assumption) ?_
  rotate_left
  · (first | (go_simp; done) | (go_simp; with_reducible rfl) | (obtain f1 := (unhide HF) wz hSz; clear hSz; first | (go_simp; done) | (go_simp; with_reducible rfl)))
  try simp only [Act.put, List.setIfInBounds_toArray, List.set_cons_zero, List.set_cons_succ, List.getElem_toArray, List.getElem_cons_succ, List.getElem_cons_zero]
  refine wpAnyH_take (i := 4) (oi := _) (v := ?_) rfl (by kernel_rfl) (by kernel_rfl) (by kernel_rfl) (fun _ _ _ h => h) (Or.inl ⟨by rfl, fun wz hSz => ?_⟩) (by assumption) ?_
  rotate_left
  · (first | (go_simp; done) | (go_simp; with_reducible rfl) | (obtain f1 := (unhide HF) wz hSz; clear hSz; first | (go_simp; done) | (go_simp; with_reducible rfl)))
  try simp only [Act.put, List.setIfInBounds_toArray, List.set_cons_zero, List.set_cons_succ, List.getElem_toArray, List.getElem_cons_succ, List.getElem_cons_zero]
  refine wpAnyH_take (i := 5) (oi := _) (v := ?_) rfl (by kernel_rfl) (by kernel_rfl) (by kernel_rfl) (fun _ _ _ h => h) (Or.inl ⟨by rfl, fun wz hSz => ?_⟩) (by assumption) ?_
  rotate_left
  · (first | (go_simp; done) | (go_simp; with_reducible rfl) | (obtain f1 := (unhide HF) wz hSz; clear hSz; first | (go_simp; done) | (go_simp; with_reducible rfl)))
  try simp only [Act.put, List.setIfInBounds_toArray, List.set_cons_zero, List.set_cons_succ, List.getElem_toArray, List.getElem_cons_succ, List.getElem_cons_zero]
  refine wpAnyH_take (i := 6) (oi := _) (v := ?_) rfl (by kernel_rfl) (by kernel_rfl) (by kernel_rfl) (fun _ _ _ h => h) (Or.inl ⟨by rfl, fun wz hSz => ?_⟩) (by assumption) ?_
  rotate_left
  · (first | (go_simp; done) | (go_simp; with_reducible rfl) | (obtain f1 := (unhide HF) wz hSz; clear hSz; first | (go_simp; done) | (go_simp; with_reducible rfl)))
  try simp only [Act.put, List.setIfInBounds_toArray, List.set_cons_zero, List.set_cons_succ, List.getElem_toArray, List.getElem_cons_succ, List.getElem_cons_zero]
  refine wpAnyH_ready (rs := [7]) (by kernel_rfl) (by simp) (AllReadyH.cons (o := _) rfl (fun K hK => ?_) AllReadyH.nil)
  try go_simp
  (refine (unhide HV _).mono ?_; rintro e w3 ⟨rfl, rfl⟩; have hS := hHeld; clear hHeld)
  refine hK.out _ _ ?_ (fun hHeld => ?_)
  · exact hS
  clear hK K
  try simp only [Act.put, List.setIfInBounds_toArray, List.set_cons_zero, List.set_cons_succ, List.getElem_toArray, List.getElem_cons_succ, List.getElem_cons_zero]
  refine wpAnyH_take (i := 8) (oi := _) (v := ?_) rfl (by kernel_rfl) (by kernel_rfl) (by kernel_rfl) (fun _ _ _ h => h) (Or.inl ⟨by rfl, fun wz hSz => ?_⟩) (by assumption) ?_
  rotate_left
  · (first | (go_simp; done) | (go_simp; with_reducible rfl) | (obtain f1 := (unhide HF) wz hSz; clear hSz; first | (go_simp; done) | (go_simp; with_reducible rfl)))
  try simp only [Act.put, List.setIfInBounds_toArray, List.set_cons_zero, List.set_cons_succ, List.getElem_toArray, List.getElem_cons_succ, List.getElem_cons_zero]
  refine wpAnyH_take (i := 9) (oi := _) (v := ?_) rfl (by kernel_rfl) (by kernel_rfl) (by kernel_rfl) (fun _ _ _ h => h) (Or.inl ⟨by rfl, fun wz hSz => ?_⟩) (by assumption) ?_
  rotate_left
  · (first | (go_simp; done) | (go_simp; with_reducible rfl) | (obtain f1 := (unhide HF) wz hSz; clear hSz; first | (go_simp; done) | (go_simp; with_reducible rfl)))
  try simp only [Act.put, List.setIfInBounds_toArray, List.set_cons_zero, List.set_cons_succ, List.getElem_toArray, List.getElem_cons_succ, List.getElem_cons_zero]
  refine wpAnyH_done (by kernel_rfl) ?_ _
  have H1 := hide hHeld
  obtain ⟨f0, f1, f2⟩ := hHeld.cells
  clear hHeld HF
  go_upto_region 6 with (first
    | (refine wpList_loadB (ty := 23) (t := 23) (x := .tmp 6) rfl rfl digest_wide rfl (cs := ma) (unhide H1).msg (unhide HSZ).1 ?_)
    | (go_at_call 108; refine (unhide HR _ (unhide H1).ext).mono ?_; rintro e w5 ⟨rfl, hE5⟩; have H5 := hide ((unhide H1).to hE5); clear hE5)
    | (refine wpList_storeB (ty := 23) (t := 23) (x := .tmp 9) (y := .tmp 26) rfl rfl digest_wide rfl rfl (Blk.new w5 _ _) rfl (unhide HSZ).2.2.1 (unhide HSZ).2.2.2 ?_; intro w7 hb7 hc7 hz7; have H7 := hide (And.intro ((unhide H5).to (made_ext1 hc7)) hb7); clear hb7 hc7 hz7))
  have HF : Hid (∀ W, VI w ra ma (i : Int) cv pv W ∧ Blk W w5.heap.size 23 ka → W.cell? ⟨w.heap.size + 1 + 1, 0, none⟩ = some (.int .i64 (i : Int)) ∧ W.cell? ⟨w.heap.size + 1 + 1, 2, none⟩ = some pv) := hide (fun W hW => ⟨hW.1.cells.1, hW.1.cells.2.2⟩)
  clear f0 f1 f2
  refine wp_region_held_drew (S := fun W => VI w ra ma (i : Int) cv pv W ∧ Blk W w5.heap.size 23 ka) (by kernel_rfl) ⟨(unhide H7).1.to (Ext.refl _).drew, (unhide H7).2.drew⟩ (fun hHeld => ?_)
  refine wpAnyH_take (i := 0) (oi := _) (v := _) rfl (by kernel_rfl) (by kernel_rfl) (by kernel_rfl) (fun _ _ _ h => h) (ylb digest_wide rfl (by rfl) rfl (unhide HSZ).2.1 (fun w' hw => hw.1.root)) (by assumption) ?_
  try simp only [Act.put, List.setIfInBounds_toArray, List.set_cons_zero, List.set_cons_succ, List.getElem_toArray, List.getElem_cons_zero]
  refine wpAnyH_take (i := 1) (oi := _) (v := ?_) rfl (by kernel_rfl) (by kernel_rfl) (by kernel_rfl) (fun _ _ _ h => h) (Or.inl ⟨by rfl, fun wz hSz => ?_⟩) (by assumption) ?_
  rotate_left
  · (first | (go_simp; done) | (go_simp; with_reducible rfl) | (obtain ⟨f1, f2⟩ := (unhide HF) wz hSz; clear hSz; first | (go_simp; done) | (go_simp; with_reducible rfl)))
  try simp only [Act.put, List.setIfInBounds_toArray, List.set_cons_zero, List.set_cons_succ, List.getElem_toArray, List.getElem_cons_succ, List.getElem_cons_zero]
  refine wpAnyH_take (i := 3) (oi := _) (v := ?_) rfl (by kernel_rfl) (by kernel_rfl) (by kernel_rfl) (fun _ _ _ h => h) (Or.inl ⟨by rfl, fun wz hSz => ?_⟩) (by assumption) ?_
  rotate_left
  · (first | (go_simp; done) | (go_simp; with_reducible rfl) | (obtain ⟨f1, f2⟩ := (unhide HF) wz hSz; clear hSz; first | (go_simp; done) | (go_simp; with_reducible rfl)))
  try simp only [Act.put, List.setIfInBounds_toArray, List.set_cons_zero, List.set_cons_succ, List.getElem_toArray, List.getElem_cons_succ, List.getElem_cons_zero]
  refine wpAnyH_take (i := 4) (oi := _) (v := ?_) rfl (by kernel_rfl) (by kernel_rfl) (by kernel_rfl) (fun _ _ _ h => h) (Or.inl ⟨by rfl, fun wz hSz => ?_⟩) (by assumption) ?_
  rotate_left
  · (first | (go_simp; done) | (go_simp; with_reducible rfl) | (obtain ⟨f1, f2⟩ := (unhide HF) wz hSz; clear hSz; first | (go_simp; done) | (go_simp; with_reducible rfl)))
  try simp only [Act.put, List.setIfInBounds_toArray, List.set_cons_zero, List.set_cons_succ, List.getElem_toArray, List.getElem_cons_succ, List.getElem_cons_zero]
  refine wpAnyH_take (i := 5) (oi := _) (v := _) rfl (by kernel_rfl) (by kernel_rfl) (by kernel_rfl) (fun _ _ _ h => h) (ylb digest_wide rfl (by rfl) rfl (unhide HSZ).2.2.1 (fun w' hw => hw.2)) (by assumption) ?_
  try simp only [Act.put, List.setIfInBounds_toArray, List.set_cons_zero, List.set_cons_succ, List.getElem_toArray, List.getElem_cons_succ, List.getElem_cons_zero]
  refine wpAnyH_take (i := 6) (oi := _) (v := ?_) rfl (by kernel_rfl) (by kernel_rfl) (by kernel_rfl) (fun _ _ _ h => h) (Or.inl ⟨by rfl, fun wz hSz => ?_⟩) (by assumption) ?_
  rotate_left
  · (first | (go_simp; done) | (go_simp; with_reducible rfl) | (obtain ⟨f1, f2⟩ := (unhide HF) wz hSz; clear hSz; first | (go_simp; done) | (go_simp; with_reducible rfl)))
  try simp only [Act.put, List.setIfInBounds_toArray, List.set_cons_zero, List.set_cons_succ, List.getElem_toArray, List.getElem_cons_succ, List.getElem_cons_zero]
  refine wpAnyH_take (i := 7) (oi := _) (v := ?_) rfl (by kernel_rfl) (by kernel_rfl) (by kernel_rfl) (fun _ _ _ h => h) (Or.inl ⟨by rfl, fun wz hSz => ?_⟩) (by assumption) ?_
  rotate_left
  · (first | (go_simp; done) | (go_simp; with_reducible rfl) | (obtain ⟨f1, f2⟩ := (unhide HF) wz hSz; clear hSz; first | (go_simp; done) | (go_simp; with_reducible rfl)))
  try simp only [Act.put, List.setIfInBounds_toArray, List.set_cons_zero, List.set_cons_succ, List.getElem_toArray, List.getElem_cons_succ, List.getElem_cons_zero]
  refine wpAnyH_ready (rs := [2]) (by kernel_rfl) (by simp) (AllReadyH.cons (o := _) rfl (fun K hK => ?_) AllReadyH.nil)
  try go_simp
  (refine (unhide HV _).mono ?_; rintro e w3 ⟨rfl, rfl⟩; have hS := hHeld; clear hHeld)
  refine hK.out _ _ ?_ (fun hHeld => ?_)
  · exact hS
  clear hK K
  try simp only [Act.put, List.setIfInBounds_toArray, List.set_cons_zero, List.set_cons_succ, List.getElem_toArray, List.getElem_cons_succ, List.getElem_cons_zero]
  refine wpAnyH_ready (rs := [8]) (by kernel_rfl) (by simp) (AllReadyH.cons (o := _) rfl (fun K hK => ?_) AllReadyH.nil)
  try go_simp
  (refine (unhide HMV _ hHeld.1.ext).mono ?_; rintro e w8 ⟨rfl, hE8⟩; have hS := And.intro (hHeld.1.to hE8) (hHeld.2.ext hE8); clear hHeld hE8)
  refine hK.out _ _ ?_ (fun hHeld => ?_)
  · exact hS
  clear hK K
  try simp only [Act.put, List.setIfInBounds_toArray, List.set_cons_zero, List.set_cons_succ, List.getElem_toArray, List.getElem_cons_succ, List.getElem_cons_zero]
  refine wpAnyH_take (i := 9) (oi := _) (v := ?_) rfl (by kernel_rfl) (by kernel_rfl) (by kernel_rfl) (fun _ _ _ h => h) (Or.inl ⟨by rfl, fun wz hSz => ?_⟩) (by assumption) ?_
  rotate_left
  · (first | (go_simp; done) | (go_simp; with_reducible rfl) | (obtain ⟨f1, f2⟩ := (unhide HF) wz hSz; clear hSz; first | (go_simp; done) | (go_simp; with_reducible rfl)))
  try simp only [Act.put, List.setIfInBounds_toArray, List.set_cons_zero, List.set_cons_succ, List.getElem_toArray, List.getElem_cons_succ, List.getElem_cons_zero]
  refine wpAnyH_done (by kernel_rfl) ?_ _
  have H9 := hide hHeld.1.ext
  clear hHeld
  go_wp2
  go_ret
  exact ⟨rfl, unhide H9⟩

end Go.Proofs.YtgndblhpfjkfhaaDoor

/-
  Package quorum by the abstract machine: what the contracts on trees of keys say.
-/
namespace Go.Proofs.YtgndblhpfjkfhaaDoor.Pv
open Go.RowKit

/-! ### Plain -/
structure Sig where
  index : Int
  chain : List (List UInt8)
  path : List (List UInt8)
  deriving Inhabited
structure Sgd where
  maker : Int
  sig : Sig
  deriving Inhabited
def sigPC (s : Sig) : List PC := [.lit (.int .i64 s.index), .sl 16 s.chain.length (digF s.chain), .sl 16 s.path.length (digF s.path)]
def sgdPC (s : Sgd) : List PC := .lit (.int .i64 s.maker) :: sigPC s.sig
def verS (r : List UInt8) (h : Int) (m : List UInt8) (s : Sig) : Bool :=
  decide (0 ≤ h ∧ h ≤ 4 ∧ 0 ≤ s.index ∧ s.index.toNat < 2 ^ h.toNat ∧ s.chain.length = 68) && verifyS r (2 ^ h.toNat) s.index.toNat (recoverS m (chainAt s.chain)) s.path
def rootT (seed : List UInt8) (h : Int) : List UInt8 × Int := if 0 ≤ h ∧ h ≤ 4 then (rootS (leavesS seed (2 ^ h.toNat)), 0) else (z16, 1)
def sgnT (seed : List UInt8) (h i : Int) (m : List UInt8) : Sig × Int :=
  if ¬ (0 ≤ h ∧ h ≤ 4) ∨ i < 0 then (⟨0, [], []⟩, 1) else if i.toNat < 2 ^ h.toNat then (⟨i, signS seed i m 68, proveS (leavesS seed (2 ^ h.toNat)) i.toNat⟩, 0) else (⟨0, [], []⟩, 17)
theorem verS_no {r m : List UInt8} {h : Int} {s : Sig} (hn : ¬ (0 ≤ h ∧ h ≤ 4 ∧ 0 ≤ s.index ∧ s.index.toNat < 2 ^ h.toNat ∧ s.chain.length = 68)) : verS r h m s = false := by
  unfold verS; rw [decide_eq_false hn]; rfl
theorem verS_yes {r m : List UInt8} {k j : Nat} {s : Sig} (hk : k ≤ 4) (hi : s.index = (j : Int)) (hj : j < 2 ^ k) (hc : s.chain.length = 68) : verS r (k : Int) m s = verifyS r (2 ^ k) j (recoverS m (chainAt s.chain)) s.path := by
  unfold verS
  rw [hi]
  simp only [Int.toNat_natCast]
  rw [decide_eq_true ⟨by omega, by omega, by omega, hj, hc⟩]
  rfl
theorem rootT_len (seed : List UInt8) (h : Int) : (rootT seed h).1.length = 16 := by
  unfold rootT
  split
  · exact rootS_length _
  · rfl
theorem tver_any (root msg : List UInt8) (h : Int) (s : Sig) (cv pv : Value) (w : World) (hM : ShaMem w) (hr : root.length = 16) (hm : msg.length = 16) (hDc : Digs w cv s.chain) (hDp : Digs w pv s.path) (hpl : s.path.length ≤ 1000) :
    Calls Tryd.prog 45 #[.agg (root.map u8v).toArray, .int .i64 h, .agg (msg.map u8v).toArray, .agg #[.int .i64 s.index, cv, pv]] w fun e w' => e = .returned (.bool (verS root h msg s)) ∧ Ext w w' := by
  have _ := hM
  have _ := hpl
  obtain ⟨i, chain, path⟩ := s
  by_cases hi : i < 0
  · rw [verS_no (fun hh => by have := hh.2.2.1; dsimp only at this; omega)]
    by_cases ho : okH h
    · exact tver_neg _ _ h i cv pv w ho hi
    · exact tver_height _ _ h i cv pv w ho
  · by_cases ho : okH h
    · obtain ⟨k, rfl, hk⟩ := okH_cases h ho
      obtain ⟨j, rfl⟩ : ∃ j : Nat, i = (j : Int) := ⟨i.toNat, by omega⟩
      by_cases hj : j < 2 ^ k
      · by_cases hc : chain.length = 68
        · rw [verS_yes hk rfl hj hc]
          exact tver_in root msg k _ rfl hk j hj chain path cv pv w hM hr hm hDc hDp (by dsimp only at hpl; omega) hc
        · rw [verS_no (fun hh => hc hh.2.2.2.2)]
          exact tver_chain root msg k _ rfl hk j hj hm chain cv pv w hDc hc
      · rw [verS_no (fun hh => hj (by have := hh.2.2.2.1; simp only [Int.toNat_natCast] at this; exact this))]
        exact tver_big _ _ k _ rfl hk j cv pv w (by omega)
    · rw [verS_no (fun hh => ho ⟨hh.1, hh.2.1⟩)]
      exact tver_height _ _ h i cv pv w ho
theorem rtver_any (root msg : List UInt8) (h : Int) (s : Sig) (cv pv : Value) (w : World) (hM : ShaMem w) (hr : root.length = 16) (hm : msg.length = 16) (hDc : Digs w cv s.chain) (hDp : Digs w pv s.path) (hpl : s.path.length ≤ 1000) :
    Calls Tryd.prog 79 #[.agg (root.map u8v).toArray, .int .i64 h, .agg (msg.map u8v).toArray, .agg #[.int .i64 s.index, cv, pv]] w fun e w' => e = .returned (.bool (verS root h msg s)) ∧ Ext w w' := by
  have _ := hM
  have _ := hpl
  obtain ⟨i, chain, path⟩ := s
  by_cases hi : i < 0
  · rw [verS_no (fun hh => by have := hh.2.2.1; dsimp only at this; omega)]
    by_cases ho : okH h
    · exact rtver_neg _ _ h i cv pv w hi
    · exact rtver_neg _ _ h i cv pv w hi
  · by_cases ho : okH h
    · obtain ⟨k, rfl, hk⟩ := okH_cases h ho
      obtain ⟨j, rfl⟩ : ∃ j : Nat, i = (j : Int) := ⟨i.toNat, by omega⟩
      by_cases hj : j < 2 ^ k
      · by_cases hc : chain.length = 68
        · rw [verS_yes hk rfl hj hc]
          exact rtver_in root msg k _ rfl hk j hj chain path cv pv w hr hm hDc hDp hc
        · rw [verS_no (fun hh => hc hh.2.2.2.2)]
          exact rtver_chain root msg k _ rfl hk j hj hm chain cv pv w hDc hc
      · rw [verS_no (fun hh => hj (by have := hh.2.2.2.1; simp only [Int.toNat_natCast] at this; exact this))]
        exact rtver_big _ _ k _ rfl hk j cv pv w (by omega)
    · rw [verS_no (fun hh => ho ⟨hh.1, hh.2.1⟩)]
      exact rtver_height _ _ h i cv pv w ho (by omega)
theorem r_digs {C : Ctx} {v : Value} {l : List (List UInt8)} (h : Digs C.w v l) (hb : ∀ k, v.ownBlock = some k → C.ok k) : R C (.sl 16 l.length (digF l)) [v] :=
  .sl h.2 (fun g hg hl => ⟨hb g hg, h.2.own_lt (by omega) hl g hg⟩) (fun i hi => by
    rw [show dcells l = l.flatMap digCells from rfl, flat_win digCells 16 l (fun d hd => by simp [digCells, h.1 d hd]) i hi]
    unfold digF
    rw [List.getD_eq_getElem?_getD, List.getElem?_eq_getElem hi]
    have := RL.cons (C := C.cold) (R.bs (n := 16) (h.1 _ (List.getElem_mem hi))) RL.nil
    rw [List.append_nil] at this
    exact this)
def dgOf : PC → Option (Prop × List (List UInt8))
  | .sl 16 len f => some (IsDRow len f, rowD len f)
  | .lit (.slice none 0 0) => some (True, [])
  | _ => none
theorem dgOf_ok {C : Ctx} {c : PC} {xs : List Value} {p : Prop} {l : List (List UInt8)} (h : dgOf c = some (p, l)) (hp : p) (hr : R C c xs) : ∃ v, xs = [v] ∧ Digs C.w v l := by
  unfold dgOf at h
  split at h
  · rename_i len f
    cases h
    cases hr with
    | sl hr hb he =>
      obtain ⟨e1, e2⟩ := drow_cells hr.1 he hp
      refine ⟨_, rfl, e2, ?_⟩
      rw [← e1, rowD_length]
      exact hr
  · cases h
    cases hr
    exact ⟨_, rfl, D16.nil, Reads.nil _ 16⟩
  · cases h
theorem rv_dig16 {C : Ctx} {bs : List UInt8} {v : Value} (h : RV C (.w (.agg [.bs 16 bs])) v) : bs.length = 16 ∧ v = .agg (bs.map u8v).toArray := rv_dig h
/-! ### Specs -/
def verG : List PV → Option (Prop × PV)
  | [.w (.agg [.bs 16 r]), .w (.one (.lit (.int .i64 h))), .w (.agg [.bs 16 m]), .w (.agg [.lit (.int .i64 i), cp, pp])] => (match dgOf cp, dgOf pp with
    | some (pc, c), some (pp, p) => some (pc ∧ pp ∧ p.length ≤ 1000, pvB (verS r h m ⟨i, c, p⟩))
    | _, _ => none)
  | _ => none
def rootG : List PV → Option (Prop × PV)
  | [.w (.agg [.bs 16 s]), .w (.one (.lit (.int .i64 h)))] => some (True, .tup [.agg [.bs 16 (rootT s h).1], .one (.lit (.int .i64 (rootT s h).2))])
  | _ => none
def signG : List PV → Option (Prop × PV)
  | [.w (.agg [.bs 16 s]), .w (.one (.lit (.int .i64 h))), .w (.one (.lit (.int .i64 i))), .w (.agg [.bs 16 m])] => some (True, .tup [.agg (sigPC (sgnT s h i m).1), .one (.lit (.int .i64 (sgnT s h i m).2))])
  | _ => none
set_option maxRecDepth 100000 in
theorem tver_spec : SpecOk Tryd.prog ShaMem 45 (funSpec true verG) := by
  refine funSpec_ok (call_enters Tryd.func45 (by kernel_rfl) rfl) (fun xs p r hg hp w ok0 vs hI hv => ?_)
  unfold verG at hg
  split at hg
  · rename_i rt h m i cp pp
    split at hg
    · rename_i pc c pq q e1 e2
      cases hg
      obtain ⟨hp1, hp2, hp3⟩ := hp
      match vs, hv with
      | [v1, v2, v3, v4], ⟨k1, k2, k3, k4, _⟩ =>
        obtain ⟨l1, rfl⟩ := rv_dig16 k1
        obtain rfl := k2.lit_inv
        obtain ⟨l3, rfl⟩ := rv_dig16 k3
        cases k4 with
        | w k4 => cases k4 with
          | @agg _ cs k4 =>
            obtain ⟨cs⟩ := cs
            dsimp only at k4
            cases k4 with
            | cons a1 k4 => cases k4 with
              | cons a2 k4 => cases k4 with
                | cons a3 k4 =>
                  cases k4
                  obtain ⟨cv, rfl, d1⟩ := dgOf_ok e1 hp1 a2
                  obtain ⟨pv, rfl, d2⟩ := dgOf_ok e2 hp2 a3
                  cases a1
                  refine (tver_any rt m h ⟨i, c, q⟩ cv pv w hI l1 l3 d1 d2 hp3).mono ?_
                  rintro e w' ⟨rfl, hE⟩
                  exact ⟨_, rfl, hE, .w (.one (.lit rfl))⟩
    · cases hg
  · cases hg
set_option maxRecDepth 100000 in
theorem rtver_spec : SpecOk Tryd.prog ShaMem 79 (funSpec true verG) := by
  refine funSpec_ok (call_enters Tryd.func79 (by kernel_rfl) rfl) (fun xs p r hg hp w ok0 vs hI hv => ?_)
  unfold verG at hg
  split at hg
  · rename_i rt h m i cp pp
    split at hg
    · rename_i pc c pq q e1 e2
      cases hg
      obtain ⟨hp1, hp2, hp3⟩ := hp
      match vs, hv with
      | [v1, v2, v3, v4], ⟨k1, k2, k3, k4, _⟩ =>
        obtain ⟨l1, rfl⟩ := rv_dig16 k1
        obtain rfl := k2.lit_inv
        obtain ⟨l3, rfl⟩ := rv_dig16 k3
        cases k4 with
        | w k4 => cases k4 with
          | @agg _ cs k4 =>
            obtain ⟨cs⟩ := cs
            dsimp only at k4
            cases k4 with
            | cons a1 k4 => cases k4 with
              | cons a2 k4 => cases k4 with
                | cons a3 k4 =>
                  cases k4
                  obtain ⟨cv, rfl, d1⟩ := dgOf_ok e1 hp1 a2
                  obtain ⟨pv, rfl, d2⟩ := dgOf_ok e2 hp2 a3
                  cases a1
                  refine (rtver_any rt m h ⟨i, c, q⟩ cv pv w hI l1 l3 d1 d2 hp3).mono ?_
                  rintro e w' ⟨rfl, hE⟩
                  exact ⟨_, rfl, hE, .w (.one (.lit rfl))⟩
    · cases hg
  · cases hg
theorem rv_pair {C : Ctx} {l : List PC} {cs : Array Value} {n : Int} (h : RL C l cs.toList) : RV C (.tup [.agg l, .one (.lit (.int .i64 n))]) (.tuple #[.agg cs, .int .i64 n]) :=
  .tup rfl (fun i x hx => by
    match i, hx with
    | 0, hx => cases hx; exact ⟨_, rfl, .agg h⟩
    | 1, hx => cases hx; exact ⟨_, rfl, .one (.lit rfl)⟩
    | i + 2, hx => cases hx)
set_option maxRecDepth 100000 in
theorem troot_spec : SpecOk Tryd.prog ShaMem 73 (funSpec true rootG) := by
  refine funSpec_ok (call_enters Tryd.func73 (by kernel_rfl) rfl) (fun xs p r hg hp w ok0 vs hI hv => ?_)
  unfold rootG at hg
  split at hg
  · rename_i sd h
    cases hg
    match vs, hv with
    | [v1, v2], ⟨k1, k2, _⟩ =>
      obtain ⟨l1, rfl⟩ := rv_dig16 k1
      obtain rfl := k2.lit_inv
      have hlen := rootT_len sd h
      have key : Calls Tryd.prog 73 #[.agg (sd.map u8v).toArray, .int .i64 h] w fun e w' => e = .returned (.tuple #[.agg ((rootT sd h).1.map u8v).toArray, .int .i64 (rootT sd h).2]) ∧ Ext w w' := by
        by_cases ho : okH h
        · obtain ⟨k, rfl, hk⟩ := okH_cases h ho
          have e : rootT sd (k : Int) = (rootS (leavesS sd (2 ^ k)), 0) := by
            unfold rootT
            rw [if_pos ⟨by omega, by omega⟩, Int.toNat_natCast]
          rw [e]
          exact troot_yes sd k _ rfl hk w l1 hI
        · have e : rootT sd h = (z16, 1) := by
            unfold rootT
            rw [if_neg (show ¬ (0 ≤ h ∧ h ≤ 4) from ho)]
          rw [e]
          exact troot_no sd h w ho
      refine key.mono ?_
      rintro e w' ⟨rfl, hE⟩
      refine ⟨_, rfl, hE, rv_pair ?_⟩
      have := RL.cons (C := { w := w', ok := fun b => (true = false ∧ ok0 b) ∨ w.heap.size ≤ b, env := fun _ => none }) (R.bs (n := 16) hlen) RL.nil
      rw [List.append_nil] at this
      exact this
  · cases hg
set_option maxRecDepth 100000 in
theorem rtroot_spec : SpecOk Tryd.prog ShaMem 80 (funSpec true rootG) := by
  refine funSpec_ok (call_enters Tryd.func80 (by kernel_rfl) rfl) (fun xs p r hg hp w ok0 vs hI hv => ?_)
  unfold rootG at hg
  split at hg
  · rename_i sd h
    cases hg
    match vs, hv with
    | [v1, v2], ⟨k1, k2, _⟩ =>
      obtain ⟨l1, rfl⟩ := rv_dig16 k1
      obtain rfl := k2.lit_inv
      have hlen := rootT_len sd h
      have key : Calls Tryd.prog 80 #[.agg (sd.map u8v).toArray, .int .i64 h] w fun e w' => e = .returned (.tuple #[.agg ((rootT sd h).1.map u8v).toArray, .int .i64 (rootT sd h).2]) ∧ Ext w w' := by
        by_cases ho : okH h
        · obtain ⟨k, rfl, hk⟩ := okH_cases h ho
          have e : rootT sd (k : Int) = (rootS (leavesS sd (2 ^ k)), 0) := by
            unfold rootT
            rw [if_pos ⟨by omega, by omega⟩, Int.toNat_natCast]
          rw [e]
          exact rtroot_yes sd k _ rfl hk w l1
        · have e : rootT sd h = (z16, 1) := by
            unfold rootT
            rw [if_neg (show ¬ (0 ≤ h ∧ h ≤ 4) from ho)]
          rw [e]
          exact rtroot_no sd h w ho
      refine key.mono ?_
      rintro e w' ⟨rfl, hE⟩
      refine ⟨_, rfl, hE, rv_pair ?_⟩
      have := RL.cons (C := { w := w', ok := fun b => (true = false ∧ ok0 b) ∨ w.heap.size ≤ b, env := fun _ => none }) (R.bs (n := 16) hlen) RL.nil
      rw [List.append_nil] at this
      exact this
  · cases hg
theorem sigPC_rl {C : Ctx} {i : Int} {cv pv : Value} {chain path : List (List UInt8)} (h1 : Digs C.w cv chain) (h2 : Digs C.w pv path) (h3 : ∀ k, cv.ownBlock = some k → C.ok k) (h4 : ∀ k, pv.ownBlock = some k → C.ok k) : RL C (sigPC ⟨i, chain, path⟩) [.int .i64 i, cv, pv] :=
  .cons (xs := [_]) (.lit rfl) (.cons (xs := [_]) (r_digs h1 h3) (.cons (xs := [_]) (r_digs h2 h4) .nil))
theorem sigPC_nil {C : Ctx} : RL C (sigPC ⟨0, [], []⟩) [.int .i64 0, .slice none 0 0, .slice none 0 0] :=
  sigPC_rl (Digs.nil _) (Digs.nil _) (fun _ h => by cases h) (fun _ h => by cases h)
set_option maxRecDepth 100000 in
theorem tsign_spec : SpecOk Tryd.prog ShaMem 49 (funSpec true signG) := by
  refine funSpec_ok (call_enters Tryd.func49 (by kernel_rfl) rfl) (fun xs p r hg hp w ok0 vs hI hv => ?_)
  unfold signG at hg
  split at hg
  · rename_i sd h i m
    cases hg
    match vs, hv with
    | [v1, v2, v3, v4], ⟨k1, k2, k3, k4, _⟩ =>
      obtain ⟨l1, rfl⟩ := rv_dig16 k1
      obtain rfl := k2.lit_inv
      obtain rfl := k3.lit_inv
      obtain ⟨l4, rfl⟩ := rv_dig16 k4
      by_cases ho : okH h
      · obtain ⟨k, rfl, hk⟩ := okH_cases h ho
        by_cases hi : i < 0
        · have e : sgnT sd (k : Int) i m = (⟨0, [], []⟩, 1) := by
            unfold sgnT
            rw [if_pos (.inr hi)]
          rw [e]
          refine (tsign_arg sd m _ i w (.inr hi)).mono ?_
          rintro e w' ⟨rfl, hE⟩
          exact ⟨_, rfl, hE, rv_pair sigPC_nil⟩
        · obtain ⟨j, rfl⟩ : ∃ j : Nat, i = (j : Int) := ⟨i.toNat, by omega⟩
          by_cases hj : j < 2 ^ k
          · have e : sgnT sd (k : Int) (j : Int) m = (⟨(j : Int), signS sd (j : Int) m 68, proveS (leavesS sd (2 ^ k)) j⟩, 0) := by
              unfold sgnT
              rw [if_neg (by omega)]
              simp only [Int.toNat_natCast]
              rw [if_pos hj]
            rw [e]
            refine (tsign_yes sd m k _ rfl hk j hj w l1 l4 hI).mono ?_
            rintro e w' ⟨v, rfl, ⟨cv, pv, rfl, d1, d2⟩, hE, ⟨i', cv', pv', q, n1, n2⟩⟩
            cases q
            exact ⟨_, rfl, hE, rv_pair (sigPC_rl d1 d2 (fun b hb => .inr (n1 b hb)) (fun b hb => .inr (n2 b hb)))⟩
          · have e : sgnT sd (k : Int) (j : Int) m = (⟨0, [], []⟩, 17) := by
              unfold sgnT
              rw [if_neg (by omega)]
              simp only [Int.toNat_natCast]
              rw [if_neg hj]
            rw [e]
            refine (tsign_out sd m k _ rfl hk j w (by omega)).mono ?_
            rintro e w' ⟨rfl, hE⟩
            exact ⟨_, rfl, hE, rv_pair sigPC_nil⟩
      · have e : sgnT sd h i m = (⟨0, [], []⟩, 1) := by
          unfold sgnT
          rw [if_pos (.inl ho)]
        rw [e]
        refine (tsign_arg sd m h i w (.inl ho)).mono ?_
        rintro e w' ⟨rfl, hE⟩
        exact ⟨_, rfl, hE, rv_pair sigPC_nil⟩
  · cases hg
set_option maxRecDepth 100000 in
theorem rtsign_spec : SpecOk Tryd.prog ShaMem 81 (funSpec true signG) := by
  refine funSpec_ok (call_enters Tryd.func81 (by kernel_rfl) rfl) (fun xs p r hg hp w ok0 vs hI hv => ?_)
  unfold signG at hg
  split at hg
  · rename_i sd h i m
    cases hg
    match vs, hv with
    | [v1, v2, v3, v4], ⟨k1, k2, k3, k4, _⟩ =>
      obtain ⟨l1, rfl⟩ := rv_dig16 k1
      obtain rfl := k2.lit_inv
      obtain rfl := k3.lit_inv
      obtain ⟨l4, rfl⟩ := rv_dig16 k4
      by_cases ho : okH h
      · obtain ⟨k, rfl, hk⟩ := okH_cases h ho
        by_cases hi : i < 0
        · have e : sgnT sd (k : Int) i m = (⟨0, [], []⟩, 1) := by
            unfold sgnT
            rw [if_pos (.inr hi)]
          rw [e]
          refine (rtsign_arg sd m _ i w (.inr hi)).mono ?_
          rintro e w' ⟨rfl, hE⟩
          exact ⟨_, rfl, hE, rv_pair sigPC_nil⟩
        · obtain ⟨j, rfl⟩ : ∃ j : Nat, i = (j : Int) := ⟨i.toNat, by omega⟩
          by_cases hj : j < 2 ^ k
          · have e : sgnT sd (k : Int) (j : Int) m = (⟨(j : Int), signS sd (j : Int) m 68, proveS (leavesS sd (2 ^ k)) j⟩, 0) := by
              unfold sgnT
              rw [if_neg (by omega)]
              simp only [Int.toNat_natCast]
              rw [if_pos hj]
            rw [e]
            refine (rtsign_yes sd m k _ rfl hk j hj w l1 l4).mono ?_
            rintro e w' ⟨v, rfl, ⟨cv, pv, rfl, d1, d2⟩, hE, ⟨i', cv', pv', q, n1, n2⟩⟩
            cases q
            exact ⟨_, rfl, hE, rv_pair (sigPC_rl d1 d2 (fun b hb => .inr (n1 b hb)) (fun b hb => .inr (n2 b hb)))⟩
          · have e : sgnT sd (k : Int) (j : Int) m = (⟨0, [], []⟩, 17) := by
              unfold sgnT
              rw [if_neg (by omega)]
              simp only [Int.toNat_natCast]
              rw [if_neg hj]
            rw [e]
            refine (rtsign_out sd m k _ rfl hk j w (by omega)).mono ?_
            rintro e w' ⟨rfl, hE⟩
            exact ⟨_, rfl, hE, rv_pair sigPC_nil⟩
      · have e : sgnT sd h i m = (⟨0, [], []⟩, 1) := by
          unfold sgnT
          rw [if_pos (.inl ho)]
        rw [e]
        refine (rtsign_arg sd m h i w (.inl ho)).mono ?_
        rintro e w' ⟨rfl, hE⟩
        exact ⟨_, rfl, hE, rv_pair sigPC_nil⟩
  · cases hg

end Go.Proofs.YtgndblhpfjkfhaaDoor.Pv

/-
  The abstract machine: functions that hand out a row of their own, into which the caller may write. Plain: no function of the program is named here.
-/
namespace Go.Proofs.YtgndblhpfjkfhaaDoor.Pv
open Go.RowKit

theorem flat_rl {C C' : Ctx} : ∀ {l : List PC} {xs : List Value}, RL C l xs → l.all (coldPC true) = true → RL C' l xs
  | [], _, h, _ => by cases h; exact .nil
  | c :: l, xs, h, hc => by
    rw [List.all_cons, Bool.and_eq_true] at hc
    cases h with
    | cons h3 h4 =>
      refine .cons ?_ (flat_rl h4 hc.2)
      have hc1 := hc.1
      cases h3 <;> first | exact .lit (by assumption) | exact .bs (by assumption) | (cases hc1; done)
/-- A function's contract: it returns a row of its own, of flat cells. -/
def FunRow (P : Program) (I : World → Prop) (f : Nat) (args : List PV) (e n len : Nat) (f' : Nat → List PC) : Prop :=
  ∀ (w : World) (ok0 : Nat → Prop) (vs : List Value), I w → Vals { w, ok := ok0, env := fun _ => none } args vs →
    Calls P f vs.toArray w fun r w' => ∃ val xs, r = .returned val ∧ Ext w w' ∧ w'.ownsRow w.heap.size e n val len xs ∧ ∀ (C : Ctx) i, i < len → RL C (f' i) ((xs.drop (i * n)).take n)
def RowTo (P : Program) (fn : Func) (e n len : Nat) (f' : Nat → List PC) (s : St) : Prop :=
  ∃ x ver g f, (retM P fn.results).ok none s (fun _ v' wr => v' = pv1 (.ow x ver n 0 len) ∧ wr = []) ∧ find s.o x = some (g, ver, .arr e n len f) ∧ gT g ∧ ∀ i, i < len → f i = f' i ∧ (f' i).all (coldPC true) = true
def RQR (P : Program) (A : Amb) (fn : Func) (e n len : Nat) (f' : Nat → List PC) : Exit → Act → World → Prop
  | .panic chain, a, w => a.defers = [] ∧ PanG A chain w
  | x, a, w => (x = .normal ∨ x = .ret) ∧ ∃ s, RowTo P fn e n len f' s ∧ Gam A s a w
theorem rowTo_of {P : Program} {fn : Func} {e n len x ver : Nat} {g : Option Bool} {f f' : Nat → List PC} {s : St} {out : Out} (h : (retM P fn.results).exec none s [] [] [] [] = some out) (hc : All out.conds) (hw : out.wr = []) (hx : out.val = pv1 (.ow x ver n 0 len)) (hf : find s.o x = some (g, ver, .arr e n len f)) (hg : gT g) (hff : ∀ i, i < len → f i = f' i ∧ (f' i).all (coldPC true) = true) : RowTo P fn e n len f' s := by
  rw [exec_nil] at h
  exact ⟨x, ver, g, f, M.ok_of_run _ none s out _ h (fun p hp => hc.mem p hp) ⟨hx, hw⟩, hf, hg, hff⟩
theorem funRow_of {P : Program} {I : World → Prop} {f : Nat} {fn : Func} {c : Code} {args : List PV} {e n len : Nat} {f' : Nat → List PC} (hf : P.funcs[f]? = some fn) (hb : fn.body = some c) (hnb : Nat.ble args.length fn.ntmps = true) (hI : ∀ w w', Ext w w' → I w → I w')
    (hT : ∀ A : Amb, A.S = Non → A.nt = fn.ntmps → AmbOk P I A → Tri P A ⟨slots 0 args, []⟩ c (RQR P A fn e n len f')) : FunRow P I f args e n len f' := by
  intro w ok0 vs hIw hv
  have hn := Nat.le_of_ble_eq_true hnb
  have hlen := hv.length
  have hg : Gam (Amb.plain w ok0 fn.ntmps) ⟨slots 0 args, []⟩ { tmps := vs.toArray ++ Array.replicate (fn.ntmps - vs.toArray.size) undef, defers := [] } w := by
    refine ⟨fun _ => none, { chg := Chg.refl _ _, size := ?_, dom := fun x _ => rfl, objs := fun x g ver o h => (by cases h), live := fun x ver hd b h => (by cases h), inj := fun x y v1 h1 v2 h2 b h => (by cases h), tmps := fun t g pv h hgt => ?_, defers := rfl, und := fun t pv h => (by obtain ⟨k, _, h2⟩ := find_slotsG h; cases h2), exts := fun x hd h => (by cases h), dev := fun g ver O stp l h => (by cases h) }⟩
    · simp [Amb.plain]; omega
    · obtain ⟨k, h1, h2⟩ := find_slots h
      obtain ⟨v, h3, h4⟩ := hv.at h2
      rw [Nat.zero_add] at h1
      subst h1
      have hk : t < vs.length := (List.getElem?_eq_some_iff.1 h3).1
      refine ⟨v, ?_, ?_⟩
      · rw [Array.getElem?_append_left (by simpa using hk)]
        simpa using h3
      · refine h4.le ⟨Nat.le_refl _, fun b _ hb => ⟨⟨.inl hb, fun _ _ _ h => by cases h⟩, rfl⟩, fun _ _ _ h => by cases h⟩
  refine calls_of_wp hf hb (wp_mono (hT (Amb.plain w ok0 fn.ntmps) rfl rfl (AmbOk.plain fun w' hc => hI w w' hc hIw) _ w hg (fun _ _ _ hd h => ⟨hd, h⟩)) (fun x a' w' he => ?_))
  have he' : (x = .normal ∨ x = .ret) ∧ ∃ s, RowTo P fn e n len f' s ∧ Gam (Amb.plain w ok0 fn.ntmps) s a' w' := by
    cases x with
    | panic chain => obtain ⟨_, l, hl, _⟩ := he; exact hl.elim
    | _ => exact he
  obtain ⟨h1, s, ⟨x0, ver, g, f0, h2, hfo, hgt, hff⟩, h4⟩ := he'
  obtain ⟨env, hE⟩ := h4
  obtain ⟨v', val, h5, h6, h7, _⟩ := retM_ok hE h2
  subst h7
  obtain ⟨hd, hev, hob⟩ := obj_at hE hfo hgt
  obtain ⟨A0, n0, c0, rfl, hle0, rfl⟩ := h6.ow_inv hev
  obtain ⟨xs, hown, hel⟩ := hob
  have hn0 : n0 = len := by
    obtain ⟨_, A1, c1, e1, _⟩ := Reads.of_own hown
    cases e1; rfl
  subst hn0
  have hA : A0.map (fun p => p.add (0 * n)) = A0 := by
    cases A0 with
    | none => rfl
    | some ad => simp [Addr.add]
  have hown2 : w'.ownsRow w.heap.size e n (.slice A0 n0 c0) n0 xs := ⟨hown.1, hown.2.imp id (fun ⟨g, cap, cur, h1, _, h3⟩ => ⟨g, cap, cur, h1, by
    have := (hE.live x0 ver _ g hev (by rw [h1]; rfl)).2
    exact this.resolve_right (fun h => h), h3⟩)⟩
  have this : a'.defers = [] ∧ ∃ v, (results fn a'.tmps).run P w' = .ok v w' ∧ ∃ val xs, Ending.returned v = .returned val ∧ Ext w w' ∧ w'.ownsRow w.heap.size e n val n0 xs ∧ ∀ (C : Ctx) i, i < n0 → RL C (f' i) ((xs.drop (i * n)).take n) := by
    refine ⟨hE.defers, _, h5, _, xs, rfl, hE.chg, ?_, fun C i hi => ?_⟩
    · first | exact hown2 | (simp only [Nat.zero_mul, Nat.sub_zero] at hA ⊢; rw [hA]; exact hown2)
    · have h8 := hel i hi
      rw [(hff i hi).1] at h8
      exact flat_rl h8 (hff i hi).2
  rcases h1 with rfl | rfl <;> exact this
/-- The specification of such a function. -/
def rowSpec (g : List PV → Option (Prop × Nat × Nat × Nat × (Nat → List PC))) : Spec := fun nm xs => expVs xs fun ys => match g ys with
  | some (p, e, n, len, f) => .need p (.new nm (.arr e n len f) fun v => .ret (pv1 (.ow nm v n 0 len)))
  | none => .fail
theorem rowSpec_ok {P : Program} {I : World → Prop} {f : Nat} {g : List PV → Option (Prop × Nat × Nat × Nat × (Nat → List PC))} (hent : ∀ args w, (callFunc f args).run P w = .ok (.enter f args) w) (hg : ∀ xs p e n len f', g xs = some (p, e, n, len, f') → p → FunRow P I f xs e n len f') : SpecOk P I f (rowSpec g) := by
  refine ⟨hent, fun A s a w env nm pvs vs F h hI hv hk => ?_⟩
  unfold rowSpec at hk
  obtain ⟨ys, h1, hk⟩ := expVs_ok h hv hk
  cases hq : g ys with
  | none => rw [hq] at hk; exact hk.elim
  | some q =>
    obtain ⟨p, e, n, len, f'⟩ := q
    rw [hq] at hk
    obtain ⟨hp, hk⟩ := hk
    refine (hg ys p e n len f' hq hp w (fun _ => True) vs (hI.mem w h.chg) h1).mono ?_
    rintro r w' ⟨val, xs, rfl, hE, ho, hr⟩
    obtain ⟨env', h3, h4⟩ := h.new_own nm e n len (f := f') hE ho hr
    exact .inl ⟨_, _, _, env', rfl, hk, h3, h4⟩

@[simp] theorem polB_true (b : Bool) : polB true b = b := rfl
@[simp] theorem polB_false (b : Bool) : polB false b = !b := rfl
@[simp] theorem all_nil_ : All [] = True := rfl
@[simp] theorem all_cons_ (p : Prop) (l : List Prop) : All (p :: l) = (p ∧ All l) := rfl
@[simp] theorem hP_none (p : Prop) : hP none p = p := rfl
@[simp] theorem hP_some (b : Bool) (p : Prop) : hP (some b) p = (b = true → p) := rfl

end Go.Proofs.YtgndblhpfjkfhaaDoor.Pv

/-
  Package quorum by the abstract machine: encodings of manifests and keysets.
-/
namespace Go.Proofs.YtgndblhpfjkfhaaDoor.Pv
open Go.RowKit

theorem byF_app (X Y : List UInt8) : appF X.length (byF X) (byF Y) = byF (X ++ Y) := by
  funext i
  unfold appF byF
  by_cases h : i < X.length
  · rw [if_pos h, List.getD_eq_getElem?_getD, List.getD_eq_getElem?_getD, List.getElem?_append_left h]
  · rw [if_neg h, List.getD_eq_getElem?_getD, List.getD_eq_getElem?_getD, List.getElem?_append_right (by omega)]
theorem byF_zero (X : List UInt8) : (fun i => byF X (0 + i)) = byF X := by funext i; rw [Nat.zero_add]
theorem cold_app {n : Nat} {f g : Nat → List PC} (h1 : ∀ i, (f i).all (coldPC false) = true) (h2 : ∀ i, (g i).all (coldPC false) = true) : ∀ i, (appF n f g i).all (coldPC false) = true := fun i => by
  unfold appF
  split
  · exact h1 i
  · exact h2 _
def intsP (l : List Int) (k : Nat) : List UInt8 := (l.take k).flatMap wInt
def encInts (l : List Int) : List UInt8 := intsP l l.length
def dgsP (l : List (List UInt8)) (k : Nat) : List UInt8 := wInt l.length ++ (l.take k).flatMap id
def encDigs (l : List (List UInt8)) : List UInt8 := dgsP l l.length
theorem intsP_succ (l : List Int) {k : Nat} (h : k < l.length) : intsP l (k + 1) = intsP l k ++ wInt (l.getD k 0) := by
  unfold intsP
  rw [List.take_add_one, List.getElem?_eq_getElem h, List.flatMap_append, List.getD_eq_getElem?_getD, List.getElem?_eq_getElem h]
  simp
theorem intsP_len (l : List Int) (k : Nat) (hk : k ≤ l.length) : (intsP l k).length ≤ 10 * k := by
  induction k with
  | zero => simp [intsP]
  | succ k ih =>
    have := ih (by omega)
    have h1 := wInt_length (l.getD k 0)
    rw [intsP_succ l (by omega), List.length_append]
    omega
theorem dgsP_succ (l : List (List UInt8)) {k : Nat} (h : k < l.length) : dgsP l (k + 1) = dgsP l k ++ l.getD k [] := by
  unfold dgsP
  rw [List.take_add_one, List.getElem?_eq_getElem h, List.flatMap_append, List.getD_eq_getElem?_getD, List.getElem?_eq_getElem h]
  simp
theorem dgsP_len {l : List (List UInt8)} (hd : D16 l) (k : Nat) (hk : k ≤ l.length) : (dgsP l k).length ≤ 10 + 16 * k := by
  induction k with
  | zero =>
    have h1 := wInt_length (l.length : Int)
    simp [dgsP]
    omega
  | succ k ih =>
    have := ih (by omega)
    have h1 := hd _ (getD_mem (show k < l.length by omega) [])
    rw [dgsP_succ l (by omega), List.length_append, h1]
    omega
def intsSt (l : List Int) (k : Nat) : St := ⟨[(3, none, pv1 (.ow 7000 0 1 0 (intsP l k).length)), (6, none, pv1 (.sl 1 l.length (intF l))), (7, none, pvI l.length), (8, none, pvI k)], [(7000, none, 0, .arr 5 1 (intsP l k).length (byF (intsP l k)))]⟩
set_option maxRecDepth 100000 in
theorem ints_fun (l : List Int) (hl : l.length ≤ 100) (hz : ∀ z ∈ l, i64P z) : FunRow Tryd.prog ShaMem 114 [pv1 (.sl 1 l.length (intF l))] 5 1 (encInts l).length (byF (encInts l)) := by
  have M := lowM
  have hb1 : Tryd.prog.types[5].bytes = 1 := by kernel_rfl
  have hs1 : Tryd.prog.types[5].size = 1 := by kernel_rfl
  refine funRow_of Tryd.func114 rfl rfl sha_ext (fun A hS hn hI => ?_)
  refine tri_reg M hI hn (outs := ?_) (s' := ?_) ?_ ?_ ?_ ?_
  rotate_left 2
  · rfl
  · kernel_rfl
  · simp
  refine tri_reg M hI hn (outs := ?_) (s' := ?_) ?_ ?_ ?_ ?_
  rotate_left 2
  · rfl
  · kernel_rfl
  · simp
  refine tri_seq ?_
  refine tri_reg M hI hn (outs := ?_) (s' := ?_) ?_ ?_ ?_ ?_
  rotate_left 2
  · rfl
  · kernel_rfl
  · simp
  refine tri_block ?_
  refine tri_conv (s' := intsSt l 0) (fun a w hg => ((hg.nilRow (x := 7000) (e := 5) (n := 1) (t := 3) (by rfl) (by rfl)).reset (kT := [3, 6, 7, 8]) (kO := [7000]) (by rfl) (by simp)).same ?_ ?_) ?_
  · exact .cons rfl (.cons rfl (.cons rfl (.cons rfl .nil)))
  · exact .cons (.arr rfl (fun i hi => by omega)) .nil
  refine tri_loop l.length (fun k t => t = intsSt l k) 0 rfl (by omega) (fun k t hJ hk => ?_)
  subst hJ
  refine tri_reg M hI hn (outs := ?_) (s' := ?_) ?_ ?_ ?_ ?_
  rotate_left 2
  · rfl
  · kernel_rfl
  · simp
  refine tri_seq ?_
  refine tri_cond (b := ?_) ?_ (fun hc => ?_) (fun hc => ?_)
  rotate_left 1
  · rfl
  · have hk2 : k < l.length := by simpa using hc
    have hb := hz _ (getD_mem hk2 0)
    have hlen := intsP_len l k hk
    have hes := intsP_succ l hk2
    have v1 := wInt_length (l.getD k 0)
    simp only [List.getD_eq_getElem?_getD] at v1 hb
    refine tri_skip ?_
    change Tri _ _ _ _ _
    refine tri_seq ?_
    refine tri_block ?_
    refine tri_reg M hI hn (outs := ?_) (s' := ?_) ?_ ?_ ?_ ?_
    rotate_left 2
    · rfl
    · kernel_rfl
    · simp
      exact hk2
    refine tri_region M hI hn (outs := ?_) (s' := ?_) ?_ ?_ ?_ ?_
    rotate_left 2
    · rfl
    · kernel_rfl
    · simp
      rw [hb1]
      exact ⟨hb, by omega⟩
    change Tri _ _ _ _ _
    refine tri_region M hI hn (outs := ?_) (s' := ?_) ?_ ?_ ?_ ?_
    rotate_left 2
    · rfl
    · kernel_rfl
    · simp
    intro a w hg
    refine ⟨k + 1, _, by omega, by omega, rfl, (hg.reset (kT := [3, 6, 7, 8]) (kO := [7000]) (by rfl) ?_).same ?_ ?_⟩
    · simp only [All, and_true, List.append_nil]
      exact fun i _ => cold_app (fun _ => rfl) (fun _ => rfl) i
    · refine .cons ?_ (.cons rfl (.cons rfl (.cons (by rw [wrap_nat k (by omega)]) .nil)))
      rw [Int.toNat_natCast, hes, List.length_append, hs1]
    · refine .cons (.arr ?_ (fun i hi => ?_)) .nil
      · rw [Int.toNat_natCast, hes, List.length_append]
      · rw [Int.toNat_natCast, byF_zero, byF_app, hes]
  · have hkk : k = l.length := by
      have : ¬ k < l.length := by simpa using hc
      omega
    subst hkk
    refine tri_exit ?_   -- exit 0
    change Tri _ _ _ _ _
    refine tri_reg M hI hn (outs := ?_) (s' := ?_) ?_ ?_ ?_ ?_
    rotate_left 2
    · rfl
    · kernel_rfl
    · simp
    refine tri_ret (fun a w hg => ⟨.inr rfl, _, ?_, hg⟩)
    refine rowTo_of (x := 7000) (ver := 0) (g := none) (f := ?_) (out := ?_) ?_ ?_ ?_ ?_ ?_ trivial ?_
    rotate_left 2
    · rfl
    · simp
    · rfl
    · rfl
    · rfl
    intro i hi
    exact ⟨rfl, rfl⟩
def spInts : Spec := rowSpec fun xs => match xs with
  | [.w (.one (.sl 1 n f))] => some (IsIntRow n f ∧ n ≤ 100 ∧ (∀ z ∈ rowInt n f, i64P z), 5, 1, (encInts (rowInt n f)).length, byF (encInts (rowInt n f)))
  | _ => none
theorem ints_ok : SpecOk Tryd.prog ShaMem 114 spInts := by
  refine rowSpec_ok (call_enters Tryd.func114 (by kernel_rfl) rfl) (fun xs p e n len f' hg hp => ?_)
  split at hg
  · rename_i m f
    cases hg
    obtain ⟨h1, h2, h3⟩ := hp
    have h4 := ints_fun (rowInt m f) (by simpa using h2) h3
    rw [rowInt_length] at h4
    intro w ok0 vs hI hV
    refine h4 w ok0 vs hI ?_
    match vs, hV with
    | [v], ⟨k1, _⟩ => exact ⟨.w (.one (k1.inv.sl_ext (intF_row h1))), trivial⟩
  · cases hg
def dgsSt (l : List (List UInt8)) (k : Nat) : St := ⟨[(3, none, pv1 (.ow 1002 0 1 0 (dgsP l k).length)), (9, none, pv1 (.sl 16 l.length (digF l))), (10, none, pvI l.length), (11, none, pvI k)], [(1002, none, 0, .arr 5 1 (dgsP l k).length (byF (dgsP l k)))]⟩
set_option maxRecDepth 100000 in
theorem digs_fun (l : List (List UInt8)) (hl : l.length ≤ 1000) (hd : D16 l) : FunRow Tryd.prog ShaMem 115 [pv1 (.sl 16 l.length (digF l))] 5 1 (encDigs l).length (byF (encDigs l)) := by
  have M := lowM
  have hb1 : Tryd.prog.types[5].bytes = 1 := by kernel_rfl
  have hs1 : Tryd.prog.types[5].size = 1 := by kernel_rfl
  have w1 := wInt_length (l.length : Int)
  have e0 : dgsP l 0 = wInt l.length := by simp [dgsP]
  refine funRow_of Tryd.func115 rfl rfl sha_ext (fun A hS hn hI => ?_)
  refine tri_reg M hI hn (outs := ?_) (s' := ?_) ?_ ?_ ?_ ?_
  rotate_left 2
  · rfl
  · kernel_rfl
  · simp
  refine tri_reg M hI hn (outs := ?_) (s' := ?_) ?_ ?_ ?_ ?_
  rotate_left 2
  · rfl
  · kernel_rfl
  · simp
    unfold i64P
    omega
  refine tri_seq ?_
  refine tri_reg M hI hn (outs := ?_) (s' := ?_) ?_ ?_ ?_ ?_
  rotate_left 2
  · rfl
  · kernel_rfl
  · simp
  refine tri_block ?_
  refine tri_conv (s' := dgsSt l 0) (fun a w hg => (hg.reset (kT := [3, 9, 10, 11]) (kO := [1002]) (by rfl) ?_).same ?_ ?_) ?_
  · simp only [All, and_true, List.append_nil]
    exact fun i _ => rfl
  · exact .cons (by rw [e0]) (.cons rfl (.cons rfl (.cons rfl .nil)))
  · exact .cons (.arr (by rw [e0]) (fun i hi => by rw [e0])) .nil
  refine tri_loop l.length (fun k t => t = dgsSt l k) 0 rfl (by omega) (fun k t hJ hk => ?_)
  subst hJ
  refine tri_reg M hI hn (outs := ?_) (s' := ?_) ?_ ?_ ?_ ?_
  rotate_left 2
  · rfl
  · kernel_rfl
  · simp
  refine tri_seq ?_
  refine tri_cond (b := ?_) ?_ (fun hc => ?_) (fun hc => ?_)
  rotate_left 1
  · rfl
  · have hk2 : k < l.length := by simpa using hc
    have hb := hd _ (getD_mem hk2 [])
    have hlen := dgsP_len hd k hk
    have hes := dgsP_succ l hk2
    refine tri_skip ?_
    change Tri _ _ _ _ _
    refine tri_seq ?_
    refine tri_block ?_
    refine tri_reg M hI hn (outs := ?_) (s' := ?_) ?_ ?_ ?_ ?_
    rotate_left 2
    · rfl
    · kernel_rfl
    · simp
      exact hk2
    refine tri_region M hI hn (outs := ?_) (s' := ?_) ?_ ?_ ?_ ?_
    rotate_left 2
    · rfl
    · kernel_rfl
    · simp
      rw [hb1]
      omega
    change Tri _ _ _ _ _
    refine tri_region M hI hn (outs := ?_) (s' := ?_) ?_ ?_ ?_ ?_
    rotate_left 2
    · rfl
    · kernel_rfl
    · simp
    intro a w hg
    refine ⟨k + 1, _, by omega, by omega, rfl, (hg.reset (kT := [3, 9, 10, 11]) (kO := [1002]) (by rfl) ?_).same ?_ ?_⟩
    · simp only [All, and_true, List.append_nil]
      exact fun i _ => cold_app (fun _ => rfl) (fun _ => rfl) i
    · refine .cons ?_ (.cons rfl (.cons rfl (.cons (by rw [wrap_nat k (by omega)]) .nil)))
      rw [hes, List.length_append, hb, hs1]
    · refine .cons (.arr ?_ (fun i hi => ?_)) .nil
      · rw [hes, List.length_append, hb]
      · change appF _ _ (byF (l.getD k [])) i = _
        rw [byF_app, hes]
  · have hkk : k = l.length := by
      have : ¬ k < l.length := by simpa using hc
      omega
    subst hkk
    refine tri_exit ?_   -- exit 0
    change Tri _ _ _ _ _
    refine tri_reg M hI hn (outs := ?_) (s' := ?_) ?_ ?_ ?_ ?_
    rotate_left 2
    · rfl
    · kernel_rfl
    · simp
    refine tri_ret (fun a w hg => ⟨.inr rfl, _, ?_, hg⟩)
    refine rowTo_of (x := 1002) (ver := 0) (g := none) (f := ?_) (out := ?_) ?_ ?_ ?_ ?_ ?_ trivial ?_
    rotate_left 2
    · rfl
    · simp
    · rfl
    · rfl
    · rfl
    intro i hi
    exact ⟨rfl, rfl⟩
/-- A row of digests as an argument. -/
theorem dgOf_sl {C : Ctx} {c : PC} {xs : List Value} {p : Prop} {l : List (List UInt8)} (h : dgOf c = some (p, l)) (hp : p) (hr : R C c xs) : R C (.sl 16 l.length (digF l)) xs ∧ D16 l := by
  unfold dgOf at h
  split at h
  · rename_i len f
    cases h
    have h2 := hr
    cases h2 with
    | sl hr2 hb he =>
      have hD := (drow_cells hr2.1 he hp).2
      refine ⟨?_, hD⟩
      rw [rowD_length]
      refine hr.sl_ext (fun i hi => ?_)
      unfold digF
      rw [rowD, getD_map_range len i _ hi]
      have := hp i hi
      have h3 := (he i hi)
      revert this
      generalize f i = c
      intro this
      unfold isDig at this
      split at this
      · rw [beqT this]; rfl
      · cases this
  · cases h
    cases hr
    exact ⟨.sl (Reads.nil _ _) (fun g hg => by simp [Value.ownBlock] at hg) (fun i hi => by simp at hi), D16.nil⟩
  · cases h
def spDigs : Spec := rowSpec fun xs => match xs with
  | [.w (.one c)] => (match dgOf c with
    | some (p, l) => some (p ∧ l.length ≤ 1000, 5, 1, (encDigs l).length, byF (encDigs l))
    | none => none)
  | _ => none
theorem digs_ok : SpecOk Tryd.prog ShaMem 115 spDigs := by
  refine rowSpec_ok (call_enters Tryd.func115 (by kernel_rfl) rfl) (fun xs p e n len f' hg hp => ?_)
  split at hg
  · rename_i c
    split at hg
    · rename_i q l he
      cases hg
      intro w ok0 vs hI hV
      match vs, hV with
      | [v], ⟨k1, _⟩ =>
        obtain ⟨k2, k3⟩ := dgOf_sl he hp.1 k1.inv
        exact digs_fun l hp.2 k3 w ok0 [v] hI ⟨.w (.one k2), trivial⟩
    · cases hg
  · cases hg
def quL1 : List (Nat × Spec) := (114, spInts) :: (115, spDigs) :: lowL
theorem qu1_ok : ∀ p ∈ quL1, SpecOk Tryd.prog ShaMem p.1 p.2 := by
  intro p hp
  simp only [quL1, List.mem_cons] at hp
  rcases hp with rfl | rfl | hp
  · exact ints_ok
  · exact digs_ok
  · exact low_ok p hp
theorem qu1M : Mach Tryd.prog ShaMem (find quL1) := ⟨specs_of qu1_ok, mixed_⟩
/-! ### Three integers and a row of digests: manifests, keysets -/
structure R4 where
  a : Int
  b : Int
  c : Int
  l : List (List UInt8)
  deriving Inhabited
structure R4Ok (s : R4) : Prop where
  a : i64P s.a
  b : i64P s.b
  c : i64P s.c
  l : D16 s.l
def r4L (s : R4) : List PC := [.lit (.int .i64 s.a), .lit (.int .i64 s.b), .lit (.int .i64 s.c), .sl 16 s.l.length (digF s.l)]
def r4PV (s : R4) : PV := .w (.agg (r4L s))
def encR4 (s : R4) : List UInt8 := encInts [s.a, s.b, s.c] ++ encDigs s.l
def asR4 : PV → Option (Prop × R4)
  | .w (.agg [.lit (.int .i64 a), .lit (.int .i64 b), .lit (.int .i64 c), d]) => (match dgOf d with
    | some (p, l) => some (p ∧ i64P a ∧ i64P b ∧ i64P c, ⟨a, b, c, l⟩)
    | none => none)
  | _ => none
theorem asR4_ok {C : Ctx} {v : PV} {p : Prop} {m : R4} {x : Value} (h : asR4 v = some (p, m)) (hp : p) (hv : RV C v x) : RV C (r4PV m) x ∧ R4Ok m := by
  unfold asR4 at h
  split at h
  · rename_i a b c d
    split at h
    · rename_i q l he
      cases h
      obtain ⟨hq, ha, hb, hc⟩ := hp
      cases hv with
      | w hv => cases hv with
        | agg hv =>
          generalize hq2 : Array.toList _ = qq at hv
          cases hv with
          | cons h1 hv => cases hv with
            | cons h2 hv => cases hv with
              | cons h3 hv => cases hv with
                | cons h4 hv =>
                  obtain ⟨k2, k3⟩ := dgOf_sl he hq h4
                  refine ⟨.w (.agg ?_), ⟨ha, hb, hc, k3⟩⟩
                  rw [hq2]
                  exact .cons h1 (.cons h2 (.cons h3 (.cons k2 hv)))
    · cases h
  · cases h
theorem encR4_len {s : R4} (h : R4Ok s) : (encR4 s).length ≤ 40 + 16 * s.l.length := by
  have h1 := intsP_len [s.a, s.b, s.c] 3 (by simp)
  have h2 := dgsP_len h.l s.l.length (Nat.le_refl _)
  unfold encR4 encInts encDigs
  rw [List.length_append]
  have h3 : (intsP [s.a, s.b, s.c] [s.a, s.b, s.c].length).length ≤ 30 := h1
  omega
set_option maxRecDepth 100000 in
theorem manifest_fun (s : R4) (hs : R4Ok s) (hl : s.l.length ≤ 1000) : FunRow Tryd.prog ShaMem 88 [r4PV s] 5 1 (encR4 s).length (byF (encR4 s)) := by
  have M := qu1M
  have hb1 : Tryd.prog.types[5].bytes = 1 := by kernel_rfl
  have hs1 : Tryd.prog.types[5].size = 1 := by kernel_rfl
  have hlen := encR4_len hs
  refine funRow_of Tryd.func88 rfl rfl sha_ext (fun A hS hn hI => ?_)
  refine tri_reg M hI hn (outs := ?_) (s' := ?_) ?_ ?_ ?_ ?_
  rotate_left 2
  · rfl
  · kernel_rfl
  · simp
  refine tri_reg M hI hn (outs := ?_) (s' := ?_) ?_ ?_ ?_ ?_
  rotate_left 2
  · rfl
  · kernel_rfl
  · simp
    refine ⟨fun i hi x hx => ?_, ⟨fun i hi => ?_, ?_⟩, hl, ?_⟩
    · have : i = 0 ∨ i = 1 ∨ i = 2 := by omega
      rcases this with rfl | rfl | rfl <;> (change x ∈ [_] at hx; rw [List.mem_singleton] at hx; subst hx; rfl)
    · have : i = 0 ∨ i = 1 ∨ i = 2 := by omega
      rcases this with rfl | rfl | rfl <;> rfl
    · change ∀ z ∈ [s.a, s.b, s.c], i64P z
      simp
      exact ⟨hs.a, hs.b, hs.c⟩
    · rw [hb1]
      change ((encInts [s.a, s.b, s.c]).length + (encDigs s.l).length) * 1 ≤ _
      rw [encR4, List.length_append] at hlen
      omega
  refine tri_conv (s' := ⟨[(2, none, pv1 (.ow 1007 0 1 0 (encR4 s).length))], [(1007, none, 0, .arr 5 1 (encR4 s).length (byF (encR4 s)))]⟩) (fun a w hg => (hg.reset (kT := [2]) (kO := [1007]) (by rfl) ?_).same ?_ ?_) ?_
  · simp only [All, and_true, List.append_nil]
    exact fun i _ => cold_app (fun _ => rfl) (fun _ => rfl) i
  · refine .cons ?_ .nil
    rw [hs1, rowD_digF, encR4, List.length_append]
    rfl
  · refine .cons (.arr ?_ (fun i hi => ?_)) .nil
    · rw [rowD_digF, encR4, List.length_append]
      rfl
    · simp only [rowD_digF, Nat.zero_add]
      exact congrFun (byF_app (encInts [s.a, s.b, s.c]) (encDigs s.l)) i
  refine tri_ret (fun a w hg => ⟨.inr rfl, _, ?_, hg⟩)
  refine rowTo_of (x := 1007) (ver := 0) (g := none) (f := ?_) (out := ?_) ?_ ?_ ?_ ?_ ?_ trivial ?_
  rotate_left 2
  · rfl
  · simp
  · rfl
  · rfl
  · rfl
  intro i hi
  exact ⟨rfl, rfl⟩
set_option maxRecDepth 100000 in
theorem kset_fun (s : R4) (hs : R4Ok s) (hl : s.l.length ≤ 1000) : FunRow Tryd.prog ShaMem 83 [r4PV s] 5 1 (encR4 s).length (byF (encR4 s)) := by
  have M := qu1M
  have hb1 : Tryd.prog.types[5].bytes = 1 := by kernel_rfl
  have hs1 : Tryd.prog.types[5].size = 1 := by kernel_rfl
  have hlen := encR4_len hs
  refine funRow_of Tryd.func83 rfl rfl sha_ext (fun A hS hn hI => ?_)
  refine tri_reg M hI hn (outs := ?_) (s' := ?_) ?_ ?_ ?_ ?_
  rotate_left 2
  · rfl
  · kernel_rfl
  · simp
  refine tri_reg M hI hn (outs := ?_) (s' := ?_) ?_ ?_ ?_ ?_
  rotate_left 2
  · rfl
  · kernel_rfl
  · simp
    refine ⟨fun i hi x hx => ?_, ⟨fun i hi => ?_, ?_⟩, hl, ?_⟩
    · have : i = 0 ∨ i = 1 ∨ i = 2 := by omega
      rcases this with rfl | rfl | rfl <;> (change x ∈ [_] at hx; rw [List.mem_singleton] at hx; subst hx; rfl)
    · have : i = 0 ∨ i = 1 ∨ i = 2 := by omega
      rcases this with rfl | rfl | rfl <;> rfl
    · change ∀ z ∈ [s.a, s.b, s.c], i64P z
      simp
      exact ⟨hs.a, hs.b, hs.c⟩
    · rw [hb1]
      change ((encInts [s.a, s.b, s.c]).length + (encDigs s.l).length) * 1 ≤ _
      rw [encR4, List.length_append] at hlen
      omega
  refine tri_conv (s' := ⟨[(2, none, pv1 (.ow 1007 0 1 0 (encR4 s).length))], [(1007, none, 0, .arr 5 1 (encR4 s).length (byF (encR4 s)))]⟩) (fun a w hg => (hg.reset (kT := [2]) (kO := [1007]) (by rfl) ?_).same ?_ ?_) ?_
  · simp only [All, and_true, List.append_nil]
    exact fun i _ => cold_app (fun _ => rfl) (fun _ => rfl) i
  · refine .cons ?_ .nil
    rw [hs1, rowD_digF, encR4, List.length_append]
    rfl
  · refine .cons (.arr ?_ (fun i hi => ?_)) .nil
    · rw [rowD_digF, encR4, List.length_append]
      rfl
    · simp only [rowD_digF, Nat.zero_add]
      exact congrFun (byF_app (encInts [s.a, s.b, s.c]) (encDigs s.l)) i
  refine tri_ret (fun a w hg => ⟨.inr rfl, _, ?_, hg⟩)
  refine rowTo_of (x := 1007) (ver := 0) (g := none) (f := ?_) (out := ?_) ?_ ?_ ?_ ?_ ?_ trivial ?_
  rotate_left 2
  · rfl
  · simp
  · rfl
  · rfl
  · rfl
  intro i hi
  exact ⟨rfl, rfl⟩
def spR4 : Spec := rowSpec fun xs => match xs with
  | [v] => (match asR4 v with
    | some (p, m) => some (p ∧ m.l.length ≤ 1000, 5, 1, (encR4 m).length, byF (encR4 m))
    | none => none)
  | _ => none
theorem spR4_ok {f : Nat} (hent : ∀ args w, (callFunc f args).run Tryd.prog w = .ok (.enter f args) w) (h : ∀ s, R4Ok s → s.l.length ≤ 1000 → FunRow Tryd.prog ShaMem f [r4PV s] 5 1 (encR4 s).length (byF (encR4 s))) : SpecOk Tryd.prog ShaMem f spR4 := by
  refine rowSpec_ok hent (fun xs p e n len f' hg hp => ?_)
  split at hg
  · rename_i c
    split at hg
    · rename_i q l he
      cases hg
      intro w ok0 vs hI hV
      match vs, hV with
      | [v], ⟨k1, _⟩ =>
        obtain ⟨k2, k3⟩ := asR4_ok he hp.1 k1
        exact h l k3 hp.2 w ok0 [v] hI ⟨k2, trivial⟩
    · cases hg
  · cases hg
def quL2 : List (Nat × Spec) := (88, spR4) :: (83, spR4) :: quL1
theorem qu2_ok : ∀ p ∈ quL2, SpecOk Tryd.prog ShaMem p.1 p.2 := by
  intro p hp
  simp only [quL2, List.mem_cons] at hp
  rcases hp with rfl | rfl | hp
  · exact spR4_ok (call_enters Tryd.func88 (by kernel_rfl) rfl) manifest_fun
  · exact spR4_ok (call_enters Tryd.func83 (by kernel_rfl) rfl) kset_fun
  · exact qu1_ok p hp
theorem qu2M : Mach Tryd.prog ShaMem (find quL2) := ⟨specs_of qu2_ok, mixed_⟩
/-! ### Digests -/
def r4Dig (tag : Int) (s : R4) : List UInt8 := digestS tag [encR4 s]
set_option maxRecDepth 100000 in
theorem mdig_fun (s : R4) (hs : R4Ok s) (hl : s.l.length ≤ 600) : FunOk Tryd.prog ShaMem 47 true [r4PV s] (.w (.agg [.bs 16 (r4Dig 12 s)])) := by
  have M := qu2M
  have hlen := encR4_len hs
  refine funOk_of Tryd.func47 rfl rfl sha_ext (fun A hS hn hI => ?_)
  refine tri_reg M hI hn (outs := ?_) (s' := ?_) ?_ ?_ ?_ ?_
  rotate_left 2
  · rfl
  · kernel_rfl
  · simp
  refine tri_reg M hI hn (outs := ?_) (s' := ?_) ?_ ?_ ?_ ?_
  rotate_left 2
  · rfl
  · kernel_rfl
  · simp
    exact ⟨⟨⟨hs.a, hs.b, hs.c⟩, by omega⟩, by show (encR4 s).length ≤ _; omega⟩
  refine tri_ret (fun a w hg => ⟨.inr rfl, _, ?_, hg⟩)
  refine retTo_cold (out := ?_) ?_ ?_ ?_ ?_ ?_
  rotate_left 1
  · rfl
  · simp
  · rfl
  · rfl
  simp only [rowD_digF, rowB_byF]
  rfl
set_option maxRecDepth 100000 in
theorem kdig_fun (s : R4) (hs : R4Ok s) (hl : s.l.length ≤ 600) : FunOk Tryd.prog ShaMem 42 true [r4PV s] (.w (.agg [.bs 16 (r4Dig 13 s)])) := by
  have M := qu2M
  have hlen := encR4_len hs
  refine funOk_of Tryd.func42 rfl rfl sha_ext (fun A hS hn hI => ?_)
  refine tri_reg M hI hn (outs := ?_) (s' := ?_) ?_ ?_ ?_ ?_
  rotate_left 2
  · rfl
  · kernel_rfl
  · simp
  refine tri_reg M hI hn (outs := ?_) (s' := ?_) ?_ ?_ ?_ ?_
  rotate_left 2
  · rfl
  · kernel_rfl
  · simp
    exact ⟨⟨⟨hs.a, hs.b, hs.c⟩, by omega⟩, by show (encR4 s).length ≤ _; omega⟩
  refine tri_ret (fun a w hg => ⟨.inr rfl, _, ?_, hg⟩)
  refine retTo_cold (out := ?_) ?_ ?_ ?_ ?_ ?_
  rotate_left 1
  · rfl
  · simp
  · rfl
  · rfl
  simp only [rowD_digF, rowB_byF]
  rfl
def stDig (c : ByteArray) : List UInt8 := digestS 6 [c.data.toList]
set_option maxRecDepth 100000 in
theorem sdig_fun (c : ByteArray) (hl : c.size ≤ 10000) : FunOk Tryd.prog ShaMem 46 true [lit1 (.string c)] (.w (.agg [.bs 16 (stDig c)])) := by
  have M := qu2M
  refine funOk_of Tryd.func46 rfl rfl sha_ext (fun A hS hn hI => ?_)
  refine tri_reg M hI hn (outs := ?_) (s' := ?_) ?_ ?_ ?_ ?_
  rotate_left 2
  · rfl
  · kernel_rfl
  · simp
  refine tri_reg M hI hn (outs := ?_) (s' := ?_) ?_ ?_ ?_ ?_
  rotate_left 2
  · rfl
  · kernel_rfl
  · simp
    rw [show c.size = c.data.toList.length from Array.length_toList.symm] at hl ⊢
    rw [rowB_byF]
    exact ⟨by omega, hl⟩
  refine tri_ret (fun a w hg => ⟨.inr rfl, _, ?_, hg⟩)
  refine retTo_cold (out := ?_) ?_ ?_ ?_ ?_ ?_
  rotate_left 1
  · rfl
  · simp
  · rfl
  · rfl
  rw [show c.size = c.data.toList.length from Array.length_toList.symm, rowB_byF]
  rfl

end Go.Proofs.YtgndblhpfjkfhaaDoor.Pv
