
import Derived.Test.YtoefmncdloffaaaDoorSqP
import Derived.Test.YtoefmncdloffaaaDoorSqQ
namespace Go.Proofs.YtoefmncdloffaaaDoor.Pv
open Go.ChangeShapes Go.WideShapes Go.ChangeAt Go.RowKit Go.Joins Go.Deep
section
variable {H : Type} {enc : TypeId × Value → H} {w : World} {base : Nat} {spare : Nat → Bool} {held : Bool}
theorem int_in8 {z : Int} (hw : (Lit.int .i64 z).wf = true) : i64P z := by
  have hb := bounds_i64 hw
  exact ⟨hb.1, by have := hb.2; omega⟩
set_option maxRecDepth 100000 in
theorem trod_res {fuel : Nat} {cs : List Value} {x : DataW H × List MemPlace} (h : DataW.trod enc Tryd.prog w base spare held fuel 118 cs = some x) : ∃ r : Res, RL (argX w) (resPC r) cs := by
  obtain ⟨hfl, hf⟩ := trod_split (ns := [1, 1]) Tryd.underlying118 (by kernel_rfl) (by kernel_rfl) h
  obtain ⟨m0, y0, t0⟩ := hf 0 _ rfl
  obtain ⟨m1, y1, t1⟩ := hf 1 _ rfl
  have hcs : cs = (splitBy [1, 1] cs).getD 0 [] ++ ((splitBy [1, 1] cs).getD 1 [] ++ []) := hfl.symm
  obtain ⟨z, e0, _, hw⟩ := DataW.trod_int Tryd.underlying3 t0
  obtain ⟨s, e1, _, _⟩ := DataW.trod_string Tryd.underlying9 t1
  rw [e0, e1] at hcs
  refine ⟨⟨z, s⟩, ?_⟩
  rw [hcs]
  exact .cons (xs := [_]) (.lit rfl) (.cons (xs := [_]) (.lit rfl) .nil)
set_option maxRecDepth 100000 in
theorem trod_ress {fuel : Nat} {cs : List Value} {x : DataW H × List MemPlace} (h : DataW.trod enc Tryd.prog w base spare held fuel 56 cs = some x) : ∃ (v : Value) (l : List Res), cs = [v] ∧ R (argX w) (.sl 2 l.length (resF l)) [v] := by
  obtain ⟨v, n, E, m, Y, rfl, hr, hE⟩ := trod_reads (k := 2) Tryd.underlying56 (by kernel_rfl) (by omega) h
  have hc : ∀ i, ∃ s : Res, i < n → RL (argX w) (resPC s) (E i) := fun i => by
    by_cases hi : i < n
    · obtain ⟨s, hs⟩ := trod_res (hE i hi).2
      exact ⟨s, fun _ => hs⟩
    · exact ⟨⟨0, noBytes⟩, fun h => absurd h hi⟩
  obtain ⟨S, hS⟩ := Classical.axiomOfChoice hc
  refine ⟨v, (List.range n).map S, rfl, ?_⟩
  rw [List.length_map, List.length_range]
  refine .sl hr (fun b hb hlt => ⟨trivial, hr.own_lt (by omega) hlt b hb⟩) (fun i hi => ?_)
  rw [flat_win E 2 (List.range n) (fun a ha => (hE a (List.mem_range.1 ha)).1) i (by simpa using hi)]
  have := hS i hi
  unfold resF
  rw [List.getD_eq_getElem?_getD, List.getElem?_map, List.getElem?_range hi, List.getElem_range]
  exact this
end
section
variable {H : Type} {enc : TypeId × Value → H} {v : Value} {d : DataW H} {p : List MemPlace} {W : World} {base : Nat}
set_option maxRecDepth 100000 in
theorem open_ress (hv : Value.okWide Tryd.prog W .any base 56 v) (h : DataW.Trod enc Tryd.prog W 0 (fun _ => true) true 56 v d p) :
    ∃ l : List Res, RV (argX W) (pv1 (.sl 2 l.length (resF l))) v ∧ l.length ≤ 9223372036854775807 := by
  obtain ⟨A2, len2, cap2, rfl⟩ := okWide_slice Tryd.underlying56 hv
  obtain ⟨m2, h⟩ := h
  obtain ⟨v, l, hl, hp⟩ := trod_ress h
  simp [Value.cells] at hl
  subst hl
  exact ⟨l, .w (.one hp), by have := sl_len hp; omega⟩
end
end Go.Proofs.YtoefmncdloffaaaDoor.Pv
