
import Derived.Test.YtoefmncdloffaaaDoorLsL
import Derived.Test.YtoefmncdloffaaaDoorSqQ
import Derived.Test.YtoefmncdloffaaaDoorSqP
namespace Go.Proofs.YtoefmncdloffaaaDoor.Pv
open Go.ChangeShapes Go.WideShapes Go.ChangeAt Go.RowKit Go.Joins Go.Deep
section
variable {H : Type} {enc : TypeId × Value → H} {w : World} {base : Nat} {spare : Nat → Bool} {held : Bool}
set_option maxRecDepth 100000 in
theorem trod_upd {fuel : Nat} {cs : List Value} {x : DataW H × List MemPlace} (h : DataW.trod enc Tryd.prog w base spare held fuel 74 cs = some x) : ∃ u : Upd, RL (argX w) (updPC u) cs := by
  obtain ⟨hfl, hf⟩ := trod_split (ns := [1, 1, 1, 1]) Tryd.underlying74 (by kernel_rfl) (by kernel_rfl) h
  obtain ⟨m0, y0, t0⟩ := hf 0 _ rfl
  obtain ⟨m1, y1, t1⟩ := hf 1 _ rfl
  obtain ⟨m2, y2, t2⟩ := hf 2 _ rfl
  obtain ⟨m3, y3, t3⟩ := hf 3 _ rfl
  have hcs : cs = (splitBy [1, 1, 1, 1] cs).getD 0 [] ++ ((splitBy [1, 1, 1, 1] cs).getD 1 [] ++ ((splitBy [1, 1, 1, 1] cs).getD 2 [] ++ ((splitBy [1, 1, 1, 1] cs).getD 3 [] ++ []))) := hfl.symm
  obtain ⟨z0, e0, _, _⟩ := DataW.trod_int Tryd.underlying3 t0
  obtain ⟨s, e1, _, _⟩ := DataW.trod_string Tryd.underlying9 t1
  obtain ⟨z2, e2, _, _⟩ := DataW.trod_int Tryd.underlying3 t2
  obtain ⟨z3, e3, _, _⟩ := DataW.trod_int Tryd.underlying3 t3
  rw [e0, e1, e2, e3] at hcs
  refine ⟨⟨z0, s, z2, z3⟩, ?_⟩
  rw [hcs]
  exact .cons (xs := [_]) (.lit rfl) (.cons (xs := [_]) (.lit rfl) (.cons (xs := [_]) (.lit rfl) (.cons (xs := [_]) (.lit rfl) .nil)))
set_option maxRecDepth 100000 in
theorem trod_upds {fuel : Nat} {cs : List Value} {x : DataW H × List MemPlace} (h : DataW.trod enc Tryd.prog w base spare held fuel 68 cs = some x) : ∃ (v : Value) (l : List Upd), cs = [v] ∧ R (argX w) (.sl 4 l.length (updF l)) [v] := by
  obtain ⟨v, n, E, m, Y, rfl, hr, hE⟩ := trod_reads (k := 4) Tryd.underlying68 (by kernel_rfl) (by omega) h
  have hc : ∀ i, ∃ s : Upd, i < n → RL (argX w) (updPC s) (E i) := fun i => by
    by_cases hi : i < n
    · obtain ⟨s, hs⟩ := trod_upd (hE i hi).2
      exact ⟨s, fun _ => hs⟩
    · exact ⟨⟨0, noBytes, 0, 0⟩, fun h => absurd h hi⟩
  obtain ⟨S, hS⟩ := Classical.axiomOfChoice hc
  refine ⟨v, (List.range n).map S, rfl, ?_⟩
  rw [List.length_map, List.length_range]
  refine .sl hr (fun b hb hlt => ⟨trivial, hr.own_lt (by omega) hlt b hb⟩) (fun i hi => ?_)
  rw [flat_win E 4 (List.range n) (fun a ha => (hE a (List.mem_range.1 ha)).1) i (by simpa using hi)]
  have := hS i hi
  unfold updF
  rw [List.getD_eq_getElem?_getD, List.getElem?_map, List.getElem?_range hi, List.getElem_range]
  exact this
end
section
variable {H : Type} {enc : TypeId × Value → H} {v : Value} {d : DataW H} {p : List MemPlace} {W : World} {base : Nat}
set_option maxRecDepth 100000 in
theorem open_upds (hv : Value.okWide Tryd.prog W .any base 68 v) (h : DataW.Trod enc Tryd.prog W 0 (fun _ => true) true 68 v d p) :
    ∃ l : List Upd, RV (argX W) (pv1 (.sl 4 l.length (updF l))) v ∧ l.length ≤ 9223372036854775807 := by
  obtain ⟨A2, len2, cap2, rfl⟩ := okWide_slice Tryd.underlying68 hv
  obtain ⟨m2, h⟩ := h
  obtain ⟨v, l, hl, hp⟩ := trod_upds h
  simp [Value.cells] at hl
  subst hl
  exact ⟨l, .w (.one hp), by have := sl_len hp; omega⟩
end
end Go.Proofs.YtoefmncdloffaaaDoor.Pv
