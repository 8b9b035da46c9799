/-
  Opening the arguments of the laws of sealing.
-/
import Derived.Test.YtgndblhpfjkfhaaDoorQaP
namespace Go.Proofs.YtgndblhpfjkfhaaDoor.Pv
open Go.ChangeShapes Go.WideShapes Go.ChangeAt Go.RowKit Go.Joins Go.Deep

section
variable {H : Type} {enc : TypeId × Value → H} {v : Value} {d : DataW H} {p : List MemPlace} {W : World} {base : Nat}
set_option maxRecDepth 100000 in
theorem open_seal (hv : Value.okWide Tryd.prog W .any base 41 v) (h : DataW.Trod enc Tryd.prog W 0 (fun _ => true) true 41 v d p) :
    ∃ s : SealS, i64P s.epo ∧ (∀ b ∈ s.boxes, i64P b.nonce ∧ b.tag.length = 16) ∧ s.boxes.length < 9223372036854775808 ∧ RV (argX W) (sealPV s) v := by
  obtain ⟨cs, rfl, hfl, hf⟩ := open_parts (ns := [1, 1, 1]) Tryd.underlying41 (by kernel_rfl) (by kernel_rfl) hv h
  obtain ⟨m0, y0, t0⟩ := hf 0 _ rfl
  obtain ⟨m1, y1, t1⟩ := hf 1 _ rfl
  obtain ⟨m2, y2, t2⟩ := hf 2 _ rfl
  have hcs : cs = (splitBy [1, 1, 1] cs).getD 0 [] ++ ((splitBy [1, 1, 1] cs).getD 1 [] ++ ((splitBy [1, 1, 1] cs).getD 2 [] ++ [])) := hfl.symm
  obtain ⟨s, e0, _, _⟩ := DataW.trod_string Tryd.underlying9 t0
  obtain ⟨z, e1, _, hw⟩ := DataW.trod_int Tryd.underlying3 t1
  obtain ⟨v2, boxes, e2, r2, b2⟩ := trod_boxes t2
  rw [e0, e1, e2] at hcs
  have hb := bounds_i64 hw
  refine ⟨⟨s, z, boxes⟩, ⟨hb.1, by have := hb.2; show z < _; omega⟩, b2, sl_len r2, ?_⟩
  rw [hcs]
  exact .w (.agg (.cons (.lit rfl) (.cons (.lit rfl) (.cons r2 .nil))))
end

end Go.Proofs.YtgndblhpfjkfhaaDoor.Pv
