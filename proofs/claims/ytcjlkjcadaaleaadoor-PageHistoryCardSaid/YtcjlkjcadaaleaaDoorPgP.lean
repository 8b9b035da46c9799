/-
  Opening the arguments of the laws of pages: writes.
-/
import Derived.Test.YtcjlkjcadaaleaaDoorPgQ
import Derived.Test.YtcjlkjcadaaleaaDoorQpM
namespace Go.Proofs.YtcjlkjcadaaleaaDoor.Pv
open Go.ChangeShapes Go.WideShapes Go.ChangeAt Go.RowKit Go.Joins Go.Deep

theorem bounds_byte {z : Int} (h : (Lit.int .u8 z).wf = true) : 0 ≤ z ∧ z ≤ 255 := by
  simp [Lit.wf, IntKind.min, IntKind.max, IntKind.signed, IntKind.bits] at h
  omega
def writeCells (b : WriteS) : List Value := [.int .u8 (b.page : Int)] ++ ([.string b.content] ++ [])
section
variable {H : Type} {enc : TypeId × Value → H} {w : World} {base : Nat} {spare : Nat → Bool} {held : Bool}
theorem trod_write {fuel : Nat} {cs : List Value} {x : DataW H × List MemPlace} (h : DataW.trod enc Tryd.prog w base spare held fuel 70 cs = some x) : ∃ b : WriteS, cs = writeCells b ∧ b.page < 256 := by
  obtain ⟨hfl, hf⟩ := trod_split (ns := [1, 1]) Tryd.underlying70 (by kernel_rfl) (by kernel_rfl) h
  obtain ⟨m0, y0, t0⟩ := hf 0 _ rfl
  obtain ⟨m1, y1, t1⟩ := hf 1 _ rfl
  have hcs : cs = (splitBy [1, 1] cs).getD 0 [] ++ ((splitBy [1, 1] cs).getD 1 [] ++ []) := hfl.symm
  obtain ⟨z, e0, _, hw⟩ := DataW.trod_int Tryd.underlying5 t0
  obtain ⟨s, e1, _, _⟩ := DataW.trod_string Tryd.underlying9 t1
  have hb := bounds_byte hw
  obtain ⟨k, rfl⟩ : ∃ k : Nat, z = (k : Int) := ⟨z.toNat, by omega⟩
  rw [e0, e1] at hcs
  exact ⟨⟨k, s⟩, hcs, show k < 256 by omega⟩
theorem trod_writes {fuel : Nat} {cs : List Value} {x : DataW H × List MemPlace} (h : DataW.trod enc Tryd.prog w base spare held fuel 65 cs = some x) : ∃ (v : Value) (l : List WriteS), cs = [v] ∧ R (argC w) (.sl 2 l.length (writeF l)) [v] ∧ ∀ b ∈ l, b.page < 256 := by
  obtain ⟨v, n, E, m, Y, rfl, hr, hE⟩ := trod_reads (k := 2) Tryd.underlying65 (by kernel_rfl) (by omega) h
  obtain ⟨l, hl, h2, h3⟩ := reads_list (R := fun b : WriteS => b.page < 256) writeCells fun i hi => trod_write (hE i hi).2
  refine ⟨v, l, rfl, ?_, h3⟩
  rw [h2, ← hl] at hr
  refine rsl_of (g := writeCells) (by omega) (fun b _ => rfl) hr (fun C i hi => ?_)
  unfold writeF
  rw [List.getD_eq_getElem?_getD, List.getElem?_eq_getElem hi]
  exact .cons (.lit rfl) (.cons (.lit rfl) .nil)
end
section
variable {H : Type} {enc : TypeId × Value → H} {v : Value} {d : DataW H} {p : List MemPlace} {W : World} {base : Nat}
set_option maxRecDepth 100000 in
theorem open_writes (hv : Value.okWide Tryd.prog W .any base 65 v) (h : DataW.Trod enc Tryd.prog W 0 (fun _ => true) true 65 v d p) :
    ∃ l : List WriteS, RV (argC W) (pv1 (.sl 2 l.length (writeF l))) v ∧ ∀ b ∈ l, b.page < 256 := by
  obtain ⟨A2, len2, cap2, rfl⟩ := okWide_slice Tryd.underlying65 hv
  obtain ⟨m2, h⟩ := h
  obtain ⟨v, l, hl, hp, hb⟩ := trod_writes h
  simp [Value.cells] at hl
  subst hl
  exact ⟨l, .w (.one hp), hb⟩
set_option maxRecDepth 100000 in
theorem open_byte (hv : Value.okWide Tryd.prog W .any base 5 v) (h : DataW.Trod enc Tryd.prog W 0 (fun _ => true) true 5 v d p) : ∃ k : Nat, v = .int .u8 (k : Int) ∧ k < 256 := by
  obtain ⟨z, rfl, _, _, hw⟩ := open_int Tryd.underlying5 hv h
  have hb := bounds_byte hw
  obtain ⟨k, rfl⟩ : ∃ k : Nat, z = (k : Int) := ⟨z.toNat, by omega⟩
  exact ⟨k, rfl, by omega⟩
end

end Go.Proofs.YtcjlkjcadaaleaaDoor.Pv
