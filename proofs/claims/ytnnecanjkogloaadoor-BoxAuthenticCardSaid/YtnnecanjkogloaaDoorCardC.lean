/-
  Opening arguments: a box.
-/
import Derived.Test.YtnnecanjkogloaaDoorBoxC
import Derived.Test.YtnnecanjkogloaaDoorCardB
namespace Go.Proofs.YtnnecanjkogloaaDoor
open Go.ChangeShapes Go.WideShapes Go.ChangeAt Go.RowKit Go.Joins Go.Deep

theorem open_box {H : Type} {enc : TypeId × Value → H} {v : Value} {d : DataW H} {p : List MemPlace} {W : World} {base : Nat} (hv : Value.okWide Tryd.prog W .any base 47 v)
    (h : DataW.Trod enc Tryd.prog W 0 (fun _ => true) true 47 v d p) : ∃ (n : Int) (c : ByteArray) (t : List UInt8), t.length = 16 ∧ v = .agg (boxV n c t) ∧ -9223372036854775808 ≤ n ∧ n ≤ 9223372036854775807 ∧ c.size ≤ maxLen := by
  obtain ⟨cs, rfl, _⟩ := okWide_struct Tryd.underlying47 hv
  obtain ⟨m, h⟩ := h
  have h' : DataW.trod enc Tryd.prog W 0 (fun _ => true) true m 47 cs.toList = some (d, p) := h
  obtain ⟨xs, n', _, _, hlen, hxl, hf⟩ := DataW.trod_struct Tryd.underlying47 h'
  have k0 : Tryd.prog.cellsOf 3 = 1 := by kernel_rfl
  have k1 : Tryd.prog.cellsOf 9 = 1 := by kernel_rfl
  have k2 : Tryd.prog.cellsOf 32 = 16 := by kernel_rfl
  have k3 : Tryd.prog.cellsOf 47 = 18 := by kernel_rfl
  rw [k3] at hlen
  have g0 := hf 0 _ rfl
  have g1 := hf 1 _ rfl
  have g2 := hf 2 _ rfl
  simp only [List.getElem_toArray, List.getElem_cons_zero, List.getElem_cons_succ] at g0 g1 g2
  rw [k0] at g0
  rw [k1] at g1
  rw [k2] at g2
  match hL : cs.toList, hlen with
  | a :: b :: l, hlen =>
    rw [hL] at g0 g1 g2
    have hl : l.length = 16 := by simpa using hlen
    have hxl3 : xs.length = 3 := hxl
    obtain ⟨y0, y1, y2, rfl⟩ : ∃ y0 y1 y2, xs = [y0, y1, y2] := by
      match xs, hxl3 with
      | [y0, y1, y2], _ => exact ⟨y0, y1, y2, rfl⟩
    have e0 : ((a :: b :: l).drop 0).take 1 = [a] := rfl
    have e1 : ((a :: b :: l).drop 1).take 1 = [b] := rfl
    have e2 : ((a :: b :: l).drop 2).take 16 = l := List.take_of_length_le (by simp [hl])
    rw [e0] at g0
    rw [e1] at g1
    rw [e2] at g2
    obtain ⟨z, hz, _, hw⟩ := DataW.trod_int Tryd.underlying3 g0
    obtain ⟨s, hs, _, hsz⟩ := DataW.trod_string Tryd.underlying9 g1
    obtain ⟨t, ht, htl⟩ := trod_bytesArr Tryd.underlying32 Tryd.underlying5 (by kernel_rfl) (by kernel_rfl) g2
    cases hz
    cases hs
    subst htl
    have hw' := bounds_i64 hw
    refine ⟨z, s, t, ht, ?_, hw'.1, hw'.2, hsz⟩
    unfold boxV
    rw [← hL, Array.toArray_toList]

end Go.Proofs.YtnnecanjkogloaaDoor
