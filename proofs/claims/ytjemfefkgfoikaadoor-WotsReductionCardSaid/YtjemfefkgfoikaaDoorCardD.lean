/-
  Opening arguments: slices of digests.
-/
import Derived.Test.YtjemfefkgfoikaaDoorDigs
import Derived.Test.YtjemfefkgfoikaaDoorCardB
namespace Go.Proofs.YtjemfefkgfoikaaDoor
open Go.ChangeShapes Go.WideShapes Go.ChangeAt Go.RowKit Go.Joins Go.Deep

theorem trod_digs {H : Type} {enc : TypeId × Value → H} {P : Program} {w : World} {base : Nat} {spare : Nat → Bool} {held : Bool} {t s e : TypeId} {fuel : Nat} {cs : List Value} {x : DataW H × List MemPlace} (ht : P.underlying t = some (.slice s)) (hs : P.underlying s = some (.array 16 e)) (he : P.underlying e = some (.int .u8)) (hks : P.cellsOf s = 16) (hke : P.cellsOf e = 1) (h : DataW.trod enc P w base spare held fuel t cs = some x) :
    ∃ (v : Value) (ds : List (List UInt8)), cs = [v] ∧ Digs w v ds := by
  obtain ⟨v, n, E, m, Y, rfl, hr, hE⟩ := trod_reads ht hks (by omega) h
  obtain ⟨l, hl, h2, h3⟩ := reads_list (R := fun d : List UInt8 => d.length = 16) (fun d => d.map u8v) fun i hi => by
    obtain ⟨d, h4, h5⟩ := trod_bytesArr hs he hke hks (hE i hi).2
    exact ⟨d, h5, h4⟩
  refine ⟨v, l, rfl, h3, ?_⟩
  rw [h2] at hr
  rw [hl]
  exact hr
set_option maxRecDepth 100000 in
theorem open_digs {H : Type} {enc : TypeId × Value → H} {v : Value} {d : DataW H} {p : List MemPlace} {W : World} {base : Nat} (hv : Value.okWide Tryd.prog W .any base 24 v)
    (h : DataW.Trod enc Tryd.prog W 0 (fun _ => true) true 24 v d p) : ∃ ds, Digs W v ds := by
  obtain ⟨A2, len2, cap2, rfl⟩ := okWide_slice Tryd.underlying24 hv
  obtain ⟨m2, h⟩ := h
  obtain ⟨v, ds, hl, hp⟩ := trod_digs Tryd.underlying24 Tryd.underlying23 Tryd.underlying5 (by kernel_rfl) (by kernel_rfl) h
  simp [Value.cells] at hl
  subst hl
  exact ⟨ds, hp⟩

end Go.Proofs.YtjemfefkgfoikaaDoor
