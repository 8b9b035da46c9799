/-
  The frame of a law: what its arguments read as, and what is left of the statement but its walk.
-/
import Derived.Test.YtmlekdmnpljcoaaRows
import Derived.Test.YtmlekdmnpljcoaaBase
import Derived.ProofKit
import Derived.OpenShut
import Derived.ShutString
import Derived.ChangeOld
import Derived.Lib.SmallJoins
import Derived.Deep.Slices
namespace Go.Proofs.Ytmlekdmnpljcoaa
open Go.ChangeShapes Go.WideShapes Go.ChangeAt Go.RowKit Go.Joins Go.Deep
open Go.ChangeMaps (open_string shut_string)
set_option linter.unusedVariables false

theorem own : ownKnob Try.prog.godebug = none := by kernel_rfl
theorem laidOut : laidOutB Try.prog = true := by kernel_rfl

theorem reads_list {α : Type} {n : Nat} {E : Nat → List Value} {R : α → Prop} (g : α → List Value) (h : ∀ i, i < n → ∃ a, E i = g a ∧ R a) : ∃ l : List α, l.length = n ∧ (List.range n).flatMap E = l.flatMap g ∧ ∀ a ∈ l, R a := by
  induction n with
  | zero => exact ⟨[], rfl, rfl, fun a h => by cases h⟩
  | succ n ih =>
    obtain ⟨l, h1, h2, h3⟩ := ih fun i hi => h i (by omega)
    obtain ⟨a, h4, h5⟩ := h n (by omega)
    refine ⟨l ++ [a], by simp [h1], ?_, fun b hb => ?_⟩
    · rw [List.range_succ, List.flatMap_append, List.flatMap_append, h2]
      simp [h4]
    · rcases List.mem_append.1 hb with hb | hb
      · exact h3 b hb
      · rw [List.mem_singleton.1 hb]; exact h5

section
variable {H : Type} {enc : TypeId × Value → H} {P : Program} {w : World} {base : Nat} {spare : Nat → Bool} {held : Bool}
/-- A slice: its cells, and what each element reads as. -/
theorem trod_reads {t e : TypeId} {k : Nat} {fuel : Nat} {cs : List Value} {x : DataW H × List MemPlace} (ht : P.underlying t = some (.slice e)) (hk : P.cellsOf e = k) (hk0 : 0 < k) (h : DataW.trod enc P w base spare held fuel t cs = some x) :
    ∃ (v : Value) (n : Nat) (E : Nat → List Value) (m : Nat) (Y : Nat → DataW H × List MemPlace), cs = [v] ∧ Reads w k v n ((List.range n).flatMap E) ∧ ∀ i, i < n → (E i).length = k ∧ DataW.trod enc P w base spare held m e (E i) = some (Y i) := by
  rcases open_slice ht h with ⟨rfl, _⟩ | ⟨a, len, cap, m, n, D, Pl, hcs, hb, hl, hm, hmm, hx, hi⟩
  · exact ⟨_, 0, fun _ => [], 0, fun _ => (.nil, []), rfl, by simpa using Reads.nil w k, fun i hi => by omega⟩
  · rw [hk] at hi
    have hlm : len ≤ m := by rw [hmm]; split <;> omega
    have hall : ∀ i, ∃ cs', i < m → w.cells? base (a.add (i * k)) k = some cs' ∧ DataW.trod enc P w base spare held n e cs' = some (D i, Pl i) := fun i => by
      by_cases h : i < m
      · obtain ⟨c, hc⟩ := hi i h
        exact ⟨c, fun _ => hc⟩
      · exact ⟨[], fun h' => absurd h' h⟩
    refine ⟨_, len, fun i => Classical.choose (hall i), n, fun i => (D i, Pl i), hcs, ?_, fun i hil => ?_⟩
    · have hsz : ∀ i, i < m → (Classical.choose (hall i)).length = k ∧ ∀ j, j < k → w.cell? ((a.add (i * k)).add j) = (Classical.choose (hall i))[j]? := fun i him => by
        obtain ⟨_, h2, h3⟩ := World.cells?_some (Classical.choose_spec (hall i) him).1
        exact ⟨h2, h3⟩
      have hlen : ∀ j, j ≤ m → ((List.range j).flatMap fun i => Classical.choose (hall i)).length = j * k := by
        intro j
        induction j with
        | zero => intro _; simp
        | succ j ih =>
          intro hj
          rw [List.range_succ, List.flatMap_append, List.length_append, ih (by omega)]
          simp [(hsz j (by omega)).1, Nat.succ_mul]
      have hget : ∀ j, j ≤ m → ∀ q u, ((List.range j).flatMap fun i => Classical.choose (hall i))[q]? = some u → w.cell? (a.add q) = some u := by
        intro j
        induction j with
        | zero => intro _ q u h; simp at h
        | succ j ih =>
          intro hj q u h
          rw [List.range_succ, List.flatMap_append, List.getElem?_append] at h
          rw [hlen j (by omega)] at h
          by_cases hq : q < j * k
          · rw [if_pos hq] at h
            exact ih (by omega) q u h
          · rw [if_neg hq] at h
            simp only [List.flatMap_cons, List.flatMap_nil, List.append_nil] at h
            have h2 := (hsz j (by omega)).2 (q - j * k) (by
              have := (hsz j (by omega)).1
              rcases Nat.lt_or_ge (q - j * k) k with h' | h'
              · exact h'
              · rw [List.getElem?_eq_none (by omega)] at h; cases h)
            rw [add_of_add, show j * k + (q - j * k) = q from by omega] at h2
            rw [h2, h]
      refine ⟨hlen len hlm, _, cap, rfl, hl, hm, fun hn => ?_⟩
      have hl0 := hlen len hlm
      obtain ⟨u0, hu0⟩ : ∃ u0, ((List.range len).flatMap fun i => Classical.choose (hall i))[0]? = some u0 := ⟨_, List.getElem?_eq_getElem (by rw [hl0]; exact Nat.mul_pos hn hk0)⟩
      have hc0 := hget len hlm 0 u0 hu0
      obtain ⟨b, off, spot⟩ := a
      have hspot : spot = none := by simpa [Addr.add] using World.cell?_spot hc0
      subst hspot
      refine ⟨b, off, rfl, fun j u hu => ?_⟩
      have := hget len hlm j u hu
      rwa [add_lit] at this
    · have h2 := Classical.choose_spec (hall i) (by omega)
      exact ⟨(World.cells?_some h2.1).2.1, h2.2⟩

theorem map_flat (k : IntKind) (l : List Int) : l.map (Value.int k) = l.flatMap fun z => [Value.int k z] := by
  induction l with
  | nil => rfl
  | cons a l ih => rw [List.map_cons, List.flatMap_cons, ← ih]; rfl
/-- A slice of integers. -/
theorem trod_reads_ints {t e : TypeId} {k : IntKind} {fuel : Nat} {cs : List Value} {x : DataW H × List MemPlace} (ht : P.underlying t = some (.slice e)) (he : P.underlying e = some (.int k)) (hk : P.cellsOf e = 1) (h : DataW.trod enc P w base spare held fuel t cs = some x) :
    ∃ (v : Value) (l : List Int), cs = [v] ∧ Reads w 1 v l.length (l.map (Value.int k)) ∧ ∀ z ∈ l, (Lit.int k z).wf = true := by
  obtain ⟨v, n, E, m, Y, rfl, hr, hE⟩ := trod_reads ht hk (by omega) h
  obtain ⟨l, rfl, h2, h3⟩ := reads_list (R := fun z => (Lit.int k z).wf = true) (fun z => [Value.int k z]) fun i hi => by
    obtain ⟨z, hz, _, hw⟩ := DataW.trod_int he (hE i hi).2
    exact ⟨z, hz, hw⟩
  rw [h2] at hr
  refine ⟨v, l, rfl, ?_, h3⟩
  rw [map_flat]
  exact hr
theorem wf_u8 {z : Int} (h : (Lit.int .u8 z).wf = true) : 0 ≤ z ∧ z < 256 := by
  have := (bounds_u8 h); omega
end

/-- A slice of structs, an integer and a string each. -/
theorem trod_reads_res {H : Type} {enc : TypeId × Value → H} {P : Program} {w : World} {base : Nat} {spare : Nat → Bool} {held : Bool} {t e : TypeId} {f0 f1 : Field} {fuel : Nat} {cs : List Value} {x : DataW H × List MemPlace} (ht : P.underlying t = some (.slice e)) (he : P.underlying e = some (.struct #[f0, f1])) (hone : oneCellFields P #[f0, f1] = true) (hk : P.cellsOf e = 2)
    (h0 : P.underlying f0.type = some (.int .i64)) (h1 : P.underlying f1.type = some .string) (h : DataW.trod enc P w base spare held fuel t cs = some x) :
    ∃ (v : Value) (log : List Res), cs = [v] ∧ Reads w 2 v log.length (logCells log) := by
  obtain ⟨v, n, E, m, Y, rfl, hr, hE⟩ := trod_reads ht hk (by omega) h
  obtain ⟨l, rfl, h2, h3⟩ := reads_list (R := fun _ => True) Res.cells fun i hi => by
    obtain ⟨hl, hx⟩ := hE i hi
    obtain ⟨xs, n', hx', hy, hlen, hyl, hf⟩ := DataW.trod_struct he hx
    obtain ⟨o0, k0⟩ := hone_of hone 0 f0 rfl
    obtain ⟨o1, k1⟩ := hone_of hone 1 f1 rfl
    match hE' : E i, hl with
    | [c0, c1], _ =>
      rw [hE'] at hf
      have g0 := hf 0 f0 rfl
      have g1 := hf 1 f1 rfl
      rw [o0, k0] at g0
      rw [o1, k1] at g1
      match xs, hyl with
      | [y0, y1], _ =>
        obtain ⟨z, hz, _, hw⟩ := DataW.trod_int h0 (by simpa using g0)
        obtain ⟨s, hs, _⟩ := DataW.trod_string h1 (by simpa using g1)
        cases hz
        cases hs
        exact ⟨⟨z, s⟩, hE', trivial⟩
  rw [h2] at hr
  exact ⟨v, l, rfl, hr⟩

end Go.Proofs.Ytmlekdmnpljcoaa
