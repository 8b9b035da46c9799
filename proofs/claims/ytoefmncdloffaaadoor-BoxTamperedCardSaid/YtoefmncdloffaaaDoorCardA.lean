
/-
  What the cards' rows give a walk: the two tables; how arguments read; the witness' world.
-/
import Derived.Test.YtoefmncdloffaaaDoorCards
import Derived.Test.YtoefmncdloffaaaDoorTie
import Derived.Test.YtoefmncdloffaaaDoorShaI
import Derived.WalkKit
import Derived.ProofKit
import Derived.OpenShut
import Derived.ShutString
import Derived.ChangeOld
import Derived.Lib.SmallJoins
import Derived.Deep.Slices
import Derived.Deep.DeepHandedRow
import Derived.Lib.LaidTab
import Derived.Stop.LaidErr
namespace Go.Proofs.YtoefmncdloffaaaDoor
open Go.ChangeShapes Go.WideShapes Go.ChangeAt Go.RowKit Go.Joins Go.Deep
open Go.ChangeMaps (open_string shut_string)
set_option linter.unusedVariables false

theorem own : ownKnob Tryd.prog.godebug = none := by kernel_rfl
theorem laidOut : laidOutB Tryd.prog = true := by kernel_rfl

theorem gK : Tryd.prog.globalNamed "bootchain/sha.constants" = some 1 := by kernel_rfl
theorem gKType : (Tryd.prog.globals[1]?).map (·.type) = some 213 := by kernel_rfl
theorem gH : Tryd.prog.globalNamed "bootchain/sha.start" = some 0 := by kernel_rfl
theorem gHType : (Tryd.prog.globals[0]?).map (·.type) = some 191 := by kernel_rfl
theorem cellsK : Tryd.prog.cellsOf 213 = 64 := by kernel_rfl
theorem cellsH : Tryd.prog.cellsOf 191 = 8 := by kernel_rfl
theorem cellsU32 : Tryd.prog.cellsOf 189 = 1 := by kernel_rfl
def wordsI (l : List UInt32) : List Int := l.map fun x => (x.toNat : Int)
theorem dataK : (Rows.laid_bootchain_sha_constants : DataW Unit) = Lib.tabData .u32 (wordsI shaK) := by kernel_rfl
theorem dataH : (Rows.laid_bootchain_sha_start : DataW Unit) = Lib.tabData .u32 (wordsI shaH0) := by kernel_rfl

theorem rangeAt_tab {W : World} {name : String} {l : List UInt32} {g : Nat} (h : Lib.TabIs Tryd.prog W name .u32 (wordsI l)) (hg : Tryd.prog.globalNamed name = some g) : W.rangeAt g 0 (l.map w32) := by
  intro j v hj
  rw [List.getElem?_map] at hj
  obtain ⟨x, hx, rfl⟩ := Option.map_eq_some_iff.1 hj
  have hl : j < l.length := by
    rcases Nat.lt_or_ge j l.length with h' | h'
    · exact h'
    · rw [List.getElem?_eq_none h'] at hx; cases hx
  have := h.cell hg j (by unfold wordsI; simpa using hl)
  rw [show (wordsI l).getD j 0 = (x.toNat : Int) from by unfold wordsI; simp [List.getD, hx]] at this
  simpa [w32] using this

/-- WHAT THE ROW's LIST GIVES: the package's two tables. -/
theorem shaMem_of_laid {W : World} (h : laidMetH Tryd.prog [("bootchain/sha.constants", Rows.laid_bootchain_sha_constants), ("bootchain/sha.start", Rows.laid_bootchain_sha_start)] W) : ShaMem W := by
  have h1 : laidMet Tryd.prog [("bootchain/sha.constants", Rows.laid_bootchain_sha_constants), ("bootchain/sha.start", Rows.laid_bootchain_sha_start)] W := h
  have h2 := laidMet.tail h1
  rw [dataK] at h1
  rw [dataH] at h2
  exact ⟨rangeAt_tab (Lib.tabIs_of_head gK gKType Tryd.underlying213 Tryd.underlying189 cellsU32 cellsK h1) gK,
    rangeAt_tab (Lib.tabIs_of_head gH gHType Tryd.underlying191 Tryd.underlying189 cellsU32 cellsH h2) gH⟩

/-- A world for the witness. -/
def layCells (cs : List Value) : Obj → Obj
  | .cells _ t frozen => .cells cs.toArray t frozen
  | o => o
noncomputable def laidWorld (os : Os) : World :=
  { World.holding Tryd.prog os ⟨#[], #[], []⟩ with
    heap := ((World.holding Tryd.prog os ⟨#[], #[], []⟩).heap.modify 1 (layCells (shaK.map w32))).modify 0 (layCells (shaH0.map w32)) }

theorem reads_list {α : Type} {n : Nat} {E : Nat → List Value} {R : α → Prop} (g : α → List Value) (h : ∀ i, i < n → ∃ a, E i = g a ∧ R a) : ∃ l : List α, l.length = n ∧ (List.range n).flatMap E = l.flatMap g ∧ ∀ a ∈ l, R a := by
  induction n with
  | zero => exact ⟨[], rfl, rfl, fun a h => by cases h⟩
  | succ n ih =>
    obtain ⟨l, h1, h2, h3⟩ := ih fun i hi => h i (by omega)
    obtain ⟨a, h4, h5⟩ := h n (by omega)
    refine ⟨l ++ [a], by simp [h1], ?_, fun b hb => ?_⟩
    · rw [List.range_succ, List.flatMap_append, List.flatMap_append, h2]
      simp [h4]
    · rcases List.mem_append.1 hb with hb | hb
      · exact h3 b hb
      · rw [List.mem_singleton.1 hb]; exact h5

section
variable {H : Type} {enc : TypeId × Value → H} {P : Program} {w : World} {base : Nat} {spare : Nat → Bool} {held : Bool}
/-- A slice: its cells, and what each element reads as. -/
theorem trod_reads {t e : TypeId} {k : Nat} {fuel : Nat} {cs : List Value} {x : DataW H × List MemPlace} (ht : P.underlying t = some (.slice e)) (hk : P.cellsOf e = k) (hk0 : 0 < k) (h : DataW.trod enc P w base spare held fuel t cs = some x) :
    ∃ (v : Value) (n : Nat) (E : Nat → List Value) (m : Nat) (Y : Nat → DataW H × List MemPlace), cs = [v] ∧ Reads w k v n ((List.range n).flatMap E) ∧ ∀ i, i < n → (E i).length = k ∧ DataW.trod enc P w base spare held m e (E i) = some (Y i) := by
  rcases open_slice ht h with ⟨rfl, _⟩ | ⟨a, len, cap, m, n, D, Pl, hcs, hb, hl, hm, hmm, hx, hi⟩
  · exact ⟨_, 0, fun _ => [], 0, fun _ => (.nil, []), rfl, by simpa using Reads.nil w k, fun i hi => by omega⟩
  · rw [hk] at hi
    have hlm : len ≤ m := by rw [hmm]; split <;> omega
    have hall : ∀ i, ∃ cs', i < m → w.cells? base (a.add (i * k)) k = some cs' ∧ DataW.trod enc P w base spare held n e cs' = some (D i, Pl i) := fun i => by
      by_cases h : i < m
      · obtain ⟨c, hc⟩ := hi i h
        exact ⟨c, fun _ => hc⟩
      · exact ⟨[], fun h' => absurd h' h⟩
    refine ⟨_, len, fun i => Classical.choose (hall i), n, fun i => (D i, Pl i), hcs, ?_, fun i hil => ?_⟩
    · have hsz : ∀ i, i < m → (Classical.choose (hall i)).length = k ∧ ∀ j, j < k → w.cell? ((a.add (i * k)).add j) = (Classical.choose (hall i))[j]? := fun i him => by
        obtain ⟨_, h2, h3⟩ := World.cells?_some (Classical.choose_spec (hall i) him).1
        exact ⟨h2, h3⟩
      have hlen : ∀ j, j ≤ m → ((List.range j).flatMap fun i => Classical.choose (hall i)).length = j * k := by
        intro j
        induction j with
        | zero => intro _; simp
        | succ j ih =>
          intro hj
          rw [List.range_succ, List.flatMap_append, List.length_append, ih (by omega)]
          simp [(hsz j (by omega)).1, Nat.succ_mul]
      have hget : ∀ j, j ≤ m → ∀ q u, ((List.range j).flatMap fun i => Classical.choose (hall i))[q]? = some u → w.cell? (a.add q) = some u := by
        intro j
        induction j with
        | zero => intro _ q u h; simp at h
        | succ j ih =>
          intro hj q u h
          rw [List.range_succ, List.flatMap_append, List.getElem?_append] at h
          rw [hlen j (by omega)] at h
          by_cases hq : q < j * k
          · rw [if_pos hq] at h
            exact ih (by omega) q u h
          · rw [if_neg hq] at h
            simp only [List.flatMap_cons, List.flatMap_nil, List.append_nil] at h
            have h2 := (hsz j (by omega)).2 (q - j * k) (by
              have := (hsz j (by omega)).1
              rcases Nat.lt_or_ge (q - j * k) k with h' | h'
              · exact h'
              · rw [List.getElem?_eq_none (by omega)] at h; cases h)
            rw [add_of_add, show j * k + (q - j * k) = q from by omega] at h2
            rw [h2, h]
      refine ⟨hlen len hlm, _, cap, rfl, hl, hm, fun hn => ?_⟩
      have hl0 := hlen len hlm
      obtain ⟨u0, hu0⟩ : ∃ u0, ((List.range len).flatMap fun i => Classical.choose (hall i))[0]? = some u0 := ⟨_, List.getElem?_eq_getElem (by rw [hl0]; exact Nat.mul_pos hn hk0)⟩
      have hc0 := hget len hlm 0 u0 hu0
      obtain ⟨b, off, spot⟩ := a
      have hspot : spot = none := by simpa [Addr.add] using World.cell?_spot hc0
      subst hspot
      refine ⟨b, off, rfl, fun j u hu => ?_⟩
      have := hget len hlm j u hu
      rwa [add_lit] at this
    · have h2 := Classical.choose_spec (hall i) (by omega)
      exact ⟨(World.cells?_some h2.1).2.1, h2.2⟩

theorem map_flat (k : IntKind) (l : List Int) : l.map (Value.int k) = l.flatMap fun z => [Value.int k z] := by
  induction l with
  | nil => rfl
  | cons a l ih => rw [List.map_cons, List.flatMap_cons, ← ih]; rfl
/-- A slice of integers. -/
theorem trod_reads_ints {t e : TypeId} {k : IntKind} {fuel : Nat} {cs : List Value} {x : DataW H × List MemPlace} (ht : P.underlying t = some (.slice e)) (he : P.underlying e = some (.int k)) (hk : P.cellsOf e = 1) (h : DataW.trod enc P w base spare held fuel t cs = some x) :
    ∃ (v : Value) (l : List Int), cs = [v] ∧ Reads w 1 v l.length (l.map (Value.int k)) ∧ ∀ z ∈ l, (Lit.int k z).wf = true := by
  obtain ⟨v, n, E, m, Y, rfl, hr, hE⟩ := trod_reads ht hk (by omega) h
  obtain ⟨l, rfl, h2, h3⟩ := reads_list (R := fun z => (Lit.int k z).wf = true) (fun z => [Value.int k z]) fun i hi => by
    obtain ⟨z, hz, _, hw⟩ := DataW.trod_int he (hE i hi).2
    exact ⟨z, hz, hw⟩
  rw [h2] at hr
  refine ⟨v, l, rfl, ?_, h3⟩
  rw [map_flat]
  exact hr
def toByte (z : Int) : UInt8 := UInt8.ofNat z.toNat
theorem toByte_v {z : Int} (h : (Lit.int .u8 z).wf = true) : Value.int .u8 z = u8v (toByte z) := by
  have := bounds_u8 h
  have e : ((toByte z).toNat : Int) = z := by
    unfold toByte
    rw [UInt8.toNat_ofNat']
    omega
  show Value.int .u8 z = Value.int .u8 ((toByte z).toNat : Int)
  rw [e]
/-- A slice of bytes. -/
theorem trod_bytes {t e : TypeId} {fuel : Nat} {cs : List Value} {x : DataW H × List MemPlace} (ht : P.underlying t = some (.slice e)) (he : P.underlying e = some (.int .u8)) (hk : P.cellsOf e = 1) (h : DataW.trod enc P w base spare held fuel t cs = some x) :
    ∃ (v : Value) (l : List UInt8), cs = [v] ∧ Reads w 1 v l.length (l.map u8v) := by
  obtain ⟨v, l, rfl, hr, hw⟩ := trod_reads_ints ht he hk h
  refine ⟨v, l.map toByte, rfl, ?_⟩
  rw [List.length_map, List.map_map, show l.map (u8v ∘ toByte) = l.map (Value.int .u8) from List.map_congr_left fun z hz => (toByte_v (hw z hz)).symm]
  exact hr
theorem flat_single {α : Type} (f : α → Value) (l : List α) : l.flatMap (fun a => [f a]) = l.map f := by
  induction l with
  | nil => rfl
  | cons a l ih => rw [List.map_cons, List.flatMap_cons, ← ih]; rfl
/-- A slice of slices of bytes. -/
theorem trod_parts {t s e : TypeId} {fuel : Nat} {cs : List Value} {x : DataW H × List MemPlace} (ht : P.underlying t = some (.slice s)) (hs : P.underlying s = some (.slice e)) (he : P.underlying e = some (.int .u8)) (hks : P.cellsOf s = 1) (hke : P.cellsOf e = 1) (h : DataW.trod enc P w base spare held fuel t cs = some x) :
    ∃ (v : Value) (ps : List (List UInt8)), cs = [v] ∧ Parts w v ps := by
  obtain ⟨v, n, E, m, Y, rfl, hr, hE⟩ := trod_reads ht hks (by omega) h
  obtain ⟨l, hl, h2, h3⟩ := reads_list (R := fun a : Value × List UInt8 => Reads w 1 a.1 a.2.length (a.2.map u8v)) (fun a => [a.1]) fun i hi => by
    obtain ⟨v, l, hv, hl⟩ := trod_bytes hs he hke (hE i hi).2
    exact ⟨(v, l), hv, hl⟩
  rw [h2, flat_single] at hr
  refine ⟨v, l.map (·.2), rfl, l.map (·.1), by simp, ?_, fun i p hp => ?_⟩
  · rw [List.length_map, hl]; exact hr
  · rw [List.getElem?_map] at hp
    obtain ⟨a, ha, rfl⟩ := Option.map_eq_some_iff.1 hp
    exact ⟨a.1, by rw [List.getElem?_map, ha]; rfl, h3 a (List.mem_of_getElem? ha)⟩
end

end Go.Proofs.YtoefmncdloffaaaDoor
