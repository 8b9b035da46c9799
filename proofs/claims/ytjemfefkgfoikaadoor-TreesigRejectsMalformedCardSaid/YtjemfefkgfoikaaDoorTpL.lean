/-
  Several texts in one file: each has its own heading below.
-/
import Derived.Test.YtjemfefkgfoikaaDoorCards
import Derived.Test.YtjemfefkgfoikaaDoorTie
import Derived.Test.YtjemfefkgfoikaaDoorTpC
import Derived.WalkKit
import Derived.ProofKit
import Derived.OpenShut
import Derived.ShutString
import Derived.ChangeOld
import Derived.Lib.SmallJoins
import Derived.Deep.Slices
import Derived.Deep.DeepHandedRow
import Derived.Lib.LaidTab
import Derived.Stop.LaidErr
import Derived.Test.YtjemfefkgfoikaaDoorTpD
import Derived.Test.YtjemfefkgfoikaaDoorTpH

/-
  What the cards' rows give a walk: the two tables; how arguments read; the witness' world.
-/
namespace Go.Proofs.YtjemfefkgfoikaaDoor
open Go.ChangeShapes Go.WideShapes Go.ChangeAt Go.RowKit Go.Joins Go.Deep
open Go.ChangeMaps (open_string shut_string)
set_option linter.unusedVariables false

theorem own : ownKnob Tryd.prog.godebug = none := by kernel_rfl
theorem laidOut : laidOutB Tryd.prog = true := by kernel_rfl

theorem gK : Tryd.prog.globalNamed "bootchain/sha.constants" = some 1 := by kernel_rfl
theorem gKType : (Tryd.prog.globals[1]?).map (·.type) = some 113 := by kernel_rfl
theorem gH : Tryd.prog.globalNamed "bootchain/sha.start" = some 0 := by kernel_rfl
theorem gHType : (Tryd.prog.globals[0]?).map (·.type) = some 94 := by kernel_rfl
theorem cellsK : Tryd.prog.cellsOf 113 = 64 := by kernel_rfl
theorem cellsH : Tryd.prog.cellsOf 94 = 8 := by kernel_rfl
theorem cellsU32 : Tryd.prog.cellsOf 92 = 1 := by kernel_rfl
def wordsI (l : List UInt32) : List Int := l.map fun x => (x.toNat : Int)
theorem dataK : (Rows.laid_bootchain_sha_constants : DataW Unit) = Lib.tabData .u32 (wordsI shaK) := by kernel_rfl
theorem dataH : (Rows.laid_bootchain_sha_start : DataW Unit) = Lib.tabData .u32 (wordsI shaH0) := by kernel_rfl

theorem rangeAt_tab {W : World} {name : String} {l : List UInt32} {g : Nat} (h : Lib.TabIs Tryd.prog W name .u32 (wordsI l)) (hg : Tryd.prog.globalNamed name = some g) : W.rangeAt g 0 (l.map w32) := by
  intro j v hj
  rw [List.getElem?_map] at hj
  obtain ⟨x, hx, rfl⟩ := Option.map_eq_some_iff.1 hj
  have hl : j < l.length := by
    rcases Nat.lt_or_ge j l.length with h' | h'
    · exact h'
    · rw [List.getElem?_eq_none h'] at hx; cases hx
  have := h.cell hg j (by unfold wordsI; simpa using hl)
  rw [show (wordsI l).getD j 0 = (x.toNat : Int) from by unfold wordsI; simp [List.getD, hx]] at this
  simpa [w32] using this

/-- WHAT THE ROW's LIST GIVES: the package's two tables. -/
theorem shaMem_of_laid {W : World} (h : laidMetH Tryd.prog [("bootchain/sha.constants", Rows.laid_bootchain_sha_constants), ("bootchain/sha.start", Rows.laid_bootchain_sha_start)] W) : ShaMem W := by
  have h1 : laidMet Tryd.prog [("bootchain/sha.constants", Rows.laid_bootchain_sha_constants), ("bootchain/sha.start", Rows.laid_bootchain_sha_start)] W := h
  have h2 := laidMet.tail h1
  rw [dataK] at h1
  rw [dataH] at h2
  exact ⟨rangeAt_tab (Lib.tabIs_of_head gK gKType Tryd.underlying113 Tryd.underlying92 cellsU32 cellsK h1) gK,
    rangeAt_tab (Lib.tabIs_of_head gH gHType Tryd.underlying94 Tryd.underlying92 cellsU32 cellsH h2) gH⟩

/-- A world for the witness. -/
def layCells (cs : List Value) : Obj → Obj
  | .cells _ t frozen => .cells cs.toArray t frozen
  | o => o
noncomputable def laidWorld (os : Os) : World :=
  { World.holding Tryd.prog os ⟨#[], #[], []⟩ with
    heap := ((World.holding Tryd.prog os ⟨#[], #[], []⟩).heap.modify 1 (layCells (shaK.map w32))).modify 0 (layCells (shaH0.map w32)) }

theorem reads_list {α : Type} {n : Nat} {E : Nat → List Value} {R : α → Prop} (g : α → List Value) (h : ∀ i, i < n → ∃ a, E i = g a ∧ R a) : ∃ l : List α, l.length = n ∧ (List.range n).flatMap E = l.flatMap g ∧ ∀ a ∈ l, R a := by
  induction n with
  | zero => exact ⟨[], rfl, rfl, fun a h => by cases h⟩
  | succ n ih =>
    obtain ⟨l, h1, h2, h3⟩ := ih fun i hi => h i (by omega)
    obtain ⟨a, h4, h5⟩ := h n (by omega)
    refine ⟨l ++ [a], by simp [h1], ?_, fun b hb => ?_⟩
    · rw [List.range_succ, List.flatMap_append, List.flatMap_append, h2]
      simp [h4]
    · rcases List.mem_append.1 hb with hb | hb
      · exact h3 b hb
      · rw [List.mem_singleton.1 hb]; exact h5

section
variable {H : Type} {enc : TypeId × Value → H} {P : Program} {w : World} {base : Nat} {spare : Nat → Bool} {held : Bool}
/-- A slice: its cells, and what each element reads as. -/
theorem trod_reads {t e : TypeId} {k : Nat} {fuel : Nat} {cs : List Value} {x : DataW H × List MemPlace} (ht : P.underlying t = some (.slice e)) (hk : P.cellsOf e = k) (hk0 : 0 < k) (h : DataW.trod enc P w base spare held fuel t cs = some x) :
    ∃ (v : Value) (n : Nat) (E : Nat → List Value) (m : Nat) (Y : Nat → DataW H × List MemPlace), cs = [v] ∧ Reads w k v n ((List.range n).flatMap E) ∧ ∀ i, i < n → (E i).length = k ∧ DataW.trod enc P w base spare held m e (E i) = some (Y i) := by
  rcases open_slice ht h with ⟨rfl, _⟩ | ⟨a, len, cap, m, n, D, Pl, hcs, hb, hl, hm, hmm, hx, hi⟩
  · exact ⟨_, 0, fun _ => [], 0, fun _ => (.nil, []), rfl, by simpa using Reads.nil w k, fun i hi => by omega⟩
  · rw [hk] at hi
    have hlm : len ≤ m := by rw [hmm]; split <;> omega
    have hall : ∀ i, ∃ cs', i < m → w.cells? base (a.add (i * k)) k = some cs' ∧ DataW.trod enc P w base spare held n e cs' = some (D i, Pl i) := fun i => by
      by_cases h : i < m
      · obtain ⟨c, hc⟩ := hi i h
        exact ⟨c, fun _ => hc⟩
      · exact ⟨[], fun h' => absurd h' h⟩
    refine ⟨_, len, fun i => Classical.choose (hall i), n, fun i => (D i, Pl i), hcs, ?_, fun i hil => ?_⟩
    · have hsz : ∀ i, i < m → (Classical.choose (hall i)).length = k ∧ ∀ j, j < k → w.cell? ((a.add (i * k)).add j) = (Classical.choose (hall i))[j]? := fun i him => by
        obtain ⟨_, h2, h3⟩ := World.cells?_some (Classical.choose_spec (hall i) him).1
        exact ⟨h2, h3⟩
      have hlen : ∀ j, j ≤ m → ((List.range j).flatMap fun i => Classical.choose (hall i)).length = j * k := by
        intro j
        induction j with
        | zero => intro _; simp
        | succ j ih =>
          intro hj
          rw [List.range_succ, List.flatMap_append, List.length_append, ih (by omega)]
          simp [(hsz j (by omega)).1, Nat.succ_mul]
      have hget : ∀ j, j ≤ m → ∀ q u, ((List.range j).flatMap fun i => Classical.choose (hall i))[q]? = some u → w.cell? (a.add q) = some u := by
        intro j
        induction j with
        | zero => intro _ q u h; simp at h
        | succ j ih =>
          intro hj q u h
          rw [List.range_succ, List.flatMap_append, List.getElem?_append] at h
          rw [hlen j (by omega)] at h
          by_cases hq : q < j * k
          · rw [if_pos hq] at h
            exact ih (by omega) q u h
          · rw [if_neg hq] at h
            simp only [List.flatMap_cons, List.flatMap_nil, List.append_nil] at h
            have h2 := (hsz j (by omega)).2 (q - j * k) (by
              have := (hsz j (by omega)).1
              rcases Nat.lt_or_ge (q - j * k) k with h' | h'
              · exact h'
              · rw [List.getElem?_eq_none (by omega)] at h; cases h)
            rw [add_of_add, show j * k + (q - j * k) = q from by omega] at h2
            rw [h2, h]
      refine ⟨hlen len hlm, _, cap, rfl, hl, hm, fun hn => ?_⟩
      have hl0 := hlen len hlm
      obtain ⟨u0, hu0⟩ : ∃ u0, ((List.range len).flatMap fun i => Classical.choose (hall i))[0]? = some u0 := ⟨_, List.getElem?_eq_getElem (by rw [hl0]; exact Nat.mul_pos hn hk0)⟩
      have hc0 := hget len hlm 0 u0 hu0
      obtain ⟨b, off, spot⟩ := a
      have hspot : spot = none := by simpa [Addr.add] using World.cell?_spot hc0
      subst hspot
      refine ⟨b, off, rfl, fun j u hu => ?_⟩
      have := hget len hlm j u hu
      rwa [add_lit] at this
    · have h2 := Classical.choose_spec (hall i) (by omega)
      exact ⟨(World.cells?_some h2.1).2.1, h2.2⟩

theorem map_flat (k : IntKind) (l : List Int) : l.map (Value.int k) = l.flatMap fun z => [Value.int k z] := by
  induction l with
  | nil => rfl
  | cons a l ih => rw [List.map_cons, List.flatMap_cons, ← ih]; rfl
/-- A slice of integers. -/
theorem trod_reads_ints {t e : TypeId} {k : IntKind} {fuel : Nat} {cs : List Value} {x : DataW H × List MemPlace} (ht : P.underlying t = some (.slice e)) (he : P.underlying e = some (.int k)) (hk : P.cellsOf e = 1) (h : DataW.trod enc P w base spare held fuel t cs = some x) :
    ∃ (v : Value) (l : List Int), cs = [v] ∧ Reads w 1 v l.length (l.map (Value.int k)) ∧ ∀ z ∈ l, (Lit.int k z).wf = true := by
  obtain ⟨v, n, E, m, Y, rfl, hr, hE⟩ := trod_reads ht hk (by omega) h
  obtain ⟨l, rfl, h2, h3⟩ := reads_list (R := fun z => (Lit.int k z).wf = true) (fun z => [Value.int k z]) fun i hi => by
    obtain ⟨z, hz, _, hw⟩ := DataW.trod_int he (hE i hi).2
    exact ⟨z, hz, hw⟩
  rw [h2] at hr
  refine ⟨v, l, rfl, ?_, h3⟩
  rw [map_flat]
  exact hr
def toByte (z : Int) : UInt8 := UInt8.ofNat z.toNat
theorem toByte_v {z : Int} (h : (Lit.int .u8 z).wf = true) : Value.int .u8 z = u8v (toByte z) := by
  have := bounds_u8 h
  have e : ((toByte z).toNat : Int) = z := by
    unfold toByte
    rw [UInt8.toNat_ofNat']
    omega
  show Value.int .u8 z = Value.int .u8 ((toByte z).toNat : Int)
  rw [e]
/-- A slice of bytes. -/
theorem trod_bytes {t e : TypeId} {fuel : Nat} {cs : List Value} {x : DataW H × List MemPlace} (ht : P.underlying t = some (.slice e)) (he : P.underlying e = some (.int .u8)) (hk : P.cellsOf e = 1) (h : DataW.trod enc P w base spare held fuel t cs = some x) :
    ∃ (v : Value) (l : List UInt8), cs = [v] ∧ Reads w 1 v l.length (l.map u8v) := by
  obtain ⟨v, l, rfl, hr, hw⟩ := trod_reads_ints ht he hk h
  refine ⟨v, l.map toByte, rfl, ?_⟩
  rw [List.length_map, List.map_map, show l.map (u8v ∘ toByte) = l.map (Value.int .u8) from List.map_congr_left fun z hz => (toByte_v (hw z hz)).symm]
  exact hr
theorem flat_single {α : Type} (f : α → Value) (l : List α) : l.flatMap (fun a => [f a]) = l.map f := by
  induction l with
  | nil => rfl
  | cons a l ih => rw [List.map_cons, List.flatMap_cons, ← ih]; rfl
/-- A slice of slices of bytes. -/
theorem trod_parts {t s e : TypeId} {fuel : Nat} {cs : List Value} {x : DataW H × List MemPlace} (ht : P.underlying t = some (.slice s)) (hs : P.underlying s = some (.slice e)) (he : P.underlying e = some (.int .u8)) (hks : P.cellsOf s = 1) (hke : P.cellsOf e = 1) (h : DataW.trod enc P w base spare held fuel t cs = some x) :
    ∃ (v : Value) (ps : List (List UInt8)), cs = [v] ∧ Parts w v ps := by
  obtain ⟨v, n, E, m, Y, rfl, hr, hE⟩ := trod_reads ht hks (by omega) h
  obtain ⟨l, hl, h2, h3⟩ := reads_list (R := fun a : Value × List UInt8 => Reads w 1 a.1 a.2.length (a.2.map u8v)) (fun a => [a.1]) fun i hi => by
    obtain ⟨v, l, hv, hl⟩ := trod_bytes hs he hke (hE i hi).2
    exact ⟨(v, l), hv, hl⟩
  rw [h2, flat_single] at hr
  refine ⟨v, l.map (·.2), rfl, l.map (·.1), by simp, ?_, fun i p hp => ?_⟩
  · rw [List.length_map, hl]; exact hr
  · rw [List.getElem?_map] at hp
    obtain ⟨a, ha, rfl⟩ := Option.map_eq_some_iff.1 hp
    exact ⟨a.1, by rw [List.getElem?_map, ha]; rfl, h3 a (List.mem_of_getElem? ha)⟩
end

end Go.Proofs.YtjemfefkgfoikaaDoor

/-
  Opening arguments: arrays of bytes, boxes.
-/
namespace Go.Proofs.YtjemfefkgfoikaaDoor
open Go.ChangeShapes Go.WideShapes Go.ChangeAt Go.RowKit Go.Joins Go.Deep

section
variable {H : Type} {enc : TypeId × Value → H} {P : Program} {w : World} {base : Nat} {spare : Nat → Bool} {held : Bool}
theorem bytes_of_cells (cs : List Value) (h : ∀ c ∈ cs, ∃ b : UInt8, c = u8v b) : ∃ l : List UInt8, cs = l.map u8v := by
  induction cs with
  | nil => exact ⟨[], rfl⟩
  | cons c cs ih =>
    obtain ⟨l, hl⟩ := ih fun x hx => h x (List.mem_cons_of_mem _ hx)
    obtain ⟨b, hb⟩ := h c (List.mem_cons_self ..)
    exact ⟨b :: l, by rw [hb, hl]; rfl⟩
theorem trod_bytesArr {t e : TypeId} {n fuel : Nat} {cs : List Value} {x : DataW H × List MemPlace} (ht : P.underlying t = some (.array n e)) (he : P.underlying e = some (.int .u8)) (hk : P.cellsOf e = 1) (hn : P.cellsOf t = n) (h : DataW.trod enc P w base spare held fuel t cs = some x) :
    ∃ l : List UInt8, l.length = n ∧ cs = l.map u8v := by
  obtain ⟨xs, m, _, _, hl, hxl, hf⟩ := DataW.trod_array ht h
  rw [hn] at hl
  rw [hk] at hf
  obtain ⟨l, hl2⟩ := bytes_of_cells cs fun c hc => by
    obtain ⟨i, hi, hci⟩ := List.getElem_of_mem hc
    have h1 := hf i (by omega)
    rw [Nat.mul_one, List.drop_eq_getElem_cons hi, List.take_succ_cons, List.take_zero, List.getElem?_eq_getElem (by omega)] at h1
    obtain ⟨z, hz, _, hw⟩ := DataW.trod_int he h1
    cases hz2 : cs[i]
    all_goals rw [hz2] at hz
    all_goals (cases hz)
    exact ⟨toByte z, by rw [← hci, hz2]; exact toByte_v hw⟩
  exact ⟨l, by rw [hl2] at hl; simpa using hl, hl2⟩
theorem okWide_array {r : Reach} {b0 : Nat} {t e : TypeId} {n : Nat} {v : Value} (ht : P.underlying t = some (.array n e)) (h : Value.okWide P w r b0 t v) : ∃ cs, v = .agg cs ∧ cs.size = P.cellsOf t := by
  simp only [Value.okWide, ht] at h
  obtain ⟨cs, h1, h2, _⟩ := h
  exact ⟨cs, h1, h2⟩
end
set_option maxRecDepth 100000 in
theorem open_digest {H : Type} {enc : TypeId × Value → H} {v : Value} {d : DataW H} {p : List MemPlace} {W : World} {base : Nat} (hv : Value.okWide Tryd.prog W .any base 23 v)
    (h : DataW.Trod enc Tryd.prog W 0 (fun _ => true) true 23 v d p) : ∃ l : List UInt8, l.length = 16 ∧ v = .agg (l.map u8v).toArray := by
  obtain ⟨cs, rfl, _⟩ := okWide_array Tryd.underlying23 hv
  obtain ⟨m, h⟩ := h
  obtain ⟨l, h1, h2⟩ := trod_bytesArr Tryd.underlying23 Tryd.underlying5 (by kernel_rfl) (by kernel_rfl) h
  refine ⟨l, h1, ?_⟩
  have : cs.toList = l.map u8v := h2
  rw [← this, Array.toArray_toList]

end Go.Proofs.YtjemfefkgfoikaaDoor

/-
  Opening arguments: structs part by part.
-/
namespace Go.Proofs.YtjemfefkgfoikaaDoor
open Go.ChangeShapes Go.WideShapes Go.ChangeAt Go.RowKit Go.Joins Go.Deep

def splitBy : List Nat → List Value → List (List Value)
  | [], _ => []
  | n :: ns, cs => cs.take n :: splitBy ns (cs.drop n)
def offsOf : Nat → List Nat → List (Nat × Nat)
  | _, [] => []
  | o, n :: ns => (o, n) :: offsOf (o + n) ns
theorem splitBy_flatten : ∀ (ns : List Nat) (cs : List Value), cs.length = ns.sum → (splitBy ns cs).flatten = cs
  | [], cs, h => by simpa [splitBy] using (List.eq_nil_of_length_eq_zero (by simpa using h)).symm
  | n :: ns, cs, h => by
    rw [List.sum_cons] at h
    rw [splitBy, List.flatten_cons, splitBy_flatten ns (cs.drop n) (by rw [List.length_drop]; omega), List.take_append_drop]
theorem splitBy_get : ∀ (ns : List Nat) (cs : List Value) (i o n : Nat) (o0 : Nat), (offsOf o0 ns)[i]? = some (o0 + o, n) → (splitBy ns cs).getD i [] = (cs.drop o).take n
  | [], cs, i, o, n, o0, h => by simp [offsOf] at h
  | m :: ns, cs, 0, o, n, o0, h => by
    simp only [offsOf, List.getElem?_cons_zero, Option.some.injEq, Prod.mk.injEq] at h
    obtain ⟨h1, h2⟩ := h
    obtain rfl : o = 0 := by omega
    subst h2
    rfl
  | m :: ns, cs, i + 1, o, n, o0, h => by
    simp only [offsOf, List.getElem?_cons_succ] at h
    have ho : m ≤ o := by
      have : ∀ (ns : List Nat) (a i o n : Nat), (offsOf a ns)[i]? = some (o, n) → a ≤ o := by
        intro ns
        induction ns with
        | nil => intro a i o n h; simp [offsOf] at h
        | cons k ns ih =>
          intro a i o n h
          cases i with
          | zero => simp only [offsOf, List.getElem?_cons_zero, Option.some.injEq, Prod.mk.injEq] at h; omega
          | succ i => simp only [offsOf, List.getElem?_cons_succ] at h; have := ih _ _ _ _ h; omega
      have := this _ _ _ _ _ h
      omega
    have := splitBy_get ns (cs.drop m) i (o - m) n (o0 + m) (by rw [show o0 + m + (o - m) = o0 + o from by omega]; exact h)
    show (splitBy ns (cs.drop m)).getD i [] = _
    rw [this, List.drop_drop, show m + (o - m) = o from by omega]
theorem trod_split {H : Type} {enc : TypeId × Value → H} {P : Program} {w : World} {base : Nat} {spare : Nat → Bool} {held : Bool} {t : TypeId} {fs : Array Field} {ns : List Nat} {fuel : Nat} {cs : List Value} {x : DataW H × List MemPlace} (ht : P.underlying t = some (.struct fs))
    (hfs : fs.toList.map (fun f => (f.offset, P.cellsOf f.type)) = offsOf 0 ns) (hc : P.cellsOf t = ns.sum) (h : DataW.trod enc P w base spare held fuel t cs = some x) :
    (splitBy ns cs).flatten = cs ∧ ∀ i f, fs[i]? = some f → ∃ m y, DataW.trod enc P w base spare held m f.type ((splitBy ns cs).getD i []) = some y := by
  obtain ⟨xs, n', _, _, hlen, hxl, hf⟩ := DataW.trod_struct ht h
  refine ⟨splitBy_flatten ns cs (by rw [hlen, hc]), fun i f hi => ?_⟩
  have h1 := hf i f hi
  have hil : i < xs.length := by
    rw [hxl]
    exact (Array.getElem?_eq_some_iff.1 hi).1
  have h2 : (offsOf 0 ns)[i]? = some (0 + f.offset, P.cellsOf f.type) := by
    rw [← hfs, List.getElem?_map, Array.getElem?_toList, hi, Nat.zero_add]
    rfl
  rw [splitBy_get ns cs i f.offset _ 0 h2]
  exact ⟨n', xs[i], by rw [h1, List.getElem?_eq_getElem hil]⟩
theorem open_parts {H : Type} {enc : TypeId × Value → H} {P : Program} {v : Value} {d : DataW H} {p : List MemPlace} {W : World} {base : Nat} {t : TypeId} {fs : Array Field} {ns : List Nat} (ht : P.underlying t = some (.struct fs))
    (hfs : fs.toList.map (fun f => (f.offset, P.cellsOf f.type)) = offsOf 0 ns) (hc : P.cellsOf t = ns.sum) (hv : Value.okWide P W .any base t v) (h : DataW.Trod enc P W 0 (fun _ => true) true t v d p) :
    ∃ cs : List Value, v = .agg cs.toArray ∧ (splitBy ns cs).flatten = cs ∧ ∀ i f, fs[i]? = some f → ∃ m y, DataW.trod enc P W 0 (fun _ => true) true m f.type ((splitBy ns cs).getD i []) = some y := by
  obtain ⟨cs, rfl, _⟩ := okWide_struct ht hv
  obtain ⟨m, h⟩ := h
  have h' : DataW.trod enc P W 0 (fun _ => true) true m t cs.toList = some (d, p) := h
  have := trod_split ht hfs hc h'
  exact ⟨cs.toList, by rw [Array.toArray_toList], this.1, this.2⟩

end Go.Proofs.YtjemfefkgfoikaaDoor

/-
  Opening arguments: slices of digests.
-/
namespace Go.Proofs.YtjemfefkgfoikaaDoor
open Go.ChangeShapes Go.WideShapes Go.ChangeAt Go.RowKit Go.Joins Go.Deep

theorem trod_digs {H : Type} {enc : TypeId × Value → H} {P : Program} {w : World} {base : Nat} {spare : Nat → Bool} {held : Bool} {t s e : TypeId} {fuel : Nat} {cs : List Value} {x : DataW H × List MemPlace} (ht : P.underlying t = some (.slice s)) (hs : P.underlying s = some (.array 16 e)) (he : P.underlying e = some (.int .u8)) (hks : P.cellsOf s = 16) (hke : P.cellsOf e = 1) (h : DataW.trod enc P w base spare held fuel t cs = some x) :
    ∃ (v : Value) (ds : List (List UInt8)), cs = [v] ∧ Digs w v ds := by
  obtain ⟨v, n, E, m, Y, rfl, hr, hE⟩ := trod_reads ht hks (by omega) h
  obtain ⟨l, hl, h2, h3⟩ := reads_list (R := fun d : List UInt8 => d.length = 16) (fun d => d.map u8v) fun i hi => by
    obtain ⟨d, h4, h5⟩ := trod_bytesArr hs he hke hks (hE i hi).2
    exact ⟨d, h5, h4⟩
  refine ⟨v, l, rfl, h3, ?_⟩
  rw [h2] at hr
  rw [hl]
  exact hr
set_option maxRecDepth 100000 in
theorem open_digs {H : Type} {enc : TypeId × Value → H} {v : Value} {d : DataW H} {p : List MemPlace} {W : World} {base : Nat} (hv : Value.okWide Tryd.prog W .any base 24 v)
    (h : DataW.Trod enc Tryd.prog W 0 (fun _ => true) true 24 v d p) : ∃ ds, Digs W v ds := by
  obtain ⟨A2, len2, cap2, rfl⟩ := okWide_slice Tryd.underlying24 hv
  obtain ⟨m2, h⟩ := h
  obtain ⟨v, ds, hl, hp⟩ := trod_digs Tryd.underlying24 Tryd.underlying23 Tryd.underlying5 (by kernel_rfl) (by kernel_rfl) h
  simp [Value.cells] at hl
  subst hl
  exact ⟨ds, hp⟩

end Go.Proofs.YtjemfefkgfoikaaDoor

/-
  Opening the arguments of the laws of package 05.
-/
namespace Go.Proofs.YtjemfefkgfoikaaDoor
open Go.ChangeShapes Go.WideShapes Go.ChangeAt Go.RowKit Go.Joins Go.Deep

theorem bounds_u8 {z : Int} (h : (Lit.int .u8 z).wf = true) : 0 ≤ z ∧ z ≤ 255 := by
  simp [Lit.wf, IntKind.min, IntKind.max, IntKind.signed, IntKind.bits] at h
  omega
theorem cells_dig : Tryd.prog.cellsOf 23 = 16 := by kernel_rfl
theorem trod_sig {H : Type} {enc : TypeId × Value → H} {w : World} {base : Nat} {spare : Nat → Bool} {held : Bool} {fuel : Nat} {cs : List Value} {x : DataW H × List MemPlace} (h : DataW.trod enc Tryd.prog w base spare held fuel 47 cs = some x) :
    ∃ (i : Int) (cv pv : Value) (chain path : List (List UInt8)), cs = [.int .i64 i, cv, pv] ∧ -9223372036854775808 ≤ i ∧ i ≤ 9223372036854775807 ∧ Digs w cv chain ∧ Digs w pv path := by
  obtain ⟨hfl, hf⟩ := trod_split (ns := [1, 1, 1]) Tryd.underlying47 (by kernel_rfl) (by kernel_rfl) h
  obtain ⟨m0, y0, t0⟩ := hf 0 _ rfl
  obtain ⟨m1, y1, t1⟩ := hf 1 _ rfl
  obtain ⟨m2, y2, t2⟩ := hf 2 _ rfl
  have hcs : cs = (splitBy [1, 1, 1] cs).getD 0 [] ++ ((splitBy [1, 1, 1] cs).getD 1 [] ++ ((splitBy [1, 1, 1] cs).getD 2 [] ++ [])) := hfl.symm
  obtain ⟨z, e0, _, hw⟩ := DataW.trod_int Tryd.underlying3 t0
  obtain ⟨cv, chain, e1, h1⟩ := trod_digs Tryd.underlying24 Tryd.underlying23 Tryd.underlying5 (by kernel_rfl) (by kernel_rfl) t1
  obtain ⟨pv, path, e2, h2⟩ := trod_digs Tryd.underlying24 Tryd.underlying23 Tryd.underlying5 (by kernel_rfl) (by kernel_rfl) t2
  rw [e0, e1, e2] at hcs
  have hb := bounds_i64 hw
  exact ⟨z, cv, pv, chain, path, hcs, hb.1, hb.2, h1, h2⟩
section
variable {H : Type} {enc : TypeId × Value → H} {v : Value} {d : DataW H} {p : List MemPlace} {W : World} {base : Nat}
def in1L (seed : List Value) (hh : Int) (ix : Int) (msg : List Value) : List Value := seed ++ ([.int .i64 hh] ++ ([.int .i64 ix] ++ (msg ++ ([]))))
set_option maxRecDepth 100000 in
theorem open_in1 (hv : Value.okWide Tryd.prog W .any base 44 v) (h : DataW.Trod enc Tryd.prog W 0 (fun _ => true) true 44 v d p) :
    ∃ (seed : List UInt8) (hh : Int) (ix : Int) (msg : List UInt8), v = .agg (in1L (seed.map u8v) hh ix (msg.map u8v)).toArray ∧ seed.length = 16 ∧ (-9223372036854775808 ≤ hh ∧ hh ≤ 9223372036854775807) ∧ (-9223372036854775808 ≤ ix ∧ ix ≤ 9223372036854775807) ∧ msg.length = 16 := by
  obtain ⟨cs, rfl, hfl, hf⟩ := open_parts (ns := [16, 1, 1, 16]) Tryd.underlying44 (by kernel_rfl) (by kernel_rfl) hv h
  obtain ⟨m0, y0, t0⟩ := hf 0 _ rfl
  obtain ⟨m1, y1, t1⟩ := hf 1 _ rfl
  obtain ⟨m2, y2, t2⟩ := hf 2 _ rfl
  obtain ⟨m3, y3, t3⟩ := hf 3 _ rfl
  have hcs : cs = (splitBy [16, 1, 1, 16] cs).getD 0 [] ++ ((splitBy [16, 1, 1, 16] cs).getD 1 [] ++ ((splitBy [16, 1, 1, 16] cs).getD 2 [] ++ ((splitBy [16, 1, 1, 16] cs).getD 3 [] ++ ([])))) := hfl.symm
  obtain ⟨l0, hl0, e0⟩ := trod_bytesArr Tryd.underlying23 Tryd.underlying5 (by kernel_rfl) (by kernel_rfl) t0
  obtain ⟨z1, e1, _, hw1⟩ := DataW.trod_int Tryd.underlying3 t1
  obtain ⟨z2, e2, _, hw2⟩ := DataW.trod_int Tryd.underlying3 t2
  obtain ⟨l3, hl3, e3⟩ := trod_bytesArr Tryd.underlying23 Tryd.underlying5 (by kernel_rfl) (by kernel_rfl) t3
  rw [e0, e1, e2, e3] at hcs
  exact ⟨l0, z1, z2, l3, by rw [hcs]; rfl, hl0, bounds_i64 hw1, bounds_i64 hw2, hl3⟩
def in2L (root : List Value) (hh : Int) (msg : List Value) (s : List Value) (t : List Value) : List Value := root ++ ([.int .i64 hh] ++ (msg ++ (s ++ (t ++ ([])))))
set_option maxRecDepth 100000 in
theorem open_in2 (hv : Value.okWide Tryd.prog W .any base 53 v) (h : DataW.Trod enc Tryd.prog W 0 (fun _ => true) true 53 v d p) :
    ∃ (root : List UInt8) (hh : Int) (msg : List UInt8) (si : Int) (sc sp : Value) (scl spl : List (List UInt8)) (ti : Int) (tc tp : Value) (tcl tpl : List (List UInt8)), v = .agg (in2L (root.map u8v) hh (msg.map u8v) [.int .i64 si, sc, sp] [.int .i64 ti, tc, tp]).toArray ∧ root.length = 16 ∧ (-9223372036854775808 ≤ hh ∧ hh ≤ 9223372036854775807) ∧ msg.length = 16 ∧ (-9223372036854775808 ≤ si ∧ si ≤ 9223372036854775807 ∧ Digs W sc scl ∧ Digs W sp spl) ∧ (-9223372036854775808 ≤ ti ∧ ti ≤ 9223372036854775807 ∧ Digs W tc tcl ∧ Digs W tp tpl) := by
  obtain ⟨cs, rfl, hfl, hf⟩ := open_parts (ns := [16, 1, 16, 3, 3]) Tryd.underlying53 (by kernel_rfl) (by kernel_rfl) hv h
  obtain ⟨m0, y0, t0⟩ := hf 0 _ rfl
  obtain ⟨m1, y1, t1⟩ := hf 1 _ rfl
  obtain ⟨m2, y2, t2⟩ := hf 2 _ rfl
  obtain ⟨m3, y3, t3⟩ := hf 3 _ rfl
  obtain ⟨m4, y4, t4⟩ := hf 4 _ rfl
  have hcs : cs = (splitBy [16, 1, 16, 3, 3] cs).getD 0 [] ++ ((splitBy [16, 1, 16, 3, 3] cs).getD 1 [] ++ ((splitBy [16, 1, 16, 3, 3] cs).getD 2 [] ++ ((splitBy [16, 1, 16, 3, 3] cs).getD 3 [] ++ ((splitBy [16, 1, 16, 3, 3] cs).getD 4 [] ++ ([]))))) := hfl.symm
  obtain ⟨l0, hl0, e0⟩ := trod_bytesArr Tryd.underlying23 Tryd.underlying5 (by kernel_rfl) (by kernel_rfl) t0
  obtain ⟨z1, e1, _, hw1⟩ := DataW.trod_int Tryd.underlying3 t1
  obtain ⟨l2, hl2, e2⟩ := trod_bytesArr Tryd.underlying23 Tryd.underlying5 (by kernel_rfl) (by kernel_rfl) t2
  obtain ⟨i3, c3, p3, cl3, pl3, e3, q3⟩ := trod_sig t3
  obtain ⟨i4, c4, p4, cl4, pl4, e4, q4⟩ := trod_sig t4
  rw [e0, e1, e2, e3, e4] at hcs
  exact ⟨l0, z1, l2, i3, c3, p3, cl3, pl3, i4, c4, p4, cl4, pl4, by rw [hcs]; rfl, hl0, bounds_i64 hw1, hl2, q3, q4⟩
def in3L (seed : List Value) (hh : Int) (ix : Int) (msg : List Value) : List Value := seed ++ ([.int .u8 hh] ++ ([.int .u8 ix] ++ (msg ++ ([]))))
set_option maxRecDepth 100000 in
theorem open_in3 (hv : Value.okWide Tryd.prog W .any base 58 v) (h : DataW.Trod enc Tryd.prog W 0 (fun _ => true) true 58 v d p) :
    ∃ (seed : List UInt8) (hh : Nat) (ix : Nat) (msg : List UInt8), v = .agg (in3L (seed.map u8v) (hh : Int) (ix : Int) (msg.map u8v)).toArray ∧ seed.length = 16 ∧ hh < 256 ∧ ix < 256 ∧ msg.length = 16 := by
  obtain ⟨cs, rfl, hfl, hf⟩ := open_parts (ns := [16, 1, 1, 16]) Tryd.underlying58 (by kernel_rfl) (by kernel_rfl) hv h
  obtain ⟨m0, y0, t0⟩ := hf 0 _ rfl
  obtain ⟨m1, y1, t1⟩ := hf 1 _ rfl
  obtain ⟨m2, y2, t2⟩ := hf 2 _ rfl
  obtain ⟨m3, y3, t3⟩ := hf 3 _ rfl
  have hcs : cs = (splitBy [16, 1, 1, 16] cs).getD 0 [] ++ ((splitBy [16, 1, 1, 16] cs).getD 1 [] ++ ((splitBy [16, 1, 1, 16] cs).getD 2 [] ++ ((splitBy [16, 1, 1, 16] cs).getD 3 [] ++ ([])))) := hfl.symm
  obtain ⟨l0, hl0, e0⟩ := trod_bytesArr Tryd.underlying23 Tryd.underlying5 (by kernel_rfl) (by kernel_rfl) t0
  obtain ⟨z1, e1, _, hw1⟩ := DataW.trod_int Tryd.underlying5 t1
  have hb1 := bounds_u8 hw1
  obtain ⟨k1, rfl⟩ : ∃ k : Nat, z1 = (k : Int) := ⟨z1.toNat, by omega⟩
  obtain ⟨z2, e2, _, hw2⟩ := DataW.trod_int Tryd.underlying5 t2
  have hb2 := bounds_u8 hw2
  obtain ⟨k2, rfl⟩ : ∃ k : Nat, z2 = (k : Int) := ⟨z2.toNat, by omega⟩
  obtain ⟨l3, hl3, e3⟩ := trod_bytesArr Tryd.underlying23 Tryd.underlying5 (by kernel_rfl) (by kernel_rfl) t3
  rw [e0, e1, e2, e3] at hcs
  exact ⟨l0, k1, k2, l3, by rw [hcs]; rfl, hl0, by omega, by omega, hl3⟩
def in4L (seed : List Value) (hh : Int) (ix : Int) (msg : List Value) (odd : Int) (what : Int) : List Value := seed ++ ([.int .u8 hh] ++ ([.int .u8 ix] ++ (msg ++ ([.int .i64 odd] ++ ([.int .u8 what] ++ ([]))))))
set_option maxRecDepth 100000 in
theorem open_in4 (hv : Value.okWide Tryd.prog W .any base 62 v) (h : DataW.Trod enc Tryd.prog W 0 (fun _ => true) true 62 v d p) :
    ∃ (seed : List UInt8) (hh : Nat) (ix : Nat) (msg : List UInt8) (odd : Int) (what : Nat), v = .agg (in4L (seed.map u8v) (hh : Int) (ix : Int) (msg.map u8v) odd (what : Int)).toArray ∧ seed.length = 16 ∧ hh < 256 ∧ ix < 256 ∧ msg.length = 16 ∧ (-9223372036854775808 ≤ odd ∧ odd ≤ 9223372036854775807) ∧ what < 256 := by
  obtain ⟨cs, rfl, hfl, hf⟩ := open_parts (ns := [16, 1, 1, 16, 1, 1]) Tryd.underlying62 (by kernel_rfl) (by kernel_rfl) hv h
  obtain ⟨m0, y0, t0⟩ := hf 0 _ rfl
  obtain ⟨m1, y1, t1⟩ := hf 1 _ rfl
  obtain ⟨m2, y2, t2⟩ := hf 2 _ rfl
  obtain ⟨m3, y3, t3⟩ := hf 3 _ rfl
  obtain ⟨m4, y4, t4⟩ := hf 4 _ rfl
  obtain ⟨m5, y5, t5⟩ := hf 5 _ rfl
  have hcs : cs = (splitBy [16, 1, 1, 16, 1, 1] cs).getD 0 [] ++ ((splitBy [16, 1, 1, 16, 1, 1] cs).getD 1 [] ++ ((splitBy [16, 1, 1, 16, 1, 1] cs).getD 2 [] ++ ((splitBy [16, 1, 1, 16, 1, 1] cs).getD 3 [] ++ ((splitBy [16, 1, 1, 16, 1, 1] cs).getD 4 [] ++ ((splitBy [16, 1, 1, 16, 1, 1] cs).getD 5 [] ++ ([])))))) := hfl.symm
  obtain ⟨l0, hl0, e0⟩ := trod_bytesArr Tryd.underlying23 Tryd.underlying5 (by kernel_rfl) (by kernel_rfl) t0
  obtain ⟨z1, e1, _, hw1⟩ := DataW.trod_int Tryd.underlying5 t1
  have hb1 := bounds_u8 hw1
  obtain ⟨k1, rfl⟩ : ∃ k : Nat, z1 = (k : Int) := ⟨z1.toNat, by omega⟩
  obtain ⟨z2, e2, _, hw2⟩ := DataW.trod_int Tryd.underlying5 t2
  have hb2 := bounds_u8 hw2
  obtain ⟨k2, rfl⟩ : ∃ k : Nat, z2 = (k : Int) := ⟨z2.toNat, by omega⟩
  obtain ⟨l3, hl3, e3⟩ := trod_bytesArr Tryd.underlying23 Tryd.underlying5 (by kernel_rfl) (by kernel_rfl) t3
  obtain ⟨z4, e4, _, hw4⟩ := DataW.trod_int Tryd.underlying3 t4
  obtain ⟨z5, e5, _, hw5⟩ := DataW.trod_int Tryd.underlying5 t5
  have hb5 := bounds_u8 hw5
  obtain ⟨k5, rfl⟩ : ∃ k : Nat, z5 = (k : Int) := ⟨z5.toNat, by omega⟩
  rw [e0, e1, e2, e3, e4, e5] at hcs
  exact ⟨l0, k1, k2, l3, z4, k5, by rw [hcs]; rfl, hl0, by omega, by omega, hl3, bounds_i64 hw4, by omega⟩
def in5L (root : List Value) (hh : Int) (msg : List Value) (s : List Value) : List Value := root ++ ([.int .i64 hh] ++ (msg ++ (s ++ ([]))))
set_option maxRecDepth 100000 in
theorem open_in5 (hv : Value.okWide Tryd.prog W .any base 65 v) (h : DataW.Trod enc Tryd.prog W 0 (fun _ => true) true 65 v d p) :
    ∃ (root : List UInt8) (hh : Int) (msg : List UInt8) (si : Int) (sc sp : Value) (scl spl : List (List UInt8)), v = .agg (in5L (root.map u8v) hh (msg.map u8v) [.int .i64 si, sc, sp]).toArray ∧ root.length = 16 ∧ (-9223372036854775808 ≤ hh ∧ hh ≤ 9223372036854775807) ∧ msg.length = 16 ∧ (-9223372036854775808 ≤ si ∧ si ≤ 9223372036854775807 ∧ Digs W sc scl ∧ Digs W sp spl) := by
  obtain ⟨cs, rfl, hfl, hf⟩ := open_parts (ns := [16, 1, 16, 3]) Tryd.underlying65 (by kernel_rfl) (by kernel_rfl) hv h
  obtain ⟨m0, y0, t0⟩ := hf 0 _ rfl
  obtain ⟨m1, y1, t1⟩ := hf 1 _ rfl
  obtain ⟨m2, y2, t2⟩ := hf 2 _ rfl
  obtain ⟨m3, y3, t3⟩ := hf 3 _ rfl
  have hcs : cs = (splitBy [16, 1, 16, 3] cs).getD 0 [] ++ ((splitBy [16, 1, 16, 3] cs).getD 1 [] ++ ((splitBy [16, 1, 16, 3] cs).getD 2 [] ++ ((splitBy [16, 1, 16, 3] cs).getD 3 [] ++ ([])))) := hfl.symm
  obtain ⟨l0, hl0, e0⟩ := trod_bytesArr Tryd.underlying23 Tryd.underlying5 (by kernel_rfl) (by kernel_rfl) t0
  obtain ⟨z1, e1, _, hw1⟩ := DataW.trod_int Tryd.underlying3 t1
  obtain ⟨l2, hl2, e2⟩ := trod_bytesArr Tryd.underlying23 Tryd.underlying5 (by kernel_rfl) (by kernel_rfl) t2
  obtain ⟨i3, c3, p3, cl3, pl3, e3, q3⟩ := trod_sig t3
  rw [e0, e1, e2, e3] at hcs
  exact ⟨l0, z1, l2, i3, c3, p3, cl3, pl3, by rw [hcs]; rfl, hl0, bounds_i64 hw1, hl2, q3⟩
end

end Go.Proofs.YtjemfefkgfoikaaDoor
