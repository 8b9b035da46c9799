/-
  Several texts in one file: each has its own heading below.
-/
import Derived.Test.YtcjlkjcadaaleaaDoorQpL
import Derived.Test.YtcjlkjcadaaleaaDoorCards
import Derived.Test.YtcjlkjcadaaleaaDoorTie
import Derived.Test.YtcjlkjcadaaleaaDoorQpG
import Derived.WalkKit
import Derived.ProofKit
import Derived.OpenShut
import Derived.ShutString
import Derived.ChangeOld
import Derived.Lib.SmallJoins
import Derived.Deep.Slices
import Derived.Deep.DeepHandedRow
import Derived.Lib.LaidTab
import Derived.Stop.LaidErr

/-
  Package page by the abstract machine: the sanity of its laws.
-/
namespace Go.Proofs.YtcjlkjcadaaleaaDoor.Pv
open Go.RowKit

theorem i64P_one : i64P 1 := ⟨by decide, by decide⟩
def sanSt0 : St := ⟨[(0, none, pvB false), (1, none, pv1 (.pt 1001 0 0))], [(1001, none, 0, .box 23 [.bs 16 sKey])]⟩
def sanSt1 (m : MemS) (r : List UInt8) : St := ⟨[(0, none, pvB false), (1, none, pv1 (.pt 1001 0 0)), (2, none, pv1 (.pt 2007 0 0)), (3, none, pv1 (.pt 2008 0 0)), (4, none, pvI 0)],
  [(1001, none, 0, .box 23 [.bs 16 sKey]), (2007, none, 0, .box 60 (memL m)), (2008, none, 0, .box 23 [.bs 16 r])]⟩
def sanSt2 (m n : MemS) (r d : List UInt8) : St := ⟨[(0, none, pvB false), (1, none, pv1 (.pt 1001 0 0)), (2, none, pv1 (.pt 2007 0 0)), (3, none, pv1 (.pt 2008 0 0)), (4, none, pvI 0), (5, none, pv1 (.pt 3008 0 0)), (6, none, pv1 (.pt 3009 0 0)), (7, none, pvI 0)],
  [(1001, none, 0, .box 23 [.bs 16 sKey]), (2007, none, 0, .box 60 (memL m)), (2008, none, 0, .box 23 [.bs 16 r]), (3008, none, 0, .box 60 (memL n)), (3009, none, 0, .box 23 [.bs 16 d])]⟩
def sanSt3 (n : MemS) (r d : List UInt8) : St := ⟨[(0, none, pvB false), (3, none, pv1 (.pt 2008 0 0)), (4, none, pvI 0), (5, none, pv1 (.pt 3008 0 0)), (6, none, pv1 (.pt 3009 0 0)), (7, none, pvI 0),
   (8, none, pv1 (.lit (.string sThree))), (9, none, pvI 0), (10, none, pv1 (.lit (.string sOne))), (11, none, pvI 0), (13, none, pvI 14), (16, none, pvI 8)],
  [(2008, none, 0, .box 23 [.bs 16 r]), (3008, none, 0, .box 60 (memL n)), (3009, none, 0, .box 23 [.bs 16 d])]⟩
structure SanF (m n : MemS) (r d : List UInt8) : Prop where
  em : newM sKey [sOne, sTwo] = m
  er : newR sKey [sOne, sTwo] = r
  en : pgSt sKey r m 1 sThree = n
  ed : storeR sKey r m 1 sThree = d
  ee : loadE sKey r m 1 = 0
  mm : MemOk m
  mn : MemOk n
  mb : MemOk (setTotal n 5)
  l1 : loadE sKey d n 1 = 0 ∧ loadV sKey d n 1 = sThree
  l0 : loadE sKey d n 0 = 0 ∧ loadV sKey d n 0 = sOne
  stale : loadE sKey d m 1 = 14
  corrupt : loadE sKey d (setTotal n 5) 0 = 8
  nc : n.counts = [0, 1]
  nt : n.total = 1
  root : memRootS n = d
  ne : (r != d) = true
theorem sanF : SanF sM sN sR sS := ⟨rfl, rfl, rfl, rfl, sStore.1, sMemM, sMemN, sMemB, sLoad1, sLoad0, sStale, sCorrupt, sNc, sNt, sGoodN.root.symm, sRS⟩
set_option maxRecDepth 100000 in
theorem pgSanity_of (m n : MemS) (r d : List UInt8) (F : SanF m n r d) : FunOk Tryd.prog ShaMem 34 true [] (pvB true) := by
  have M := pg5M
  refine funOk_of Tryd.func34 rfl rfl sha_ext (fun A hS hn hI => ?_)
  refine tri_reg M hI hn (outs := ?_) (s' := ?_) ?_ ?_ ?_ ?_
  rotate_left 2
  · rfl
  · kernel_rfl
  · simp
  refine tri_reg M hI hn (outs := ?_) (s' := ?_) ?_ ?_ ?_ ?_
  rotate_left 2
  · rfl
  · kernel_rfl
  · simp
  refine tri_conv (s' := sanSt0) (fun a w hg => (hg.reset (kT := [0, 1]) (kO := [1001]) (by rfl) (by simp)).same ?_ ?_) ?_
  · exact .cons rfl (.cons rfl .nil)
  · exact .cons (.box rfl) .nil
  refine tri_reg M hI hn (outs := ?_) (s' := ?_) ?_ ?_ ?_ ?_
  rotate_left 2
  · rfl
  · kernel_rfl
  · simp
    refine ⟨fun i hi => ?_, fun i hi => ?_, fun c hc => ?_⟩
    · match i, hi with
      | 0, _ => exact all_cold rfl
      | 1, _ => exact all_cold rfl
    · match i, hi with
      | 0, _ => rfl
      | 1, _ => rfl
    · have hc : c ∈ [sOne, sTwo] := hc
      simp only [List.mem_cons, List.not_mem_nil, or_false] at hc
      rcases hc with rfl | rfl <;> decide
  refine tri_conv (s' := sanSt1 m r) (fun a w hg => (hg.reset (kT := [0, 1, 2, 3, 4]) (kO := [1001, 2007, 2008]) (by rfl) (by simp)).same ?_ ?_) ?_
  · exact .cons rfl (.cons rfl (.cons rfl (.cons rfl (.cons rfl .nil))))
  · refine .cons (.box rfl) (.cons (.box ?_) (.cons (.box ?_) .nil))
    · rw [← F.em]; rfl
    · rw [← F.er]; rfl
  refine tri_reg M hI hn (outs := ?_) (s' := ?_) ?_ ?_ ?_ ?_
  rotate_left 2
  · rfl
  · kernel_rfl
  · simp only [All, hP, List.map_cons, List.map_nil, List.flatten_cons, List.flatten_nil, List.append_nil, List.nil_append, List.cons_append, rowBox_boxF, rowInt_intF, and_true]
    exact ⟨⟨fun _ _ => rfl, fun _ _ => rfl⟩, F.mm, i64P_one, by decide⟩
  refine tri_conv (s' := sanSt2 m n r d) (fun a w hg => (hg.reset (kT := [0, 1, 2, 3, 4, 5, 6, 7]) (kO := [1001, 2007, 2008, 3008, 3009]) (by rfl) (by simp)).same ?_ ?_) ?_
  · refine .cons rfl (.cons rfl (.cons rfl (.cons rfl (.cons rfl (.cons rfl (.cons rfl (.cons ?_ .nil)))))))
    simp only [rowBox_boxF, rowInt_intF]
    exact congrArg pvI F.ee
  · refine .cons (.box rfl) (.cons (.box rfl) (.cons (.box rfl) (.cons (.box ?_) (.cons (.box ?_) .nil))))
    · simp only [rowBox_boxF, rowInt_intF]
      exact congrArg memL F.en
    · simp only [rowBox_boxF, rowInt_intF]
      exact congrArg (fun c => [PC.bs 16 c]) F.ed
  refine tri_reg M hI hn (outs := ?_) (s' := ?_) ?_ ?_ ?_ ?_
  rotate_left 2
  · rfl
  · kernel_rfl
  · simp only [All, hP, List.map_cons, List.map_nil, List.flatten_cons, List.flatten_nil, List.append_nil, List.nil_append, List.cons_append, rowBox_boxF, rowInt_intF, and_true]
    exact ⟨⟨isBoxRow_boxF _ _, isIntRow_intF _ _⟩, F.mn, i64P_one⟩
  refine tri_reg M hI hn (outs := ?_) (s' := ?_) ?_ ?_ ?_ ?_
  rotate_left 2
  · rfl
  · kernel_rfl
  · simp only [All, hP, List.map_cons, List.map_nil, List.flatten_cons, List.flatten_nil, List.append_nil, List.nil_append, List.cons_append, rowBox_boxF, rowInt_intF, and_true]
    exact ⟨⟨isBoxRow_boxF _ _, isIntRow_intF _ _⟩, F.mn, i64P_zero⟩
  refine tri_reg M hI hn (outs := ?_) (s' := ?_) ?_ ?_ ?_ ?_
  rotate_left 2
  · rfl
  · kernel_rfl
  · simp only [All, hP, List.map_cons, List.map_nil, List.flatten_cons, List.flatten_nil, List.append_nil, List.nil_append, List.cons_append, rowBox_boxF, rowInt_intF, and_true]
    exact ⟨⟨isBoxRow_boxF _ _, isIntRow_intF _ _⟩, F.mm, i64P_one⟩
  refine tri_reg M hI hn (outs := ?_) (s' := ?_) ?_ ?_ ?_ ?_
  rotate_left 2
  · rfl
  · kernel_rfl
  · simp
  refine tri_reg M hI hn (outs := ?_) (s' := ?_) ?_ ?_ ?_ ?_
  rotate_left 2
  · rfl
  · kernel_rfl
  · simp
  refine tri_reg M hI hn (outs := ?_) (s' := ?_) ?_ ?_ ?_ ?_
  rotate_left 2
  · rfl
  · kernel_rfl
  · simp only [All, hP, List.map_cons, List.map_nil, List.flatten_cons, List.flatten_nil, List.append_nil, List.nil_append, List.cons_append, rowBox_boxF, rowInt_intF, and_true]
    exact ⟨⟨isBoxRow_boxF _ _, isIntRow_intF _ _⟩, F.mb, i64P_zero⟩
  refine tri_conv (s' := sanSt3 n r d) (fun a w hg => (hg.reset (kT := [0, 3, 4, 5, 6, 7, 8, 9, 10, 11, 13, 16]) (kO := [2008, 3008, 3009]) (by rfl) (by simp)).same ?_ ?_) ?_
  · simp only [rowBox_boxF, rowInt_intF]
    refine .cons rfl (.cons rfl (.cons rfl (.cons rfl (.cons rfl (.cons rfl (.cons ?_ (.cons ?_ (.cons ?_ (.cons ?_ (.cons ?_ (.cons ?_ .nil)))))))))))
    · exact congrArg (fun c => pv1 (.lit (.string c))) F.l1.2
    · exact congrArg pvI F.l1.1
    · exact congrArg (fun c => pv1 (.lit (.string c))) F.l0.2
    · exact congrArg pvI F.l0.1
    · exact congrArg pvI F.stale
    · exact congrArg pvI F.corrupt
  · exact .cons (.box rfl) (.cons (.box rfl) (.cons (.box rfl) .nil))
  refine tri_seq ?_
  refine tri_reg M hI hn (outs := ?_) (s' := ?_) ?_ ?_ ?_ ?_
  rotate_left 2
  · rfl
  · kernel_rfl
  · simp
  refine tri_cond (b := ?_) ?_ (fun hc => ?_) (fun hc => ?_)
  rotate_left 1
  · rfl
  · rw [F.nc] at hc
    exact absurd hc (by decide)
  · refine tri_skip ?_
    change Tri _ _ _ _ _
    have hn2 : (⟨n.pages, [0, 1], 1, n.tag⟩ : MemS) = n := by rw [← F.nc, ← F.nt]
    refine tri_reg M hI hn (outs := ?_) (s' := ?_) ?_ ?_ ?_ ?_
    rotate_left 2
    · rfl
    · kernel_rfl
    · simp [F.nc, F.nt, sThree, sOne]
      rw [show rowInt 2 (intF [0, 1]) = [0, 1] from rfl, hn2]
      exact F.mn
    refine tri_ret (fun a w hg => ⟨.inr rfl, _, ?_, hg⟩)
    refine retTo_cold (out := ?_) ?_ ?_ ?_ ?_ ?_
    rotate_left 1
    · rfl
    · simp
    · rfl
    · rfl
    have e1 : (sThree.toList == ({ data := #[116, 104, 114, 101, 101] } : ByteArray).toList) = true := by unfold sThree; exact beq_self_eq_true _
    have e2 : (sOne.toList == ({ data := #[111, 110, 101] } : ByteArray).toList) = true := by unfold sOne; exact beq_self_eq_true _
    have e3 : (memRootS n == d) = true := by rw [F.root]; simp
    have e4 : (r == d) = false := by have := F.ne; simpa using this
    simp only [rowBox_boxF, rowInt_intF, e1, e2, F.nc, F.nt]
    simp [e4]
    rw [hn2]
    exact F.root
theorem pgSanity_fun : FunOk Tryd.prog ShaMem 34 true [] (pvB true) := pgSanity_of _ _ _ _ sanF

end Go.Proofs.YtcjlkjcadaaleaaDoor.Pv

/-
  What the cards' rows give a walk: the two tables; how arguments read; the witness' world.
-/
namespace Go.Proofs.YtcjlkjcadaaleaaDoor
open Go.ChangeShapes Go.WideShapes Go.ChangeAt Go.RowKit Go.Joins Go.Deep
open Go.ChangeMaps (open_string shut_string)
set_option linter.unusedVariables false

theorem own : ownKnob Tryd.prog.godebug = none := by kernel_rfl
theorem laidOut : laidOutB Tryd.prog = true := by kernel_rfl

theorem gK : Tryd.prog.globalNamed "bootchain/sha.constants" = some 1 := by kernel_rfl
theorem gKType : (Tryd.prog.globals[1]?).map (·.type) = some 137 := by kernel_rfl
theorem gH : Tryd.prog.globalNamed "bootchain/sha.start" = some 0 := by kernel_rfl
theorem gHType : (Tryd.prog.globals[0]?).map (·.type) = some 129 := by kernel_rfl
theorem cellsK : Tryd.prog.cellsOf 137 = 64 := by kernel_rfl
theorem cellsH : Tryd.prog.cellsOf 129 = 8 := by kernel_rfl
theorem cellsU32 : Tryd.prog.cellsOf 127 = 1 := by kernel_rfl
def wordsI (l : List UInt32) : List Int := l.map fun x => (x.toNat : Int)
theorem dataK : (Rows.laid_bootchain_sha_constants : DataW Unit) = Lib.tabData .u32 (wordsI shaK) := by kernel_rfl
theorem dataH : (Rows.laid_bootchain_sha_start : DataW Unit) = Lib.tabData .u32 (wordsI shaH0) := by kernel_rfl

theorem rangeAt_tab {W : World} {name : String} {l : List UInt32} {g : Nat} (h : Lib.TabIs Tryd.prog W name .u32 (wordsI l)) (hg : Tryd.prog.globalNamed name = some g) : W.rangeAt g 0 (l.map w32) := by
  intro j v hj
  rw [List.getElem?_map] at hj
  obtain ⟨x, hx, rfl⟩ := Option.map_eq_some_iff.1 hj
  have hl : j < l.length := by
    rcases Nat.lt_or_ge j l.length with h' | h'
    · exact h'
    · rw [List.getElem?_eq_none h'] at hx; cases hx
  have := h.cell hg j (by unfold wordsI; simpa using hl)
  rw [show (wordsI l).getD j 0 = (x.toNat : Int) from by unfold wordsI; simp [List.getD, hx]] at this
  simpa [w32] using this

/-- WHAT THE ROW's LIST GIVES: the package's two tables. -/
theorem shaMem_of_laid {W : World} (h : laidMetH Tryd.prog [("bootchain/sha.constants", Rows.laid_bootchain_sha_constants), ("bootchain/sha.start", Rows.laid_bootchain_sha_start)] W) : ShaMem W := by
  have h1 : laidMet Tryd.prog [("bootchain/sha.constants", Rows.laid_bootchain_sha_constants), ("bootchain/sha.start", Rows.laid_bootchain_sha_start)] W := h
  have h2 := laidMet.tail h1
  rw [dataK] at h1
  rw [dataH] at h2
  exact ⟨rangeAt_tab (Lib.tabIs_of_head gK gKType Tryd.underlying137 Tryd.underlying127 cellsU32 cellsK h1) gK,
    rangeAt_tab (Lib.tabIs_of_head gH gHType Tryd.underlying129 Tryd.underlying127 cellsU32 cellsH h2) gH⟩

/-- A world for the witness. -/
def layCells (cs : List Value) : Obj → Obj
  | .cells _ t frozen => .cells cs.toArray t frozen
  | o => o
noncomputable def laidWorld (os : Os) : World :=
  { World.holding Tryd.prog os ⟨#[], #[], []⟩ with
    heap := ((World.holding Tryd.prog os ⟨#[], #[], []⟩).heap.modify 1 (layCells (shaK.map w32))).modify 0 (layCells (shaH0.map w32)) }

theorem reads_list {α : Type} {n : Nat} {E : Nat → List Value} {R : α → Prop} (g : α → List Value) (h : ∀ i, i < n → ∃ a, E i = g a ∧ R a) : ∃ l : List α, l.length = n ∧ (List.range n).flatMap E = l.flatMap g ∧ ∀ a ∈ l, R a := by
  induction n with
  | zero => exact ⟨[], rfl, rfl, fun a h => by cases h⟩
  | succ n ih =>
    obtain ⟨l, h1, h2, h3⟩ := ih fun i hi => h i (by omega)
    obtain ⟨a, h4, h5⟩ := h n (by omega)
    refine ⟨l ++ [a], by simp [h1], ?_, fun b hb => ?_⟩
    · rw [List.range_succ, List.flatMap_append, List.flatMap_append, h2]
      simp [h4]
    · rcases List.mem_append.1 hb with hb | hb
      · exact h3 b hb
      · rw [List.mem_singleton.1 hb]; exact h5

section
variable {H : Type} {enc : TypeId × Value → H} {P : Program} {w : World} {base : Nat} {spare : Nat → Bool} {held : Bool}
/-- A slice: its cells, and what each element reads as. -/
theorem trod_reads {t e : TypeId} {k : Nat} {fuel : Nat} {cs : List Value} {x : DataW H × List MemPlace} (ht : P.underlying t = some (.slice e)) (hk : P.cellsOf e = k) (hk0 : 0 < k) (h : DataW.trod enc P w base spare held fuel t cs = some x) :
    ∃ (v : Value) (n : Nat) (E : Nat → List Value) (m : Nat) (Y : Nat → DataW H × List MemPlace), cs = [v] ∧ Reads w k v n ((List.range n).flatMap E) ∧ ∀ i, i < n → (E i).length = k ∧ DataW.trod enc P w base spare held m e (E i) = some (Y i) := by
  rcases open_slice ht h with ⟨rfl, _⟩ | ⟨a, len, cap, m, n, D, Pl, hcs, hb, hl, hm, hmm, hx, hi⟩
  · exact ⟨_, 0, fun _ => [], 0, fun _ => (.nil, []), rfl, by simpa using Reads.nil w k, fun i hi => by omega⟩
  · rw [hk] at hi
    have hlm : len ≤ m := by rw [hmm]; split <;> omega
    have hall : ∀ i, ∃ cs', i < m → w.cells? base (a.add (i * k)) k = some cs' ∧ DataW.trod enc P w base spare held n e cs' = some (D i, Pl i) := fun i => by
      by_cases h : i < m
      · obtain ⟨c, hc⟩ := hi i h
        exact ⟨c, fun _ => hc⟩
      · exact ⟨[], fun h' => absurd h' h⟩
    refine ⟨_, len, fun i => Classical.choose (hall i), n, fun i => (D i, Pl i), hcs, ?_, fun i hil => ?_⟩
    · have hsz : ∀ i, i < m → (Classical.choose (hall i)).length = k ∧ ∀ j, j < k → w.cell? ((a.add (i * k)).add j) = (Classical.choose (hall i))[j]? := fun i him => by
        obtain ⟨_, h2, h3⟩ := World.cells?_some (Classical.choose_spec (hall i) him).1
        exact ⟨h2, h3⟩
      have hlen : ∀ j, j ≤ m → ((List.range j).flatMap fun i => Classical.choose (hall i)).length = j * k := by
        intro j
        induction j with
        | zero => intro _; simp
        | succ j ih =>
          intro hj
          rw [List.range_succ, List.flatMap_append, List.length_append, ih (by omega)]
          simp [(hsz j (by omega)).1, Nat.succ_mul]
      have hget : ∀ j, j ≤ m → ∀ q u, ((List.range j).flatMap fun i => Classical.choose (hall i))[q]? = some u → w.cell? (a.add q) = some u := by
        intro j
        induction j with
        | zero => intro _ q u h; simp at h
        | succ j ih =>
          intro hj q u h
          rw [List.range_succ, List.flatMap_append, List.getElem?_append] at h
          rw [hlen j (by omega)] at h
          by_cases hq : q < j * k
          · rw [if_pos hq] at h
            exact ih (by omega) q u h
          · rw [if_neg hq] at h
            simp only [List.flatMap_cons, List.flatMap_nil, List.append_nil] at h
            have h2 := (hsz j (by omega)).2 (q - j * k) (by
              have := (hsz j (by omega)).1
              rcases Nat.lt_or_ge (q - j * k) k with h' | h'
              · exact h'
              · rw [List.getElem?_eq_none (by omega)] at h; cases h)
            rw [add_of_add, show j * k + (q - j * k) = q from by omega] at h2
            rw [h2, h]
      refine ⟨hlen len hlm, _, cap, rfl, hl, hm, fun hn => ?_⟩
      have hl0 := hlen len hlm
      obtain ⟨u0, hu0⟩ : ∃ u0, ((List.range len).flatMap fun i => Classical.choose (hall i))[0]? = some u0 := ⟨_, List.getElem?_eq_getElem (by rw [hl0]; exact Nat.mul_pos hn hk0)⟩
      have hc0 := hget len hlm 0 u0 hu0
      obtain ⟨b, off, spot⟩ := a
      have hspot : spot = none := by simpa [Addr.add] using World.cell?_spot hc0
      subst hspot
      refine ⟨b, off, rfl, fun j u hu => ?_⟩
      have := hget len hlm j u hu
      rwa [add_lit] at this
    · have h2 := Classical.choose_spec (hall i) (by omega)
      exact ⟨(World.cells?_some h2.1).2.1, h2.2⟩

theorem map_flat (k : IntKind) (l : List Int) : l.map (Value.int k) = l.flatMap fun z => [Value.int k z] := by
  induction l with
  | nil => rfl
  | cons a l ih => rw [List.map_cons, List.flatMap_cons, ← ih]; rfl
/-- A slice of integers. -/
theorem trod_reads_ints {t e : TypeId} {k : IntKind} {fuel : Nat} {cs : List Value} {x : DataW H × List MemPlace} (ht : P.underlying t = some (.slice e)) (he : P.underlying e = some (.int k)) (hk : P.cellsOf e = 1) (h : DataW.trod enc P w base spare held fuel t cs = some x) :
    ∃ (v : Value) (l : List Int), cs = [v] ∧ Reads w 1 v l.length (l.map (Value.int k)) ∧ ∀ z ∈ l, (Lit.int k z).wf = true := by
  obtain ⟨v, n, E, m, Y, rfl, hr, hE⟩ := trod_reads ht hk (by omega) h
  obtain ⟨l, rfl, h2, h3⟩ := reads_list (R := fun z => (Lit.int k z).wf = true) (fun z => [Value.int k z]) fun i hi => by
    obtain ⟨z, hz, _, hw⟩ := DataW.trod_int he (hE i hi).2
    exact ⟨z, hz, hw⟩
  rw [h2] at hr
  refine ⟨v, l, rfl, ?_, h3⟩
  rw [map_flat]
  exact hr
def toByte (z : Int) : UInt8 := UInt8.ofNat z.toNat
theorem toByte_v {z : Int} (h : (Lit.int .u8 z).wf = true) : Value.int .u8 z = u8v (toByte z) := by
  have := bounds_u8 h
  have e : ((toByte z).toNat : Int) = z := by
    unfold toByte
    rw [UInt8.toNat_ofNat']
    omega
  show Value.int .u8 z = Value.int .u8 ((toByte z).toNat : Int)
  rw [e]
/-- A slice of bytes. -/
theorem trod_bytes {t e : TypeId} {fuel : Nat} {cs : List Value} {x : DataW H × List MemPlace} (ht : P.underlying t = some (.slice e)) (he : P.underlying e = some (.int .u8)) (hk : P.cellsOf e = 1) (h : DataW.trod enc P w base spare held fuel t cs = some x) :
    ∃ (v : Value) (l : List UInt8), cs = [v] ∧ Reads w 1 v l.length (l.map u8v) := by
  obtain ⟨v, l, rfl, hr, hw⟩ := trod_reads_ints ht he hk h
  refine ⟨v, l.map toByte, rfl, ?_⟩
  rw [List.length_map, List.map_map, show l.map (u8v ∘ toByte) = l.map (Value.int .u8) from List.map_congr_left fun z hz => (toByte_v (hw z hz)).symm]
  exact hr
theorem flat_single {α : Type} (f : α → Value) (l : List α) : l.flatMap (fun a => [f a]) = l.map f := by
  induction l with
  | nil => rfl
  | cons a l ih => rw [List.map_cons, List.flatMap_cons, ← ih]; rfl
/-- A slice of slices of bytes. -/
theorem trod_parts {t s e : TypeId} {fuel : Nat} {cs : List Value} {x : DataW H × List MemPlace} (ht : P.underlying t = some (.slice s)) (hs : P.underlying s = some (.slice e)) (he : P.underlying e = some (.int .u8)) (hks : P.cellsOf s = 1) (hke : P.cellsOf e = 1) (h : DataW.trod enc P w base spare held fuel t cs = some x) :
    ∃ (v : Value) (ps : List (List UInt8)), cs = [v] ∧ Parts w v ps := by
  obtain ⟨v, n, E, m, Y, rfl, hr, hE⟩ := trod_reads ht hks (by omega) h
  obtain ⟨l, hl, h2, h3⟩ := reads_list (R := fun a : Value × List UInt8 => Reads w 1 a.1 a.2.length (a.2.map u8v)) (fun a => [a.1]) fun i hi => by
    obtain ⟨v, l, hv, hl⟩ := trod_bytes hs he hke (hE i hi).2
    exact ⟨(v, l), hv, hl⟩
  rw [h2, flat_single] at hr
  refine ⟨v, l.map (·.2), rfl, l.map (·.1), by simp, ?_, fun i p hp => ?_⟩
  · rw [List.length_map, hl]; exact hr
  · rw [List.getElem?_map] at hp
    obtain ⟨a, ha, rfl⟩ := Option.map_eq_some_iff.1 hp
    exact ⟨a.1, by rw [List.getElem?_map, ha]; rfl, h3 a (List.mem_of_getElem? ha)⟩
end

end Go.Proofs.YtcjlkjcadaaleaaDoor

/-
  Opening arguments: arrays of bytes, boxes.
-/
namespace Go.Proofs.YtcjlkjcadaaleaaDoor
open Go.ChangeShapes Go.WideShapes Go.ChangeAt Go.RowKit Go.Joins Go.Deep

section
variable {H : Type} {enc : TypeId × Value → H} {P : Program} {w : World} {base : Nat} {spare : Nat → Bool} {held : Bool}
theorem bytes_of_cells (cs : List Value) (h : ∀ c ∈ cs, ∃ b : UInt8, c = u8v b) : ∃ l : List UInt8, cs = l.map u8v := by
  induction cs with
  | nil => exact ⟨[], rfl⟩
  | cons c cs ih =>
    obtain ⟨l, hl⟩ := ih fun x hx => h x (List.mem_cons_of_mem _ hx)
    obtain ⟨b, hb⟩ := h c (List.mem_cons_self ..)
    exact ⟨b :: l, by rw [hb, hl]; rfl⟩
theorem trod_bytesArr {t e : TypeId} {n fuel : Nat} {cs : List Value} {x : DataW H × List MemPlace} (ht : P.underlying t = some (.array n e)) (he : P.underlying e = some (.int .u8)) (hk : P.cellsOf e = 1) (hn : P.cellsOf t = n) (h : DataW.trod enc P w base spare held fuel t cs = some x) :
    ∃ l : List UInt8, l.length = n ∧ cs = l.map u8v := by
  obtain ⟨xs, m, _, _, hl, hxl, hf⟩ := DataW.trod_array ht h
  rw [hn] at hl
  rw [hk] at hf
  obtain ⟨l, hl2⟩ := bytes_of_cells cs fun c hc => by
    obtain ⟨i, hi, hci⟩ := List.getElem_of_mem hc
    have h1 := hf i (by omega)
    rw [Nat.mul_one, List.drop_eq_getElem_cons hi, List.take_succ_cons, List.take_zero, List.getElem?_eq_getElem (by omega)] at h1
    obtain ⟨z, hz, _, hw⟩ := DataW.trod_int he h1
    cases hz2 : cs[i]
    all_goals rw [hz2] at hz
    all_goals (cases hz)
    exact ⟨toByte z, by rw [← hci, hz2]; exact toByte_v hw⟩
  exact ⟨l, by rw [hl2] at hl; simpa using hl, hl2⟩
theorem okWide_array {r : Reach} {b0 : Nat} {t e : TypeId} {n : Nat} {v : Value} (ht : P.underlying t = some (.array n e)) (h : Value.okWide P w r b0 t v) : ∃ cs, v = .agg cs ∧ cs.size = P.cellsOf t := by
  simp only [Value.okWide, ht] at h
  obtain ⟨cs, h1, h2, _⟩ := h
  exact ⟨cs, h1, h2⟩
end
set_option maxRecDepth 100000 in
theorem open_digest {H : Type} {enc : TypeId × Value → H} {v : Value} {d : DataW H} {p : List MemPlace} {W : World} {base : Nat} (hv : Value.okWide Tryd.prog W .any base 23 v)
    (h : DataW.Trod enc Tryd.prog W 0 (fun _ => true) true 23 v d p) : ∃ l : List UInt8, l.length = 16 ∧ v = .agg (l.map u8v).toArray := by
  obtain ⟨cs, rfl, _⟩ := okWide_array Tryd.underlying23 hv
  obtain ⟨m, h⟩ := h
  obtain ⟨l, h1, h2⟩ := trod_bytesArr Tryd.underlying23 Tryd.underlying5 (by kernel_rfl) (by kernel_rfl) h
  refine ⟨l, h1, ?_⟩
  have : cs.toList = l.map u8v := h2
  rw [← this, Array.toArray_toList]

end Go.Proofs.YtcjlkjcadaaleaaDoor

/-
  Opening arguments: a box.
-/
namespace Go.Proofs.YtcjlkjcadaaleaaDoor
open Go.ChangeShapes Go.WideShapes Go.ChangeAt Go.RowKit Go.Joins Go.Deep

set_option maxRecDepth 100000 in
theorem open_box {H : Type} {enc : TypeId × Value → H} {v : Value} {d : DataW H} {p : List MemPlace} {W : World} {base : Nat} (hv : Value.okWide Tryd.prog W .any base 27 v)
    (h : DataW.Trod enc Tryd.prog W 0 (fun _ => true) true 27 v d p) : ∃ (n : Int) (c : ByteArray) (t : List UInt8), t.length = 16 ∧ v = .agg (boxV n c t) ∧ -9223372036854775808 ≤ n ∧ n ≤ 9223372036854775807 ∧ c.size ≤ maxLen := by
  obtain ⟨cs, rfl, _⟩ := okWide_struct Tryd.underlying27 hv
  obtain ⟨m, h⟩ := h
  have h' : DataW.trod enc Tryd.prog W 0 (fun _ => true) true m 27 cs.toList = some (d, p) := h
  obtain ⟨xs, n', _, _, hlen, hxl, hf⟩ := DataW.trod_struct Tryd.underlying27 h'
  have k0 : Tryd.prog.cellsOf 3 = 1 := by kernel_rfl
  have k1 : Tryd.prog.cellsOf 9 = 1 := by kernel_rfl
  have k2 : Tryd.prog.cellsOf 23 = 16 := by kernel_rfl
  have k3 : Tryd.prog.cellsOf 27 = 18 := by kernel_rfl
  rw [k3] at hlen
  have g0 := hf 0 _ rfl
  have g1 := hf 1 _ rfl
  have g2 := hf 2 _ rfl
  simp only [List.getElem_toArray, List.getElem_cons_zero, List.getElem_cons_succ] at g0 g1 g2
  rw [k0] at g0
  rw [k1] at g1
  rw [k2] at g2
  match hL : cs.toList, hlen with
  | a :: b :: l, hlen =>
    rw [hL] at g0 g1 g2
    have hl : l.length = 16 := by simpa using hlen
    have hxl3 : xs.length = 3 := hxl
    obtain ⟨y0, y1, y2, rfl⟩ : ∃ y0 y1 y2, xs = [y0, y1, y2] := by
      match xs, hxl3 with
      | [y0, y1, y2], _ => exact ⟨y0, y1, y2, rfl⟩
    have e0 : ((a :: b :: l).drop 0).take 1 = [a] := rfl
    have e1 : ((a :: b :: l).drop 1).take 1 = [b] := rfl
    have e2 : ((a :: b :: l).drop 2).take 16 = l := List.take_of_length_le (by simp [hl])
    rw [e0] at g0
    rw [e1] at g1
    rw [e2] at g2
    obtain ⟨z, hz, _, hw⟩ := DataW.trod_int Tryd.underlying3 g0
    obtain ⟨s, hs, _, hsz⟩ := DataW.trod_string Tryd.underlying9 g1
    obtain ⟨t, ht, htl⟩ := trod_bytesArr Tryd.underlying23 Tryd.underlying5 (by kernel_rfl) (by kernel_rfl) g2
    cases hz
    cases hs
    subst htl
    have hw' := bounds_i64 hw
    refine ⟨z, s, t, ht, ?_, hw'.1, hw'.2, hsz⟩
    unfold boxV
    rw [← hL, Array.toArray_toList]

end Go.Proofs.YtcjlkjcadaaleaaDoor

/-
  Opening arguments: structs part by part.
-/
namespace Go.Proofs.YtcjlkjcadaaleaaDoor
open Go.ChangeShapes Go.WideShapes Go.ChangeAt Go.RowKit Go.Joins Go.Deep

def splitBy : List Nat → List Value → List (List Value)
  | [], _ => []
  | n :: ns, cs => cs.take n :: splitBy ns (cs.drop n)
def offsOf : Nat → List Nat → List (Nat × Nat)
  | _, [] => []
  | o, n :: ns => (o, n) :: offsOf (o + n) ns
theorem splitBy_flatten : ∀ (ns : List Nat) (cs : List Value), cs.length = ns.sum → (splitBy ns cs).flatten = cs
  | [], cs, h => by simpa [splitBy] using (List.eq_nil_of_length_eq_zero (by simpa using h)).symm
  | n :: ns, cs, h => by
    rw [List.sum_cons] at h
    rw [splitBy, List.flatten_cons, splitBy_flatten ns (cs.drop n) (by rw [List.length_drop]; omega), List.take_append_drop]
theorem splitBy_get : ∀ (ns : List Nat) (cs : List Value) (i o n : Nat) (o0 : Nat), (offsOf o0 ns)[i]? = some (o0 + o, n) → (splitBy ns cs).getD i [] = (cs.drop o).take n
  | [], cs, i, o, n, o0, h => by simp [offsOf] at h
  | m :: ns, cs, 0, o, n, o0, h => by
    simp only [offsOf, List.getElem?_cons_zero, Option.some.injEq, Prod.mk.injEq] at h
    obtain ⟨h1, h2⟩ := h
    obtain rfl : o = 0 := by omega
    subst h2
    rfl
  | m :: ns, cs, i + 1, o, n, o0, h => by
    simp only [offsOf, List.getElem?_cons_succ] at h
    have ho : m ≤ o := by
      have : ∀ (ns : List Nat) (a i o n : Nat), (offsOf a ns)[i]? = some (o, n) → a ≤ o := by
        intro ns
        induction ns with
        | nil => intro a i o n h; simp [offsOf] at h
        | cons k ns ih =>
          intro a i o n h
          cases i with
          | zero => simp only [offsOf, List.getElem?_cons_zero, Option.some.injEq, Prod.mk.injEq] at h; omega
          | succ i => simp only [offsOf, List.getElem?_cons_succ] at h; have := ih _ _ _ _ h; omega
      have := this _ _ _ _ _ h
      omega
    have := splitBy_get ns (cs.drop m) i (o - m) n (o0 + m) (by rw [show o0 + m + (o - m) = o0 + o from by omega]; exact h)
    show (splitBy ns (cs.drop m)).getD i [] = _
    rw [this, List.drop_drop, show m + (o - m) = o from by omega]
theorem trod_split {H : Type} {enc : TypeId × Value → H} {P : Program} {w : World} {base : Nat} {spare : Nat → Bool} {held : Bool} {t : TypeId} {fs : Array Field} {ns : List Nat} {fuel : Nat} {cs : List Value} {x : DataW H × List MemPlace} (ht : P.underlying t = some (.struct fs))
    (hfs : fs.toList.map (fun f => (f.offset, P.cellsOf f.type)) = offsOf 0 ns) (hc : P.cellsOf t = ns.sum) (h : DataW.trod enc P w base spare held fuel t cs = some x) :
    (splitBy ns cs).flatten = cs ∧ ∀ i f, fs[i]? = some f → ∃ m y, DataW.trod enc P w base spare held m f.type ((splitBy ns cs).getD i []) = some y := by
  obtain ⟨xs, n', _, _, hlen, hxl, hf⟩ := DataW.trod_struct ht h
  refine ⟨splitBy_flatten ns cs (by rw [hlen, hc]), fun i f hi => ?_⟩
  have h1 := hf i f hi
  have hil : i < xs.length := by
    rw [hxl]
    exact (Array.getElem?_eq_some_iff.1 hi).1
  have h2 : (offsOf 0 ns)[i]? = some (0 + f.offset, P.cellsOf f.type) := by
    rw [← hfs, List.getElem?_map, Array.getElem?_toList, hi, Nat.zero_add]
    rfl
  rw [splitBy_get ns cs i f.offset _ 0 h2]
  exact ⟨n', xs[i], by rw [h1, List.getElem?_eq_getElem hil]⟩
theorem open_parts {H : Type} {enc : TypeId × Value → H} {P : Program} {v : Value} {d : DataW H} {p : List MemPlace} {W : World} {base : Nat} {t : TypeId} {fs : Array Field} {ns : List Nat} (ht : P.underlying t = some (.struct fs))
    (hfs : fs.toList.map (fun f => (f.offset, P.cellsOf f.type)) = offsOf 0 ns) (hc : P.cellsOf t = ns.sum) (hv : Value.okWide P W .any base t v) (h : DataW.Trod enc P W 0 (fun _ => true) true t v d p) :
    ∃ cs : List Value, v = .agg cs.toArray ∧ (splitBy ns cs).flatten = cs ∧ ∀ i f, fs[i]? = some f → ∃ m y, DataW.trod enc P W 0 (fun _ => true) true m f.type ((splitBy ns cs).getD i []) = some y := by
  obtain ⟨cs, rfl, _⟩ := okWide_struct ht hv
  obtain ⟨m, h⟩ := h
  have h' : DataW.trod enc P W 0 (fun _ => true) true m t cs.toList = some (d, p) := h
  have := trod_split ht hfs hc h'
  exact ⟨cs.toList, by rw [Array.toArray_toList], this.1, this.2⟩

end Go.Proofs.YtcjlkjcadaaleaaDoor

/-
  Opening the arguments of the laws of pages.
-/
namespace Go.Proofs.YtcjlkjcadaaleaaDoor.Pv
open Go.ChangeShapes Go.WideShapes Go.ChangeAt Go.RowKit Go.Joins Go.Deep

theorem flat_win {α : Type} (g : α → List Value) (n : Nat) : ∀ (l : List α), (∀ a ∈ l, (g a).length = n) → ∀ (i : Nat) (hi : i < l.length), ((l.flatMap g).drop (i * n)).take n = g l[i]
  | [], _, i, hi => by simp at hi
  | a :: l, h, 0, hi => by
    rw [Nat.zero_mul, List.drop_zero, List.flatMap_cons, List.take_append_of_le_length (by rw [h a List.mem_cons_self]; omega), List.take_of_length_le (by rw [h a List.mem_cons_self]; omega)]
    rfl
  | a :: l, h, i + 1, hi => by
    have hi' : i < l.length := by simpa using hi
    rw [List.flatMap_cons, show (i + 1) * n = (g a).length + i * n by rw [h a List.mem_cons_self, Nat.succ_mul, Nat.add_comm], ← List.drop_drop, List.drop_left, flat_win g n l (fun b hb => h b (List.mem_cons_of_mem _ hb)) i hi']
    rfl
def argC (w : World) : Ctx := { w := w, ok := fun _ => True, env := fun _ => none }
theorem rsl_of {α : Type} {w : World} {v : Value} {n : Nat} {l : List α} {g : α → List Value} {f : Nat → List PC} (hn : 0 < n) (hg : ∀ a ∈ l, (g a).length = n) (hr : Reads w n v l.length (l.flatMap g)) (hc : ∀ (C : Ctx) (i : Nat) (hi : i < l.length), RL C (f i) (g l[i])) : R (argC w) (.sl n l.length f) [v] :=
  .sl hr (fun b hb hlt => ⟨trivial, hr.own_lt hn hlt b hb⟩) (fun i hi => by rw [flat_win g n l hg i hi]; exact hc _ i hi)
def boxCells (b : BoxS) : List Value := [.int .i64 b.nonce] ++ ([.string b.cipher] ++ (b.tag.map u8v ++ []))
section
variable {H : Type} {enc : TypeId × Value → H} {w : World} {base : Nat} {spare : Nat → Bool} {held : Bool}
theorem trod_boxS {fuel : Nat} {cs : List Value} {x : DataW H × List MemPlace} (h : DataW.trod enc Tryd.prog w base spare held fuel 27 cs = some x) : ∃ b : BoxS, cs = boxCells b ∧ (i64P b.nonce ∧ b.tag.length = 16) := by
  obtain ⟨hfl, hf⟩ := trod_split (ns := [1, 1, 16]) Tryd.underlying27 (by kernel_rfl) (by kernel_rfl) h
  obtain ⟨m0, y0, t0⟩ := hf 0 _ rfl
  obtain ⟨m1, y1, t1⟩ := hf 1 _ rfl
  obtain ⟨m2, y2, t2⟩ := hf 2 _ rfl
  have hcs : cs = (splitBy [1, 1, 16] cs).getD 0 [] ++ ((splitBy [1, 1, 16] cs).getD 1 [] ++ ((splitBy [1, 1, 16] cs).getD 2 [] ++ [])) := hfl.symm
  obtain ⟨z, e0, _, hw⟩ := DataW.trod_int Tryd.underlying3 t0
  obtain ⟨s, e1, _, _⟩ := DataW.trod_string Tryd.underlying9 t1
  obtain ⟨l, hl, e2⟩ := trod_bytesArr Tryd.underlying23 Tryd.underlying5 (by kernel_rfl) (by kernel_rfl) t2
  rw [e0, e1, e2] at hcs
  have hb := bounds_i64 hw
  exact ⟨⟨z, s, l⟩, hcs, ⟨hb.1, by have := hb.2; show z < _; omega⟩, hl⟩
theorem trod_boxes {fuel : Nat} {cs : List Value} {x : DataW H × List MemPlace} (h : DataW.trod enc Tryd.prog w base spare held fuel 39 cs = some x) : ∃ (v : Value) (l : List BoxS), cs = [v] ∧ R (argC w) (.sl 18 l.length (boxF l)) [v] ∧ ∀ b ∈ l, i64P b.nonce ∧ b.tag.length = 16 := by
  obtain ⟨v, n, E, m, Y, rfl, hr, hE⟩ := trod_reads (k := 18) Tryd.underlying39 (by kernel_rfl) (by omega) h
  obtain ⟨l, hl, h2, h3⟩ := reads_list (R := fun b : BoxS => i64P b.nonce ∧ b.tag.length = 16) boxCells fun i hi => trod_boxS (hE i hi).2
  refine ⟨v, l, rfl, ?_, h3⟩
  rw [h2, ← hl] at hr
  refine rsl_of (g := boxCells) (by omega) (fun b hb => by simp [boxCells, (h3 b hb).2]) hr (fun C i hi => ?_)
  unfold boxF
  rw [List.getD_eq_getElem?_getD, List.getElem?_eq_getElem hi]
  exact .cons (.lit rfl) (.cons (.lit rfl) (.cons (.bs (h3 _ (List.getElem_mem hi)).2) .nil))
theorem trod_ints {fuel : Nat} {cs : List Value} {x : DataW H × List MemPlace} (h : DataW.trod enc Tryd.prog w base spare held fuel 58 cs = some x) : ∃ (v : Value) (l : List Int), cs = [v] ∧ R (argC w) (.sl 1 l.length (intF l)) [v] ∧ ∀ c ∈ l, i64P c := by
  obtain ⟨v, n, E, m, Y, rfl, hr, hE⟩ := trod_reads (k := 1) Tryd.underlying58 (by kernel_rfl) (by omega) h
  obtain ⟨l, hl, h2, h3⟩ := reads_list (R := i64P) (fun z : Int => [Value.int .i64 z]) fun i hi => by
    obtain ⟨z, e0, _, hw⟩ := DataW.trod_int Tryd.underlying3 (hE i hi).2
    have hb := bounds_i64 hw
    exact ⟨z, e0, hb.1, by have := hb.2; omega⟩
  refine ⟨v, l, rfl, ?_, h3⟩
  rw [h2, ← hl] at hr
  refine rsl_of (g := fun z : Int => [Value.int .i64 z]) (by omega) (fun b hb => rfl) hr (fun C i hi => ?_)
  unfold intF
  rw [List.getD_eq_getElem?_getD, List.getElem?_eq_getElem hi]
  exact .cons (.lit rfl) .nil
theorem trod_strs {fuel : Nat} {cs : List Value} {x : DataW H × List MemPlace} (h : DataW.trod enc Tryd.prog w base spare held fuel 56 cs = some x) : ∃ (v : Value) (l : List ByteArray), cs = [v] ∧ R (argC w) (.sl 1 l.length (strF l)) [v] := by
  obtain ⟨v, n, E, m, Y, rfl, hr, hE⟩ := trod_reads (k := 1) Tryd.underlying56 (by kernel_rfl) (by omega) h
  obtain ⟨l, hl, h2, h3⟩ := reads_list (R := fun _ => True) (fun z : ByteArray => [Value.string z]) fun i hi => by
    obtain ⟨s, e0, _, _⟩ := DataW.trod_string Tryd.underlying9 (hE i hi).2
    exact ⟨s, e0, trivial⟩
  refine ⟨v, l, rfl, ?_⟩
  rw [h2, ← hl] at hr
  refine rsl_of (g := fun z : ByteArray => [Value.string z]) (by omega) (fun b hb => rfl) hr (fun C i hi => ?_)
  unfold strF
  rw [List.getD_eq_getElem?_getD, List.getElem?_eq_getElem hi]
  exact .cons (.lit rfl) .nil
end
section
variable {H : Type} {enc : TypeId × Value → H} {v : Value} {d : DataW H} {p : List MemPlace} {W : World} {base : Nat}
/-- A memory as the arguments hold it. -/
structure MemIn (m : MemS) : Prop where
  box : ∀ b ∈ m.pages, i64P b.nonce ∧ b.tag.length = 16
  cnt : ∀ c ∈ m.counts, i64P c
  tot : i64P m.total
  tagl : m.tag.length = 16
set_option maxRecDepth 100000 in
theorem open_mem (hv : Value.okWide Tryd.prog W .any base 60 v) (h : DataW.Trod enc Tryd.prog W 0 (fun _ => true) true 60 v d p) :
    ∃ m : MemS, MemIn m ∧ RV (argC W) (memPV m) v := by
  obtain ⟨cs, rfl, hfl, hf⟩ := open_parts (ns := [1, 1, 1, 16]) Tryd.underlying60 (by kernel_rfl) (by kernel_rfl) hv h
  obtain ⟨m0, y0, t0⟩ := hf 0 _ rfl
  obtain ⟨m1, y1, t1⟩ := hf 1 _ rfl
  obtain ⟨m2, y2, t2⟩ := hf 2 _ rfl
  obtain ⟨m3, y3, t3⟩ := hf 3 _ rfl
  have hcs : cs = (splitBy [1, 1, 1, 16] cs).getD 0 [] ++ ((splitBy [1, 1, 1, 16] cs).getD 1 [] ++ ((splitBy [1, 1, 1, 16] cs).getD 2 [] ++ ((splitBy [1, 1, 1, 16] cs).getD 3 [] ++ []))) := hfl.symm
  obtain ⟨v0, pages, e0, r0, b0⟩ := trod_boxes t0
  obtain ⟨v1, counts, e1, r1, b1⟩ := trod_ints t1
  obtain ⟨z, e2, _, hw⟩ := DataW.trod_int Tryd.underlying3 t2
  obtain ⟨l, hl, e3⟩ := trod_bytesArr Tryd.underlying23 Tryd.underlying5 (by kernel_rfl) (by kernel_rfl) t3
  rw [e0, e1, e2, e3] at hcs
  have hb := bounds_i64 hw
  refine ⟨⟨pages, counts, z, l⟩, ⟨b0, b1, ⟨hb.1, by have := hb.2; show z < _; omega⟩, hl⟩, ?_⟩
  rw [hcs]
  exact .w (.agg (.cons r0 (.cons r1 (.cons (.lit rfl) (.cons (.bs hl) .nil)))))
set_option maxRecDepth 100000 in
theorem open_strs (hv : Value.okWide Tryd.prog W .any base 56 v) (h : DataW.Trod enc Tryd.prog W 0 (fun _ => true) true 56 v d p) :
    ∃ l : List ByteArray, RV (argC W) (pv1 (.sl 1 l.length (strF l))) v := by
  obtain ⟨A2, len2, cap2, rfl⟩ := okWide_slice Tryd.underlying56 hv
  obtain ⟨m2, h⟩ := h
  obtain ⟨v, l, hl, hp⟩ := trod_strs h
  simp [Value.cells] at hl
  subst hl
  exact ⟨l, .w (.one hp)⟩
/-- What a law's contract says of its call. -/
theorem FunOk.law {P : Program} {I : World → Prop} {f : Nat} {new : Bool} {args : List PV} (h : FunOk P I f new args (pvB true)) {vs : List Value} (hI : I W) (hv : Vals (argC W) args vs) : Calls P f vs.toArray W fun e W' => e = .returned (.bool true) ∧ Ext W W' := by
  refine (h W (fun _ => True) vs hI hv).mono ?_
  rintro e w' ⟨val, rfl, hE, hr⟩
  exact ⟨congrArg Ending.returned hr.lit_inv, hE⟩
theorem rv_digest {C : Ctx} {l : List UInt8} (h : l.length = 16) : RV C (.w (.agg [.bs 16 l])) (.agg (l.map u8v).toArray) := rv_of_dig h
end

end Go.Proofs.YtcjlkjcadaaleaaDoor.Pv

/-
  Package page by the abstract machine: Few, and the law PageAccepted.
-/
namespace Go.Proofs.YtcjlkjcadaaleaaDoor.Pv
open Go.RowKit

def fewS (m : MemS) : Bool := decide (m.pages.length ≤ 20 ∧ m.counts.length ≤ 20) && m.pages.all fun b => decide (b.cipher.size ≤ 200)
def fewSt (m : MemS) (k : Nat) : St := ⟨[(1, none, pv1 (.pt 0 0 0)), (2, none, pvB false), (3, none, pvI k)], [(0, none, 0, .box 60 (memL m))]⟩
set_option maxRecDepth 100000 in
theorem pgFew_fun (m : MemS) : FunOk Tryd.prog ShaMem 41 true [memPV m] (pvB (fewS m)) := by
  have M := pg5M
  refine funOk_of Tryd.func41 rfl rfl sha_ext (fun A hS hn hI => ?_)
  refine tri_reg M hI hn (outs := ?_) (s' := ?_) ?_ ?_ ?_ ?_
  rotate_left 2
  · rfl
  · kernel_rfl
  · simp
  refine tri_seq ?_
  refine tri_reg M hI hn (outs := ?_) (s' := ?_) ?_ ?_ ?_ ?_
  rotate_left 2
  · rfl
  · kernel_rfl
  · simp
  refine tri_cond (b := ?_) ?_ (fun hc => ?_) (fun hc => ?_)
  rotate_left 1
  · rfl
  · refine tri_reg M hI hn (outs := ?_) (s' := ?_) ?_ ?_ ?_ ?_
    rotate_left 2
    · rfl
    · kernel_rfl
    · simp
    refine tri_ret (fun a w hg => ⟨.inr rfl, _, ?_, hg⟩)
    refine retTo_cold (out := ?_) ?_ ?_ ?_ ?_ ?_
    rotate_left 1
    · rfl
    · simp
    · rfl
    · rfl
    have h1 : ¬ (m.pages.length ≤ 20 ∧ m.counts.length ≤ 20) := by
      simp at hc
      omega
    simp [fewS, h1]
  · have h1 : m.pages.length ≤ 20 ∧ m.counts.length ≤ 20 := by
      simp at hc
      omega
    refine tri_skip ?_
    change Tri _ _ _ _ _
    refine tri_seq ?_
    refine tri_reg M hI hn (outs := ?_) (s' := ?_) ?_ ?_ ?_ ?_
    rotate_left 2
    · rfl
    · kernel_rfl
    · simp
    refine tri_conv (s' := fewSt m 0) (fun a w hg => (hg.reset (kT := [1, 2, 3]) (kO := [0]) (by rfl) (by simp)).same ?_ ?_) ?_
    · exact .cons rfl (.cons rfl (.cons rfl .nil))
    · exact .cons (.box rfl) .nil
    refine tri_block ?_
    refine tri_loop m.pages.length (fun k s => s = fewSt m k ∧ ∀ i, i < k → (m.pages.getD i default).cipher.size ≤ 200) 0 ⟨rfl, fun i hi => by omega⟩ (by omega) (fun k s hJ hkl => ?_)
    obtain ⟨rfl, hall⟩ := hJ
    refine tri_seq ?_
    refine tri_reg M hI hn (outs := ?_) (s' := ?_) ?_ ?_ ?_ ?_
    rotate_left 2
    · rfl
    · kernel_rfl
    · simp
    refine tri_cond (b := ?_) ?_ (fun hc => ?_) (fun hc => ?_)
    rotate_left 1
    · rfl
    · have hk2 : k < m.pages.length := by simpa using hc
      refine tri_skip ?_
      change Tri _ _ _ _ _
      refine tri_seq ?_
      refine tri_block ?_
      refine tri_reg M hI hn (outs := ?_) (s' := ?_) ?_ ?_ ?_ ?_
      rotate_left 2
      · rfl
      · kernel_rfl
      · simp
        exact hk2
      refine tri_cond (b := ?_) ?_ (fun hc => ?_) (fun hc => ?_)
      rotate_left 1
      · rfl
      · refine tri_reg M hI hn (outs := ?_) (s' := ?_) ?_ ?_ ?_ ?_
        rotate_left 2
        · rfl
        · kernel_rfl
        · simp
        refine tri_ret (fun a w hg => ⟨.inr rfl, _, ?_, hg⟩)
        refine retTo_cold (out := ?_) ?_ ?_ ?_ ?_ ?_
        rotate_left 1
        · rfl
        · simp
        · rfl
        · rfl
        have h2 : ¬ (m.pages.getD k default).cipher.size ≤ 200 := by
          simp at hc
          simp only [List.getD_eq_getElem?_getD]
          omega
        have h3 : (m.pages.all fun b => decide (b.cipher.size ≤ 200)) = false := by
          rw [← Bool.not_eq_true]
          intro h
          exact h2 (of_decide_eq_true (List.all_eq_true.1 h _ (getD_mem hk2 default)))
        simp only [fewS, h3, Bool.and_false]
      · have h2 : (m.pages.getD k default).cipher.size ≤ 200 := by
          simp at hc
          simp only [List.getD_eq_getElem?_getD]
          omega
        refine tri_skip ?_
        change Tri _ _ _ _ _
        refine tri_region M hI hn (outs := ?_) (s' := ?_) ?_ ?_ ?_ ?_
        rotate_left 2
        · rfl
        · kernel_rfl
        · simp
        intro a w hg
        refine ⟨k + 1, _, by omega, by omega, ⟨rfl, fun i hi => ?_⟩, (hg.reset (kT := [1, 2, 3]) (kO := [0]) (by rfl) (by simp)).same ?_ ?_⟩
        · rcases Nat.lt_or_ge i k with h | h
          · exact hall i h
          · obtain rfl : i = k := by omega
            exact h2
        · exact .cons rfl (.cons rfl (.cons (by rw [wrap_nat k (by omega)]) .nil))
        · exact .cons (.box rfl) .nil
    · refine tri_exit ?_
      change Tri _ _ _ _ _
      have hk3 : k = m.pages.length := by
        have : ¬ k < m.pages.length := by simpa using hc
        omega
      subst hk3
      refine tri_reg M hI hn (outs := ?_) (s' := ?_) ?_ ?_ ?_ ?_
      rotate_left 2
      · rfl
      · kernel_rfl
      · simp
      refine tri_ret (fun a w hg => ⟨.inr rfl, _, ?_, hg⟩)
      refine retTo_cold (out := ?_) ?_ ?_ ?_ ?_ ?_
      rotate_left 1
      · rfl
      · simp
      · rfl
      · rfl
      have h3 : (m.pages.all fun b => decide (b.cipher.size ≤ 200)) = true := List.all_eq_true.2 fun b hb => by
        obtain ⟨i, hi, rfl⟩ := List.getElem_of_mem hb
        have := hall i hi
        rw [List.getD_eq_getElem?_getD, List.getElem?_eq_getElem hi] at this
        exact decide_eq_true this
      simp [fewS, h1, h3]
def spSanity : Spec := funSpec true fun xs => match xs with
  | [] => some (True, pvB true)
  | _ => none
theorem pgSanity_ok : SpecOk Tryd.prog ShaMem 34 spSanity := by
  refine funSpec_ok (call_enters Tryd.func34 (by kernel_rfl) rfl) (fun xs p r hg hp => ?_)
  split at hg
  · cases hg
    exact pgSanity_fun
  · cases hg
def pgL6 : List (Nat × Spec) := (34, spSanity) :: (41, memSpec (fun _ => True) fun m => pvB (fewS m)) :: pgL5
theorem pg6_ok : ∀ p ∈ pgL6, SpecOk Tryd.prog ShaMem p.1 p.2 := by
  intro p hp
  unfold pgL6 at hp
  rcases List.mem_cons.1 hp with rfl | hp
  · exact pgSanity_ok
  rcases List.mem_cons.1 hp with rfl | hp
  · exact memSpec_ok (call_enters Tryd.func41 (by kernel_rfl) rfl) (fun m _ => pgFew_fun m)
  · exact pg5_ok p hp
theorem pg6M : Mach Tryd.prog ShaMem (find pgL6) := ⟨specs_of pg6_ok, mixed_⟩
theorem MemIn.ok {m : MemS} (h : MemIn m) (hf : fewS m = true) : MemOk m := by
  unfold fewS at hf
  rw [Bool.and_eq_true, decide_eq_true_eq] at hf
  refine ⟨fun b hb => ⟨(h.box b hb).1, ?_, (h.box b hb).2⟩, h.cnt, h.tot, h.tagl, by omega⟩
  have := of_decide_eq_true (List.all_eq_true.1 hf.2 b hb)
  omega
def accS (key root : List UInt8) (m : MemS) (i : Int) : Bool := bif bif bif bif bif ((m.pages.length : Int) == (m.counts.length : Int)) then decide ((m.pages.length : Int) ≤ 16) else false then memRootS m == root else false then m.tag == memTagS key (memRootS m) else false then decide (i ≥ 0) else false then decide (i < (m.pages.length : Int)) else false
theorem accS_iff (key root : List UInt8) (m : MemS) (i : Int) : accS key root m i = true ↔ verE key root m = 0 ∧ inS m i = true := by
  unfold accS verE tagOkS inS
  rw [← formed_eq]
  cases formedS m <;> cases (memRootS m == root) <;> cases (m.tag == memTagS key (memRootS m)) <;> simp
theorem loadE_zero {key root : List UInt8} {m : MemS} {i : Int} (h : loadE key root m i = 0) : verE key root m = 0 ∧ inS m i = true := by
  unfold loadE at h
  cases hv : (verE key root m == 0) with
  | false =>
    rw [hv, cond_false] at h
    rw [h] at hv
    exact absurd hv (by decide)
  | true =>
    rw [hv, cond_true] at h
    refine ⟨by simpa using hv, ?_⟩
    cases hi : inS m i with
    | true => rfl
    | false => rw [hi, cond_false] at h; exact absurd h (by decide)
theorem loadE_in {key root : List UInt8} {m : MemS} {i : Int} (h : verE key root m = 0 ∧ inS m i = true) : loadE key root m i = bif opS key m i then 0 else 8 := by
  unfold loadE
  rw [h.1, h.2]; rfl
set_option maxRecDepth 100000 in
theorem pgAccepted_fun (key root : List UInt8) (m : MemS) (i : Int) (hk : key.length = 16) (_ : root.length = 16) (hm : MemIn m) (hi : i64P i) : FunOk Tryd.prog ShaMem 13 true [.w (.agg [.bs 16 key]), .w (.agg [.bs 16 root]), memPV m, pvI i] (pvB true) := by
  have M := pg6M
  refine funOk_of Tryd.func13 rfl rfl sha_ext (fun A hS hn hI => ?_)
  refine tri_reg M hI hn (outs := ?_) (s' := ?_) ?_ ?_ ?_ ?_
  rotate_left 2
  · rfl
  · kernel_rfl
  · simp
  refine tri_reg M hI hn (outs := ?_) (s' := ?_) ?_ ?_ ?_ ?_
  rotate_left 2
  · rfl
  · kernel_rfl
  · simp
  refine tri_seq ?_
  refine tri_reg M hI hn (outs := ?_) (s' := ?_) ?_ ?_ ?_ ?_
  rotate_left 2
  · rfl
  · kernel_rfl
  · simp
  refine tri_cond (b := ?_) ?_ (fun hc => ?_) (fun hc => ?_)
  rotate_left 1
  · rfl
  · refine tri_reg M hI hn (outs := ?_) (s' := ?_) ?_ ?_ ?_ ?_
    rotate_left 2
    · rfl
    · kernel_rfl
    · simp
    refine tri_ret (fun a w hg => ⟨.inr rfl, _, ?_, hg⟩)
    refine retTo_cold (out := ?_) ?_ ?_ ?_ ?_ ?_
    rotate_left 1
    · rfl
    · simp
    · rfl
    · rfl
    rfl
  · have hf : fewS m = true := by simpa using hc
    have ho := hm.ok hf
    refine tri_skip ?_
    change Tri _ _ _ _ _
    refine tri_reg M hI hn (outs := ?_) (s' := ?_) ?_ ?_ ?_ ?_
    rotate_left 2
    · rfl
    · kernel_rfl
    · simp [ho, hi]
    refine tri_reg M hI hn (outs := ?_) (s' := ?_) ?_ ?_ ?_ ?_
    rotate_left 2
    · rfl
    · kernel_rfl
    · simp [hk]
      decide
    refine tri_reg M hI hn (outs := ?_) (s' := ?_) ?_ ?_ ?_ ?_
    rotate_left 2
    · rfl
    · kernel_rfl
    · simp [ho]
    refine tri_reg M hI hn (outs := ?_) (s' := ?_) ?_ ?_ ?_ ?_
    rotate_left 2
    · rfl
    · kernel_rfl
    · simp
      intro _ _ _
      have h1 := memRootS_length m
      have h2 := deriveS_length key labMem.data.toList []
      exact ⟨by rw [show (deriveS key [109, 101, 109, 111, 114, 121] []) = deriveS key labMem.data.toList [] from rfl, h2]; omega, by rw [show (memRootS { pages := m.pages, counts := m.counts, total := m.total, tag := m.tag }) = memRootS m from rfl, h1]; omega⟩
    refine tri_seq ?_
    refine tri_reg M hI hn (outs := ?_) (s' := ?_) ?_ ?_ ?_ ?_
    rotate_left 2
    · rfl
    · kernel_rfl
    · simp
    refine tri_cond (b := ?_) ?_ (fun hc => ?_) (fun hc => ?_)
    rotate_left 1
    · rfl
    · simp only [rowBox_boxF, rowInt_intF] at hc
      have hc2 : accS key root m i = true := hc
      rw [accS_iff] at hc2
      have h4 : 0 ≤ i ∧ i < (m.pages.length : Int) := by
        have := hc2.2
        unfold inS at this
        simpa using this
      have h5 : i.toNat < m.pages.length := by omega
      have hb := ho.box _ (getD_mem h5 default)
      simp only [List.getD_eq_getElem?_getD] at hb
      have hl := wInt_length i
      refine tri_reg M hI hn (outs := ?_) (s' := ?_) ?_ ?_ ?_ ?_
      rotate_left 2
      · rfl
      · kernel_rfl
      · simp
        exact ⟨hi, ⟨by omega, by decide, by omega⟩, h4, hb.1, by omega⟩
      refine tri_region M hI hn (outs := ?_) (s' := ?_) ?_ ?_ ?_ ?_
      rotate_left 2
      · rfl
      · kernel_rfl
      · simp
      change Tri _ _ _ _ _
      refine tri_reg M hI hn (outs := ?_) (s' := ?_) ?_ ?_ ?_ ?_
      rotate_left 2
      · rfl
      · kernel_rfl
      · simp
      refine tri_ret (fun a w hg => ⟨.inr rfl, _, ?_, hg⟩)
      refine retTo_cold (out := ?_) ?_ ?_ ?_ ?_ ?_
      rotate_left 1
      · rfl
      · simp
      · rfl
      · rfl
      simp only [rowBox_boxF, rowInt_intF]
      have e1 : opened (deriveS key labPage.data.toList ([] ++ [rowB (wInt i).length (byF (wInt i))])) (m.pages.getD i.toNat default).nonce (m.pages.getD i.toNat default).cipher (m.pages.getD i.toNat default).tag = opS key m i := by
        rw [rowB_byF]; rfl
      change pvB (bif true then (loadE key root m i == 0) == ((bif opened (deriveS key labPage.data.toList ([] ++ [rowB (wInt i).length (byF (wInt i))])) (m.pages.getD i.toNat default).nonce (m.pages.getD i.toNat default).cipher (m.pages.getD i.toNat default).tag then (0 : Int) else 8) == 0) else false) = pvB true
      rw [e1, loadE_in hc2]
      simp
    · simp only [rowBox_boxF, rowInt_intF] at hc
      have hc2 : accS key root m i = false := hc
      refine tri_skip ?_
      change Tri _ _ _ _ _
      refine tri_reg M hI hn (outs := ?_) (s' := ?_) ?_ ?_ ?_ ?_
      rotate_left 2
      · rfl
      · kernel_rfl
      · simp
      refine tri_ret (fun a w hg => ⟨.inr rfl, _, ?_, hg⟩)
      refine retTo_cold (out := ?_) ?_ ?_ ?_ ?_ ?_
      rotate_left 1
      · rfl
      · simp
      · rfl
      · rfl
      simp only [rowBox_boxF, rowInt_intF]
      have h1 : (loadE key root m i == 0) = false := by
        rw [beq_eq_false_iff_ne]
        intro h
        have := (accS_iff key root m i).2 (loadE_zero h)
        rw [hc2] at this
        cases this
      change pvB (bif true then (loadE key root m i == 0) == accS key root m i else false) = pvB true
      rw [h1, hc2]
      rfl

end Go.Proofs.YtcjlkjcadaaleaaDoor.Pv

/-
  Package page by the abstract machine: the reference's leaves and roots.
-/
namespace Go.Proofs.YtcjlkjcadaaleaaDoor.Pv
open Go.RowKit

set_option maxRecDepth 100000 in
theorem rleaf_fun (m : MemS) (k : Nat) (hm : MemOk m) (h1 : k < m.pages.length) (h2 : k < m.counts.length) : FunOk Tryd.prog ShaMem 93 true [memPV m, pvI k] (.w (.agg [.bs 16 (leafS m k)])) := by
  have M := pg6M
  have hb := hm.box _ (getD_mem h1 default)
  have hct := hm.cnt _ (getD_mem h2 0)
  have hl1 := wInt_length (k : Int)
  have hl2 := wInt_length (m.counts.getD k 0)
  have hl3 := wInt_length (m.pages.getD k default).nonce
  have hl4 := wBytes_length (m.pages.getD k default).cipher.data.toList
  have hl5 : (m.pages.getD k default).cipher.data.toList.length = (m.pages.getD k default).cipher.size := Array.length_toList
  have hle := hm.len
  simp only [List.getD_eq_getElem?_getD] at hb hct hl2 hl3 hl4 hl5
  refine funOk_of Tryd.func93 rfl rfl sha_ext (fun A hS hn hI => ?_)
  refine tri_reg M hI hn (outs := ?_) (s' := ?_) ?_ ?_ ?_ ?_
  rotate_left 2
  · rfl
  · kernel_rfl
  · simp
  refine tri_reg M hI hn (outs := ?_) (s' := ?_) ?_ ?_ ?_ ?_
  rotate_left 2
  · rfl
  · kernel_rfl
  · simp; omega
  refine tri_reg M hI hn (outs := ?_) (s' := ?_) ?_ ?_ ?_ ?_
  rotate_left 2
  · rfl
  · kernel_rfl
  · simp [hct, hb]
    refine ⟨by unfold i64P; omega, ?_, ?_, ?_⟩ <;> omega
  refine tri_ret (fun a w hg => ⟨.inr rfl, _, ?_, hg⟩)
  refine retTo_cold (out := ?_) ?_ ?_ ?_ ?_ ?_
  rotate_left 1
  · rfl
  · simp
  · rfl
  · rfl
  simp [leafS, rowB_byF]
def spLeaf : Spec := funSpec true fun xs => match xs with
  | [v, .w (.one (.lit (.int .i64 i)))] => (match asMem v with
    | some (p, m) => some (p ∧ MemOk m ∧ 0 ≤ i ∧ i.toNat < m.pages.length ∧ i.toNat < m.counts.length, .w (.agg [.bs 16 (leafS m i.toNat)]))
    | none => none)
  | _ => none
theorem rleaf_ok : SpecOk Tryd.prog ShaMem 93 spLeaf := by
  refine funSpec_ok (call_enters Tryd.func93 (by kernel_rfl) rfl) (fun xs p r hg hp => ?_)
  split at hg
  · rename_i v i
    cases hq : asMem v with
    | none => rw [hq] at hg; cases hg
    | some x =>
      obtain ⟨p0, m⟩ := x
      rw [hq] at hg
      cases hg
      have h1 := rleaf_fun m i.toNat hp.2.1 hp.2.2.2.1 hp.2.2.2.2
      rw [Int.toNat_of_nonneg hp.2.2.1] at h1
      exact h1.args fun C vs hv => by
        match vs, hv with
        | [_, _], ⟨h3, h4, _⟩ => exact ⟨asMem_ok hq hp.1 h3, h4, trivial⟩
  · cases hg
def pgL7 : List (Nat × Spec) := (93, spLeaf) :: pgL6
theorem pg7_ok : ∀ p ∈ pgL7, SpecOk Tryd.prog ShaMem p.1 p.2 := by
  intro p hp
  rcases List.mem_cons.1 hp with rfl | hp
  · exact rleaf_ok
  · exact pg6_ok p hp
theorem pg7M : Mach Tryd.prog ShaMem (find pgL7) := ⟨specs_of pg7_ok, mixed_⟩
def rrootSt (m : MemS) (k : Nat) : St := ⟨[(1, none, pv1 (.pt 0 0 0)), (2, none, pv1 (.pt 1 0 0)), (4, none, pv1 (.ow 8005 0 16 0 k)), (5, none, pvI k)],
  [(0, none, 0, .box 60 (memL m)), (1, none, 0, .box 23 [.bs 16 (List.replicate 16 0)]), (8005, none, 0, .arr 23 16 k (leafF m))]⟩
set_option maxRecDepth 100000 in
theorem rroot_fun (m : MemS) (hm : MemOk m) : FunOk Tryd.prog ShaMem 69 true [memPV m] (.w (.agg [.bs 16 (memRootS m)])) := by
  have M := pg7M
  refine funOk_of Tryd.func69 rfl rfl sha_ext (fun A hS hn hI => ?_)
  refine tri_reg M hI hn (outs := ?_) (s' := ?_) ?_ ?_ ?_ ?_
  rotate_left 2
  · rfl
  · kernel_rfl
  · simp
  refine tri_reg M hI hn (outs := ?_) (s' := ?_) ?_ ?_ ?_ ?_
  rotate_left 2
  · rfl
  · kernel_rfl
  · simp
  refine tri_seq ?_
  refine tri_reg M hI hn (outs := ?_) (s' := ?_) ?_ ?_ ?_ ?_
  rotate_left 2
  · rfl
  · kernel_rfl
  · simp
  refine tri_cond (b := ?_) ?_ (fun hc => ?_) (fun hc => ?_)
  rotate_left 1
  · rfl
  · refine tri_reg M hI hn (outs := ?_) (s' := ?_) ?_ ?_ ?_ ?_
    rotate_left 2
    · rfl
    · kernel_rfl
    · simp
    refine tri_ret (fun a w hg => ⟨.inr rfl, _, ?_, hg⟩)
    refine retTo_cold (out := ?_) ?_ ?_ ?_ ?_ ?_
    rotate_left 1
    · rfl
    · simp
    · rfl
    · rfl
    have hf : formedS m = false := by simpa using hc
    simp [memRootS, hf]
  · have hf : formedS m = true := by simpa using hc
    have hlen : m.pages.length = m.counts.length ∧ m.pages.length ≤ 16 := by
      unfold formedS at hf
      rw [Bool.and_eq_true, beq_iff_eq, decide_eq_true_eq] at hf
      exact hf
    refine tri_skip ?_
    change Tri _ _ _ _ _
    refine tri_reg M hI hn (outs := ?_) (s' := ?_) ?_ ?_ ?_ ?_
    rotate_left 2
    · rfl
    · kernel_rfl
    · simp
    refine tri_seq ?_
    refine tri_reg M hI hn (outs := ?_) (s' := ?_) ?_ ?_ ?_ ?_
    rotate_left 2
    · rfl
    · kernel_rfl
    · simp
    refine tri_conv (s' := rrootSt m 0) (fun a w hg => ((hg.nilRow (x := 8005) (e := 23) (n := 16) (t := 4) (by rfl) (by rfl)).reset (kT := [1, 2, 4, 5]) (kO := [0, 1, 8005]) (by rfl) (by simp)).same ?_ ?_) ?_
    · exact .cons rfl (.cons rfl (.cons rfl (.cons rfl .nil)))
    · exact .cons (.box rfl) (.cons (.box rfl) (.cons (.arr rfl (fun i hi => by omega)) .nil))
    refine tri_block ?_
    refine tri_loop m.pages.length (fun k s => s = rrootSt m k) 0 rfl (by omega) (fun k s hJ hk => ?_)
    subst hJ
    refine tri_seq ?_
    refine tri_reg M hI hn (outs := ?_) (s' := ?_) ?_ ?_ ?_ ?_
    rotate_left 2
    · rfl
    · kernel_rfl
    · simp
    refine tri_cond (b := ?_) ?_ (fun hc => ?_) (fun hc => ?_)
    rotate_left 1
    · rfl
    · have hk2 : k < m.pages.length := by simpa using hc
      have hbt : Tryd.prog.types[23].bytes = 16 := by kernel_rfl
      refine tri_skip ?_
      change Tri _ _ _ _ _
      refine tri_seq ?_
      refine tri_block ?_
      refine tri_region M hI hn (outs := ?_) (s' := ?_) ?_ ?_ ?_ ?_
      rotate_left 2
      · rfl
      · kernel_rfl
      · simp only [All, hP, List.map_cons, List.map_nil, List.flatten_cons, List.flatten_nil, List.append_nil, List.nil_append, List.cons_append, rowBox_boxF, rowInt_intF, and_true]
        exact ⟨⟨⟨isBoxRow_boxF _ _, isIntRow_intF _ _⟩, hm, by omega, hk2, show k < m.counts.length by omega⟩, trivial, by omega, by rw [hbt]; omega⟩
      change Tri _ _ _ _ _
      refine tri_region M hI hn (outs := ?_) (s' := ?_) ?_ ?_ ?_ ?_
      rotate_left 2
      · rfl
      · kernel_rfl
      · simp
      intro a w hg
      refine ⟨k + 1, _, by omega, by omega, rfl, (hg.reset (kT := [1, 2, 4, 5]) (kO := [0, 1, 8005]) (by rfl) (by simp only [All, and_true, List.append_nil, List.all_eq_true, List.nil_append]; exact appF_cold (fun i hi => one_cold rfl) (one_cold rfl))).same ?_ ?_⟩
      · exact .cons rfl (.cons rfl (.cons rfl (.cons (by rw [wrap_nat k (by omega)]) .nil)))
      · refine .cons (.box rfl) (.cons (.box rfl) (.cons (.arr rfl (appF_ext (fun i _ => rfl) ?_)) .nil))
        simp [leafF, PW.cells]
    · refine tri_exit ?_
      change Tri _ _ _ _ _
      have hk3 : k = m.pages.length := by
        have : ¬ k < m.pages.length := by simpa using hc
        omega
      have hl6 := wInt_length m.total
      have hl7 := rootS_length (rowD k (leafF m))
      have hl8 := rowD_length k (leafF m)
      have hl9 := hm.tot
      refine tri_reg M hI hn (outs := ?_) (s' := ?_) ?_ ?_ ?_ ?_
      rotate_left 2
      · rfl
      · kernel_rfl
      · simp
        exact ⟨fun _ _ => rfl, by omega⟩
      refine tri_reg M hI hn (outs := ?_) (s' := ?_) ?_ ?_ ?_ ?_
      rotate_left 2
      · rfl
      · kernel_rfl
      · simp
        exact ⟨hl9, by omega, by omega⟩
      refine tri_ret (fun a w hg => ⟨.inr rfl, _, ?_, hg⟩)
      refine retTo_cold (out := ?_) ?_ ?_ ?_ ?_ ?_
      rotate_left 1
      · rfl
      · simp
      · rfl
      · rfl
      simp [memRootS, hf, rowD_leaf, rowB_byF, hk3]

end Go.Proofs.YtcjlkjcadaaleaaDoor.Pv

/-
  Package page by the abstract machine: the reference's New.
-/
namespace Go.Proofs.YtcjlkjcadaaleaaDoor.Pv
open Go.RowKit

def pgL8 : List (Nat × Spec) := (69, memSpec MemOk fun m => .w (.agg [.bs 16 (memRootS m)])) :: pgL7
theorem pg8_ok : ∀ p ∈ pgL8, SpecOk Tryd.prog ShaMem p.1 p.2 := by
  intro p hp
  rcases List.mem_cons.1 hp with rfl | hp
  · exact memSpec_ok (call_enters Tryd.func69 (by kernel_rfl) rfl) rroot_fun
  · exact pg7_ok p hp
theorem pg8M : Mach Tryd.prog ShaMem (find pgL8) := ⟨specs_of pg8_ok, mixed_⟩
def zeroF : Nat → List PC := fun _ => [.lit (.int .i64 0)]
def rnewSt (key : List UInt8) (l : List ByteArray) (k : Nat) : St := ⟨[(1, none, pv1 (.sl 1 l.length (strF l))), (2, none, pv1 (.pt 0 0 0)), (4, none, pv1 (.pt 1 0 0)), (5, none, pv1 (.pt 2 0 0)), (7, none, pv1 (.pt 3001 0 0)), (8, none, pvI k)],
  [(0, none, 0, .box 23 [.bs 16 key]), (1, none, 0, .box 60 [.lit (.slice none 0 0), .lit (.slice none 0 0), .lit (.int .i64 0), .bs 16 (List.replicate 16 0)]), (2, none, 0, .box 23 [.bs 16 (List.replicate 16 0)]),
   (3001, none, 0, .box 60 [.ow 7011 0 18 0 k, .ow 8003 0 1 0 k, .lit (.int .i64 0), .bs 16 (List.replicate 16 0)]), (7011, none, 0, .arr 27 18 k (sealF key l)), (8003, none, 0, .arr 3 1 k zeroF)]⟩
theorem rowInt_zeroF (n : Nat) : rowInt n (fun i => zeroF i) = List.replicate n 0 := by
  have h : ∀ (l : List Nat), l.map (fun _ : Nat => (0 : Int)) = List.replicate l.length 0 := fun l => by
    induction l with
    | nil => rfl
    | cons a l ih => rw [List.map_cons, ih]; rfl
  have := h (List.range n)
  rw [List.length_range] at this
  exact this
theorem intF_zeros (n j : Nat) : zeroF j = intF (List.replicate n 0) j := by
  unfold intF zeroF
  rw [List.getD_eq_getElem?_getD, List.getElem?_replicate]
  split <;> rfl
set_option maxRecDepth 100000 in
theorem rNew_fun (key : List UInt8) (l : List ByteArray) (_ : key.length = 16) (hl : ∀ c ∈ l, c.size ≤ 5000) : FunOk Tryd.prog ShaMem 37 true [.w (.agg [.bs 16 key]), pv1 (.sl 1 l.length (strF l))] (newPV key l) := by
  have M := pg8M
  have hbt : Tryd.prog.types[27].bytes = 40 := by kernel_rfl
  have hbi : Tryd.prog.types[3].bytes = 8 := by kernel_rfl
  refine funOk_of Tryd.func37 rfl rfl sha_ext (fun A hS hn hI => ?_)
  refine tri_reg M hI hn (outs := ?_) (s' := ?_) ?_ ?_ ?_ ?_
  rotate_left 2
  · rfl
  · kernel_rfl
  · simp
  refine tri_seq ?_
  refine tri_reg M hI hn (outs := ?_) (s' := ?_) ?_ ?_ ?_ ?_
  rotate_left 2
  · rfl
  · kernel_rfl
  · simp
  refine tri_cond (b := ?_) ?_ (fun hc => ?_) (fun hc => ?_)
  rotate_left 1
  · rfl
  · refine tri_reg M hI hn (outs := ?_) (s' := ?_) ?_ ?_ ?_ ?_
    rotate_left 2
    · rfl
    · kernel_rfl
    · simp
    have h1 : ¬ l.length ≤ 16 := by
      have : (16 : Int) < (l.length : Int) := by simpa using hc
      omega
    refine tri_ret (fun a w hg => ⟨.inr rfl, _, ?_, hg⟩)
    refine retTo_ex (out := ?_) ?_ ?_ ?_ ?_
    rotate_left 1
    · rfl
    · simp
    · rfl
    · have e : newPV key l = .tup [.agg [.sl 18 0 (boxF []), .sl 1 0 (intF []), .lit (.int .i64 0), .bs 16 (List.replicate 16 0)], .agg [.bs 16 (List.replicate 16 0)], .one (.lit (.int .i64 2))] := by
        simp [newPV, newM, newR, newE, memL, h1]
      rw [e]
      exact .tup (.cons (.agg (.cons .nil (.cons .nil (.cons (.cold rfl) (.cons (.cold rfl) .nil))))) (.cons (.agg (.cons (.cold rfl) .nil)) (.cons (.one (.cold rfl)) .nil)))
  · have h1 : l.length ≤ 16 := by
      have : ¬ (16 : Int) < (l.length : Int) := by simpa using hc
      omega
    refine tri_skip ?_
    change Tri _ _ _ _ _
    refine tri_reg M hI hn (outs := ?_) (s' := ?_) ?_ ?_ ?_ ?_
    rotate_left 2
    · rfl
    · kernel_rfl
    · simp
    refine tri_seq ?_
    refine tri_reg M hI hn (outs := ?_) (s' := ?_) ?_ ?_ ?_ ?_
    rotate_left 2
    · rfl
    · kernel_rfl
    · simp
    refine tri_conv (s' := rnewSt key l 0) (fun a w hg => (((hg.nilRowB (x := 7011) (b := 3001) (e := 27) (n := 18) (l1 := []) (by rfl) (by rfl)).nilRowB (x := 8003) (b := 3001) (e := 3) (n := 1) (l1 := [.ow 7011 0 18 0 0]) (by rfl) (by rfl)).reset (kT := [1, 2, 4, 5, 7, 8]) (kO := [0, 1, 2, 3001, 7011, 8003]) (by rfl) (by simp)).same ?_ ?_) ?_
    · exact .cons rfl (.cons rfl (.cons rfl (.cons rfl (.cons rfl (.cons rfl .nil)))))
    · exact .cons (.box rfl) (.cons (.box rfl) (.cons (.box rfl) (.cons (.box rfl) (.cons (.arr rfl (fun i hi => by omega)) (.cons (.arr rfl (fun i hi => by omega)) .nil)))))
    refine tri_block ?_
    refine tri_loop l.length (fun k s => s = rnewSt key l k) 0 rfl (by omega) (fun k s hJ hkl => ?_)
    subst hJ
    refine tri_seq ?_
    refine tri_reg M hI hn (outs := ?_) (s' := ?_) ?_ ?_ ?_ ?_
    rotate_left 2
    · rfl
    · kernel_rfl
    · simp
    refine tri_cond (b := ?_) ?_ (fun hc => ?_) (fun hc => ?_)
    rotate_left 1
    · rfl
    · have hk2 : k < l.length := by simpa using hc
      refine tri_skip ?_
      change Tri _ _ _ _ _
      refine tri_seq ?_
      refine tri_block ?_
      refine tri_reg M hI hn (outs := ?_) (s' := ?_) ?_ ?_ ?_ ?_
      rotate_left 2
      · rfl
      · kernel_rfl
      · simp [hbt]
        have := hl _ (getD_mem hk2 { data := #[] })
        rw [List.getD_eq_getElem?_getD] at this
        exact ⟨by unfold i64P; omega, hk2, ⟨i64P_zero, by omega⟩, by omega⟩
      refine tri_region M hI hn (outs := ?_) (s' := ?_) ?_ ?_ ?_ ?_
      rotate_left 2
      · rfl
      · kernel_rfl
      · simp [hbi]
        omega
      change Tri _ _ _ _ _
      refine tri_region M hI hn (outs := ?_) (s' := ?_) ?_ ?_ ?_ ?_
      rotate_left 2
      · rfl
      · kernel_rfl
      · simp
      intro a w hg
      refine ⟨k + 1, _, by omega, by omega, rfl, (hg.reset (kT := [1, 2, 4, 5, 7, 8]) (kO := [0, 1, 2, 3001, 7011, 8003]) (by rfl) ?_).same ?_ ?_⟩
      · simp
        exact ⟨appF_cold (fun j _ => all_cold (show (sealF _ _ j).all (coldPC false) = true from rfl)) (all_cold rfl), appF_cold (fun j _ => all_cold (show (zeroF j).all (coldPC false) = true from rfl)) (all_cold rfl)⟩
      · exact .cons rfl (.cons rfl (.cons rfl (.cons rfl (.cons rfl (.cons (by rw [wrap_nat k (by omega)]) .nil)))))
      · exact .cons (.box rfl) (.cons (.box rfl) (.cons (.box rfl) (.cons (.box rfl) (.cons (.arr rfl (appF_ext (fun i _ => rfl) rfl)) (.cons (.arr rfl (appF_ext (fun i _ => rfl) rfl)) .nil)))))
    · refine tri_exit ?_
      change Tri _ _ _ _ _
      have hk3 : k = l.length := by
        have : ¬ k < l.length := by simpa using hc
        omega
      subst hk3
      refine tri_reg M hI hn (outs := ?_) (s' := ?_) ?_ ?_ ?_ ?_
      rotate_left 2
      · rfl
      · kernel_rfl
      · simp
        refine ⟨fun j _ => all_cold (show (sealF _ _ j).all (coldPC false) = true from rfl), fun j _ => all_cold (show (zeroF j).all (coldPC false) = true from rfl), ⟨fun _ _ => rfl, fun _ _ => rfl⟩, ?_⟩
        have h3 := newU_ok key l (List.replicate 16 0) h1 hl rfl
        have h4 : rowBox l.length (fun i => sealF key l i) = newPages key l l.length := rfl
        rw [h4, rowInt_zeroF]
        exact h3
      refine tri_reg M hI hn (outs := ?_) (s' := ?_) ?_ ?_ ?_ ?_
      rotate_left 2
      · rfl
      · kernel_rfl
      · simp
      refine tri_reg M hI hn (outs := ?_) (s' := ?_) ?_ ?_ ?_ ?_
      rotate_left 2
      · rfl
      · kernel_rfl
      · simp
      refine tri_ret (fun a w hg => ⟨.inr rfl, _, ?_, hg⟩)
      refine retTo_ex (out := ?_) ?_ ?_ ?_ ?_
      rotate_left 1
      · rfl
      · simp
      · rfl
      · have e : newPV key l = .tup [.agg [.sl 18 l.length (boxF (newPages key l l.length)), .sl 1 l.length (intF (List.replicate l.length 0)), .lit (.int .i64 0), .bs 16 (memTagS key (memRootS (newU key l)))], .agg [.bs 16 (memRootS (newU key l))], .one (.lit (.int .i64 0))] := by
          simp [newPV, newM, newR, newE, memL, h1, newU, newPages]
        rw [e]
        have h4 : rowBox l.length (fun i => sealF key l i) = newPages key l l.length := rfl
        simp only [Nat.zero_add, h4, rowInt_zeroF]
        exact .tup (.cons (.agg (.cons (.row rfl trivial (by omega) (fun j hj => by rw [Nat.zero_add]; exact (boxF_new key l hj).symm) (fun j hj => rfl)) (.cons (.row rfl trivial (by omega) (fun j hj => by rw [Nat.zero_add]; exact intF_zeros _ _) (fun j hj => rfl)) (.cons (.cold rfl) (.cons (.cold rfl) .nil))))) (.cons (.agg (.cons (.cold rfl) .nil)) (.cons (.one (.cold rfl)) .nil)))

end Go.Proofs.YtcjlkjcadaaleaaDoor.Pv

/-
  Package page by the abstract machine: Same, short, and the law PageNew.
-/
namespace Go.Proofs.YtcjlkjcadaaleaaDoor.Pv
open Go.RowKit

def sameSt1 (m : MemS) (k : Nat) : St := ⟨[(2, none, pv1 (.pt 0 0 0)), (3, none, pv1 (.pt 1 0 0)), (4, none, pvB false), (5, none, pvI k)], [(0, none, 0, .box 60 (memL m)), (1, none, 0, .box 60 (memL m))]⟩
def sameSt2 (m : MemS) (k : Nat) : St := ⟨[(2, none, pv1 (.pt 0 0 0)), (3, none, pv1 (.pt 1 0 0)), (4, none, pvB false), (6, none, pvI k)], [(0, none, 0, .box 60 (memL m)), (1, none, 0, .box 60 (memL m))]⟩
set_option maxRecDepth 100000 in
theorem pgSame_fun (m : MemS) (hlen : m.pages.length ≤ 1000000 ∧ m.counts.length ≤ 1000000) : FunOk Tryd.prog ShaMem 38 true [memPV m, memPV m] (pvB true) := by
  have M := pg8M
  refine funOk_of Tryd.func38 rfl rfl sha_ext (fun A hS hn hI => ?_)
  refine tri_reg M hI hn (outs := ?_) (s' := ?_) ?_ ?_ ?_ ?_
  rotate_left 2
  · rfl
  · kernel_rfl
  · simp
  refine tri_seq ?_
  refine tri_reg M hI hn (outs := ?_) (s' := ?_) ?_ ?_ ?_ ?_
  rotate_left 2
  · rfl
  · kernel_rfl
  · simp
  refine tri_cond (b := ?_) ?_ (fun hc => ?_) (fun hc => ?_)
  rotate_left 1
  · rfl
  · simp at hc
  · refine tri_skip ?_
    change Tri _ _ _ _ _
    refine tri_seq ?_
    refine tri_reg M hI hn (outs := ?_) (s' := ?_) ?_ ?_ ?_ ?_
    rotate_left 2
    · rfl
    · kernel_rfl
    · simp
    refine tri_conv (s' := sameSt1 m 0) (fun a w hg => (hg.reset (kT := [2, 3, 4, 5]) (kO := [0, 1]) (by rfl) (by simp)).same ?_ ?_) ?_
    · exact .cons rfl (.cons rfl (.cons rfl (.cons rfl .nil)))
    · exact .cons (.box rfl) (.cons (.box rfl) .nil)
    refine tri_block ?_
    refine tri_loop m.pages.length (fun k s => s = sameSt1 m k) 0 rfl (by omega) (fun k s hJ hkl => ?_)
    subst hJ
    refine tri_seq ?_
    refine tri_reg M hI hn (outs := ?_) (s' := ?_) ?_ ?_ ?_ ?_
    rotate_left 2
    · rfl
    · kernel_rfl
    · simp
    refine tri_cond (b := ?_) ?_ (fun hc => ?_) (fun hc => ?_)
    rotate_left 1
    · rfl
    · have hk2 : k < m.pages.length := by simpa using hc
      refine tri_skip ?_
      change Tri _ _ _ _ _
      refine tri_seq ?_
      refine tri_block ?_
      refine tri_reg M hI hn (outs := ?_) (s' := ?_) ?_ ?_ ?_ ?_
      rotate_left 2
      · rfl
      · kernel_rfl
      · simp
        exact hk2
      refine tri_cond (b := ?_) ?_ (fun hc => ?_) (fun hc => ?_)
      rotate_left 1
      · rfl
      · simp at hc
      · refine tri_skip ?_
        change Tri _ _ _ _ _
        refine tri_region M hI hn (outs := ?_) (s' := ?_) ?_ ?_ ?_ ?_
        rotate_left 2
        · rfl
        · kernel_rfl
        · simp
        intro a w hg
        refine ⟨k + 1, _, by omega, by omega, rfl, (hg.reset (kT := [2, 3, 4, 5]) (kO := [0, 1]) (by rfl) (by simp)).same ?_ ?_⟩
        · exact .cons rfl (.cons rfl (.cons rfl (.cons (by rw [wrap_nat k (by omega)]) .nil)))
        · exact .cons (.box rfl) (.cons (.box rfl) .nil)
    · refine tri_exit ?_
      change Tri _ _ _ _ _
      refine tri_seq ?_
      refine tri_reg M hI hn (outs := ?_) (s' := ?_) ?_ ?_ ?_ ?_
      rotate_left 2
      · rfl
      · kernel_rfl
      · simp
      refine tri_conv (s' := sameSt2 m 0) (fun a w hg => (hg.reset (kT := [2, 3, 4, 6]) (kO := [0, 1]) (by rfl) (by simp)).same ?_ ?_) ?_
      · exact .cons rfl (.cons rfl (.cons rfl (.cons rfl .nil)))
      · exact .cons (.box rfl) (.cons (.box rfl) .nil)
      refine tri_block ?_
      refine tri_loop m.counts.length (fun k s => s = sameSt2 m k) 0 rfl (by omega) (fun k s hJ hkl => ?_)
      subst hJ
      refine tri_seq ?_
      refine tri_reg M hI hn (outs := ?_) (s' := ?_) ?_ ?_ ?_ ?_
      rotate_left 2
      · rfl
      · kernel_rfl
      · simp
      refine tri_cond (b := ?_) ?_ (fun hc => ?_) (fun hc => ?_)
      rotate_left 1
      · rfl
      · have hk2 : k < m.counts.length := by simpa using hc
        refine tri_skip ?_
        change Tri _ _ _ _ _
        refine tri_seq ?_
        refine tri_block ?_
        refine tri_reg M hI hn (outs := ?_) (s' := ?_) ?_ ?_ ?_ ?_
        rotate_left 2
        · rfl
        · kernel_rfl
        · simp
          exact hk2
        refine tri_cond (b := ?_) ?_ (fun hc => ?_) (fun hc => ?_)
        rotate_left 1
        · rfl
        · simp at hc
        · refine tri_skip ?_
          change Tri _ _ _ _ _
          refine tri_region M hI hn (outs := ?_) (s' := ?_) ?_ ?_ ?_ ?_
          rotate_left 2
          · rfl
          · kernel_rfl
          · simp
          intro a w hg
          refine ⟨k + 1, _, by omega, by omega, rfl, (hg.reset (kT := [2, 3, 4, 6]) (kO := [0, 1]) (by rfl) (by simp)).same ?_ ?_⟩
          · exact .cons rfl (.cons rfl (.cons rfl (.cons (by rw [wrap_nat k (by omega)]) .nil)))
          · exact .cons (.box rfl) (.cons (.box rfl) .nil)
      · refine tri_exit ?_
        change Tri _ _ _ _ _
        refine tri_reg M hI hn (outs := ?_) (s' := ?_) ?_ ?_ ?_ ?_
        rotate_left 2
        · rfl
        · kernel_rfl
        · simp
        refine tri_ret (fun a w hg => ⟨.inr rfl, _, ?_, hg⟩)
        refine retTo_cold (out := ?_) ?_ ?_ ?_ ?_ ?_
        rotate_left 1
        · rfl
        · simp
        · rfl
        · rfl
        rfl
def shortS (l : List ByteArray) : Bool := decide (l.length ≤ 20) && l.all fun c => decide (c.size ≤ 200)
def shortSt (l : List ByteArray) (k : Nat) : St := ⟨[(0, none, pv1 (.sl 1 l.length (strF l))), (2, none, pvB false), (3, none, pvI k)], []⟩
set_option maxRecDepth 100000 in
theorem pgShort_fun (l : List ByteArray) : FunOk Tryd.prog ShaMem 35 true [pv1 (.sl 1 l.length (strF l))] (pvB (shortS l)) := by
  have M := pg8M
  refine funOk_of Tryd.func35 rfl rfl sha_ext (fun A hS hn hI => ?_)
  refine tri_reg M hI hn (outs := ?_) (s' := ?_) ?_ ?_ ?_ ?_
  rotate_left 2
  · rfl
  · kernel_rfl
  · simp
  refine tri_seq ?_
  refine tri_reg M hI hn (outs := ?_) (s' := ?_) ?_ ?_ ?_ ?_
  rotate_left 2
  · rfl
  · kernel_rfl
  · simp
  refine tri_cond (b := ?_) ?_ (fun hc => ?_) (fun hc => ?_)
  rotate_left 1
  · rfl
  · refine tri_reg M hI hn (outs := ?_) (s' := ?_) ?_ ?_ ?_ ?_
    rotate_left 2
    · rfl
    · kernel_rfl
    · simp
    refine tri_ret (fun a w hg => ⟨.inr rfl, _, ?_, hg⟩)
    refine retTo_cold (out := ?_) ?_ ?_ ?_ ?_ ?_
    rotate_left 1
    · rfl
    · simp
    · rfl
    · rfl
    have h1 : ¬ l.length ≤ 20 := by
      simp at hc
      omega
    simp [shortS, h1]
  · have h1 : l.length ≤ 20 := by
      simp at hc
      omega
    refine tri_skip ?_
    change Tri _ _ _ _ _
    refine tri_seq ?_
    refine tri_reg M hI hn (outs := ?_) (s' := ?_) ?_ ?_ ?_ ?_
    rotate_left 2
    · rfl
    · kernel_rfl
    · simp
    refine tri_conv (s' := shortSt l 0) (fun a w hg => (hg.reset (kT := [0, 2, 3]) (kO := []) (by rfl) (by simp)).same ?_ ?_) ?_
    · exact .cons rfl (.cons rfl (.cons rfl .nil))
    · exact .nil
    refine tri_block ?_
    refine tri_loop l.length (fun k s => s = shortSt l k ∧ ∀ i, i < k → (l.getD i { data := #[] }).size ≤ 200) 0 ⟨rfl, fun i hi => by omega⟩ (by omega) (fun k s hJ hkl => ?_)
    obtain ⟨rfl, hall⟩ := hJ
    refine tri_seq ?_
    refine tri_reg M hI hn (outs := ?_) (s' := ?_) ?_ ?_ ?_ ?_
    rotate_left 2
    · rfl
    · kernel_rfl
    · simp
    refine tri_cond (b := ?_) ?_ (fun hc => ?_) (fun hc => ?_)
    rotate_left 1
    · rfl
    · have hk2 : k < l.length := by simpa using hc
      refine tri_skip ?_
      change Tri _ _ _ _ _
      refine tri_seq ?_
      refine tri_block ?_
      refine tri_reg M hI hn (outs := ?_) (s' := ?_) ?_ ?_ ?_ ?_
      rotate_left 2
      · rfl
      · kernel_rfl
      · simp
        exact hk2
      refine tri_cond (b := ?_) ?_ (fun hc => ?_) (fun hc => ?_)
      rotate_left 1
      · rfl
      · refine tri_reg M hI hn (outs := ?_) (s' := ?_) ?_ ?_ ?_ ?_
        rotate_left 2
        · rfl
        · kernel_rfl
        · simp
        refine tri_ret (fun a w hg => ⟨.inr rfl, _, ?_, hg⟩)
        refine retTo_cold (out := ?_) ?_ ?_ ?_ ?_ ?_
        rotate_left 1
        · rfl
        · simp
        · rfl
        · rfl
        have h2 : ¬ (l.getD k { data := #[] }).size ≤ 200 := by
          simp at hc
          simp only [List.getD_eq_getElem?_getD]
          omega
        have h3 : (l.all fun c => decide (c.size ≤ 200)) = false := by
          rw [← Bool.not_eq_true]
          intro h
          exact h2 (of_decide_eq_true (List.all_eq_true.1 h _ (getD_mem hk2 { data := #[] })))
        simp only [shortS, h3, Bool.and_false]
      · have h2 : (l.getD k { data := #[] }).size ≤ 200 := by
          simp at hc
          simp only [List.getD_eq_getElem?_getD]
          omega
        refine tri_skip ?_
        change Tri _ _ _ _ _
        refine tri_region M hI hn (outs := ?_) (s' := ?_) ?_ ?_ ?_ ?_
        rotate_left 2
        · rfl
        · kernel_rfl
        · simp
        intro a w hg
        refine ⟨k + 1, _, by omega, by omega, ⟨rfl, fun i hi => ?_⟩, (hg.reset (kT := [0, 2, 3]) (kO := []) (by rfl) (by simp)).same ?_ ?_⟩
        · rcases Nat.lt_or_ge i k with h | h
          · exact hall i h
          · obtain rfl : i = k := by omega
            exact h2
        · exact .cons rfl (.cons rfl (.cons (by rw [wrap_nat k (by omega)]) .nil))
        · exact .nil
    · refine tri_exit ?_
      change Tri _ _ _ _ _
      have hk3 : k = l.length := by
        have : ¬ k < l.length := by simpa using hc
        omega
      subst hk3
      refine tri_reg M hI hn (outs := ?_) (s' := ?_) ?_ ?_ ?_ ?_
      rotate_left 2
      · rfl
      · kernel_rfl
      · simp
      refine tri_ret (fun a w hg => ⟨.inr rfl, _, ?_, hg⟩)
      refine retTo_cold (out := ?_) ?_ ?_ ?_ ?_ ?_
      rotate_left 1
      · rfl
      · simp
      · rfl
      · rfl
      have h3 : (l.all fun c => decide (c.size ≤ 200)) = true := List.all_eq_true.2 fun b hb => by
        obtain ⟨i, hi, rfl⟩ := List.getElem_of_mem hb
        have := hall i hi
        rw [List.getD_eq_getElem?_getD, List.getElem?_eq_getElem hi] at this
        exact decide_eq_true this
      simp [shortS, h1, h3]

end Go.Proofs.YtcjlkjcadaaleaaDoor.Pv

/-
  Package page by the abstract machine: the law PageNew.
-/
namespace Go.Proofs.YtcjlkjcadaaleaaDoor.Pv
open Go.RowKit

theorem rNew_ok : SpecOk Tryd.prog ShaMem 37 spNew := by
  refine funSpec_ok (call_enters Tryd.func37 (by kernel_rfl) rfl) (fun xs p r hg hp => ?_)
  split at hg
  · rename_i k n f
    cases hg
    intro w ok0 vs hI hv
    have h1 := rNew_fun k (rowStr n f) (vals_dig hv) hp.2
    rw [rowStr_length] at h1
    exact h1 w ok0 vs hI (vals_sl2 (strF_row hp.1) vs hv)
  · cases hg
def spShort : Spec := funSpec true fun xs => match xs with
  | [.w (.one (.sl 1 n f))] => some (IsStrRow n f, pvB (shortS (rowStr n f)))
  | _ => none
theorem pgShort_ok : SpecOk Tryd.prog ShaMem 35 spShort := by
  refine funSpec_ok (call_enters Tryd.func35 (by kernel_rfl) rfl) (fun xs p r hg hp => ?_)
  split at hg
  · rename_i n f
    cases hg
    intro w ok0 vs hI hv
    have h1 := pgShort_fun (rowStr n f)
    rw [rowStr_length] at h1
    exact h1 w ok0 vs hI (one_sl (strF_row hp) vs hv)
  · cases hg
def spSame : Spec := funSpec true fun xs => match xs with
  | [a, b] => (match asMem a, asMem b with
    | some (p, m), some (q, m') => some (p ∧ q ∧ m = m' ∧ m.pages.length ≤ 1000000 ∧ m.counts.length ≤ 1000000, pvB true)
    | _, _ => none)
  | _ => none
theorem pgSame_ok : SpecOk Tryd.prog ShaMem 38 spSame := by
  refine funSpec_ok (call_enters Tryd.func38 (by kernel_rfl) rfl) (fun xs p r hg hp => ?_)
  split at hg
  · rename_i a b
    cases ha : asMem a with
    | none => rw [ha] at hg; cases hg
    | some x =>
      obtain ⟨p0, m⟩ := x
      cases hb : asMem b with
      | none => rw [ha, hb] at hg; cases hg
      | some y =>
        obtain ⟨q0, m'⟩ := y
        rw [ha, hb] at hg
        cases hg
        obtain ⟨h1, h2, rfl, h3⟩ := hp
        exact (pgSame_fun m h3).args fun C vs hv => by
          match vs, hv with
          | [_, _], ⟨h4, h5, _⟩ => exact ⟨asMem_ok ha h1 h4, asMem_ok hb h2 h5, trivial⟩
  · cases hg
def pgL9 : List (Nat × Spec) := (37, spNew) :: (35, spShort) :: (38, spSame) :: pgL8
theorem pg9_ok : ∀ p ∈ pgL9, SpecOk Tryd.prog ShaMem p.1 p.2 := by
  intro p hp
  unfold pgL9 at hp
  rcases List.mem_cons.1 hp with rfl | hp
  · exact rNew_ok
  rcases List.mem_cons.1 hp with rfl | hp
  · exact pgShort_ok
  rcases List.mem_cons.1 hp with rfl | hp
  · exact pgSame_ok
  · exact pg8_ok p hp
theorem pg9M : Mach Tryd.prog ShaMem (find pgL9) := ⟨specs_of pg9_ok, mixed_⟩
theorem short_sizes {l : List ByteArray} (h : shortS l = true) : l.length ≤ 20 ∧ ∀ c ∈ l, c.size ≤ 200 := by
  unfold shortS at h
  rw [Bool.and_eq_true, decide_eq_true_eq] at h
  exact ⟨h.1, fun c hc => of_decide_eq_true (List.all_eq_true.1 h.2 c hc)⟩
theorem newM_len (key : List UInt8) (l : List ByteArray) (hl : l.length ≤ 20) : (newM key l).pages.length ≤ 1000000 ∧ (newM key l).counts.length ≤ 1000000 := by
  unfold newM
  cases hd : decide (l.length ≤ 16) with
  | true => simp [newU, newPages]; omega
  | false => simp
set_option maxRecDepth 100000 in
theorem pgNewLaw_fun (key : List UInt8) (l : List ByteArray) (_ : key.length = 16) : FunOk Tryd.prog ShaMem 10 true [.w (.agg [.bs 16 key]), pv1 (.sl 1 l.length (strF l))] (pvB true) := by
  have M := pg9M
  refine funOk_of Tryd.func10 rfl rfl sha_ext (fun A hS hn hI => ?_)
  refine tri_reg M hI hn (outs := ?_) (s' := ?_) ?_ ?_ ?_ ?_
  rotate_left 2
  · rfl
  · kernel_rfl
  · simp
  refine tri_reg M hI hn (outs := ?_) (s' := ?_) ?_ ?_ ?_ ?_
  rotate_left 2
  · rfl
  · kernel_rfl
  · simp
  refine tri_seq ?_
  refine tri_reg M hI hn (outs := ?_) (s' := ?_) ?_ ?_ ?_ ?_
  rotate_left 2
  · rfl
  · kernel_rfl
  · simp
  refine tri_cond (b := ?_) ?_ (fun hc => ?_) (fun hc => ?_)
  rotate_left 1
  · rfl
  · refine tri_reg M hI hn (outs := ?_) (s' := ?_) ?_ ?_ ?_ ?_
    rotate_left 2
    · rfl
    · kernel_rfl
    · simp
    refine tri_ret (fun a w hg => ⟨.inr rfl, _, ?_, hg⟩)
    refine retTo_cold (out := ?_) ?_ ?_ ?_ ?_ ?_
    rotate_left 1
    · rfl
    · simp
    · rfl
    · rfl
    rfl
  · have hf : shortS l = true := by simpa using hc
    have hz := short_sizes hf
    have hsz : ∀ c ∈ l, c.size ≤ 5000 := fun c hc => by have := hz.2 c hc; omega
    have hln := newM_len key l hz.1
    refine tri_skip ?_
    change Tri _ _ _ _ _
    refine tri_reg M hI hn (outs := ?_) (s' := ?_) ?_ ?_ ?_ ?_
    rotate_left 2
    · rfl
    · kernel_rfl
    · simp
      exact hsz
    refine tri_reg M hI hn (outs := ?_) (s' := ?_) ?_ ?_ ?_ ?_
    rotate_left 2
    · rfl
    · kernel_rfl
    · simp
      exact hsz
    refine tri_reg M hI hn (outs := ?_) (s' := ?_) ?_ ?_ ?_ ?_
    rotate_left 2
    · rfl
    · kernel_rfl
    · simp [hln]
    refine tri_ret (fun a w hg => ⟨.inr rfl, _, ?_, hg⟩)
    refine retTo_cold (out := ?_) ?_ ?_ ?_ ?_ ?_
    rotate_left 1
    · rfl
    · simp
    · rfl
    · rfl
    simp

end Go.Proofs.YtcjlkjcadaaleaaDoor.Pv
