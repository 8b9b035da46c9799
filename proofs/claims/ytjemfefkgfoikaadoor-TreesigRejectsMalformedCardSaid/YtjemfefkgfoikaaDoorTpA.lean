/-
  Several texts in one file: each has its own heading below.
-/
import Derived.WalkKit
import Derived.WalkSpells
import Derived.WalkLawsBesides
import Derived.Handy
import Derived.Deep.QuietTactic
import Derived.BigQuiet
import Derived.Deep.Draws
import Derived.Maps.AppendAt
import Derived.Laws.BitsAllLaws
import Derived.Test.YtjemfefkgfoikaaDoorProg
import Derived.Outline
import Derived.Deep.MidRow
import Derived.OwnWalkIn
import Derived.RangeFuncNested
import Derived.RangeFuncBound
import Derived.RangeFuncCalls
import Derived.RangeFuncLeaves
import Derived.TacticsInMore
import Derived.LoopNIn
import Derived.LoopIn
import Derived.Deep.Cut
import Derived.ChangeKeysEq
import Derived.DeepKeys

/-
  The words that all texts of this seat share: which blocks of memory a call may have changed ('Chg'); slices that read as lists; step programs as trees ('Prg') and their replay. Plain Lean: no function of the program is named here.
-/
namespace Go.Proofs.YtjemfefkgfoikaaDoor
open Go.RowKit

theorem hide {p : Prop} (h : p) : Hid p := h
theorem unhide {p : Prop} (h : Hid p) : p := h

theorem ret_int {k : IntKind} {a b : Int} (h : a = b) : Ending.returned (.int k a) = .returned (.int k b) := by rw [h]
theorem ret_bool {a b : Bool} (h : a = b) : Ending.returned (.bool a) = .returned (.bool b) := by rw [h]
theorem int_eq {k : IntKind} {a b : Int} (h : a = b) : Value.int k a = .int k b := by rw [h]
theorem ret_pair {k : IntKind} {a b : Int} {y : Value} (h : a = b) : Ending.returned (.tuple #[.int k a, y]) = .returned (.tuple #[.int k b, y]) := by rw [h]

/-- Of the blocks that were there, at most those in S have changed. -/
structure Chg (S : Nat → Prop) (w w' : World) : Prop where
  os : w'.os = w.os
  tape : w'.tape = w.tape
  output : w'.output = w.output
  size : w.heap.size ≤ w'.heap.size
  block : ∀ k, k < w.heap.size → ¬ S k → w'.heap[k]? = w.heap[k]?

/-- No block that was there has changed. -/
def Non : Nat → Prop := fun _ => False
def Ext (w w' : World) : Prop := Chg Non w w'

theorem Chg.refl (S : Nat → Prop) (w : World) : Chg S w w := ⟨rfl, rfl, rfl, Nat.le_refl _, fun _ _ _ => rfl⟩
theorem Chg.trans' {S T U : Nat → Prop} {a b c : World} (h : Chg S a b) (k : Chg T b c) (hS : ∀ i, i < a.heap.size → S i → U i) (hT : ∀ i, i < a.heap.size → T i → U i) : Chg U a c :=
  ⟨k.os.trans h.os, k.tape.trans h.tape, k.output.trans h.output, Nat.le_trans h.size k.size, fun i hi hn =>
    (k.block i (Nat.lt_of_lt_of_le hi h.size) (fun ht => hn (hT i hi ht))).trans (h.block i hi (fun hs => hn (hS i hi hs)))⟩
theorem Chg.trans {S : Nat → Prop} {a b c : World} (h : Chg S a b) (k : Chg S b c) : Chg S a c := h.trans' k (fun _ _ h => h) (fun _ _ h => h)
theorem Chg.mono {S T : Nat → Prop} {a b : World} (h : Chg S a b) (hS : ∀ i, i < a.heap.size → S i → T i) : Chg T a b :=
  ⟨h.os, h.tape, h.output, h.size, fun i hi hn => h.block i hi (fun hs => hn (hS i hi hs))⟩
theorem Ext.chg {S : Nat → Prop} {a b : World} (h : Ext a b) : Chg S a b := Chg.mono h (fun _ _ h => h.elim)
theorem Chg.ext {S : Nat → Prop} {a b c : World} (h : Chg S a b) (k : Ext b c) : Chg S a c := h.trans k.chg
theorem Ext.refl (w : World) : Ext w w := Chg.refl _ _
theorem Ext.trans {a b c : World} (h : Ext a b) (k : Ext b c) : Ext a c := Chg.trans h k
theorem Chg.alloc {S : Nat → Prop} {a w : World} (h : Chg S a w) (o : Obj) : Chg S a (w.alloc o) :=
  h.trans ⟨rfl, rfl, rfl, by simp, fun k hk _ => Below.heap_alloc _ _ _ hk⟩
theorem Ext.alloc {a w : World} (h : Ext a w) (o : Obj) : Ext a (w.alloc o) := Chg.alloc h o
theorem Chg.drew {S : Nat → Prop} {a w : World} (h : Chg S a w) : Chg S a w.drew := ⟨h.os, h.tape, h.output, h.size, h.block⟩
theorem Ext.drew {a w : World} (h : Ext a w) : Ext a w.drew := Chg.drew h
theorem Chg.drewN {S : Nat → Prop} {a w : World} (h : Chg S a w) (n : Nat) : Chg S a (w.drewN n) := ⟨h.os, h.tape, h.output, h.size, h.block⟩
theorem Ext.drewN {a w : World} (h : Ext a w) (n : Nat) : Ext a (w.drewN n) := Chg.drewN h n
theorem Chg.setCell {S : Nat → Prop} {a w : World} (h : Chg S a w) {p : Addr} (hp : S p.block ∨ a.heap.size ≤ p.block) (u : Value) : Chg S a (w.setCell p u) :=
  ⟨h.os, h.tape, h.output, by simpa [World.setCell] using h.size, fun k hk hn => (Below.heap_setCell _ _ _ _ (by rintro rfl; exact hp.elim hn (fun h => by omega))).trans (h.block k hk hn)⟩
theorem Ext.setCell {a w : World} (h : Ext a w) {p : Addr} (hp : a.heap.size ≤ p.block) (u : Value) : Ext a (w.setCell p u) := Chg.setCell h (.inr hp) u
theorem Chg.grown {S : Nat → Prop} {a w w' : World} {row : Option Nat} (h : Chg S a w) (hg : w.grownBy w' row) (hr : ∀ k, row = some k → S k ∨ a.heap.size ≤ k) : Chg S a w' :=
  ⟨hg.os.trans h.os, hg.tape.trans h.tape, hg.output.trans h.output, Nat.le_trans h.size hg.size, fun k hk hn =>
    (hg.block k (Nat.lt_of_lt_of_le hk h.size) (fun e => (hr k e.symm).elim hn (fun h => by omega))).trans (h.block k hk hn)⟩
theorem Ext.grown {a w w' : World} {row : Option Nat} (h : Ext a w) (hg : w.grownBy w' row) (hr : ∀ k, row = some k → a.heap.size ≤ k) : Ext a w' := Chg.grown h hg (fun k hk => .inr (hr k hk))
theorem Ext.of_below {w w' : World} (h : Below w.heap.size w w') : Ext w w' := ⟨h.os, h.tape, h.output, h.size, fun k hk _ => h.block k hk⟩
theorem Ext.below {w w' : World} (h : Ext w w') : Below w.heap.size w w' := ⟨h.os, h.tape, h.output, h.size, fun k hk => h.block k hk (fun h => h)⟩
theorem Chg.cell {S : Nat → Prop} {w w' : World} (h : Chg S w w') {p : Addr} (hp : p.block < w.heap.size) (hn : ¬ S p.block) : w'.cell? p = w.cell? p := World.cell?_of_block (w := w) (h.block p.block hp hn)
theorem Chg.frozen {S : Nat → Prop} {w w' : World} (h : Chg S w w') {p : Addr} (hp : p.block < w.heap.size) (hn : ¬ S p.block) : w'.frozen? p = w.frozen? p := World.frozen?_of_block (w := w) (h.block p.block hp hn)
theorem lt_of_cell {w : World} {p : Addr} {v : Value} (h : w.cell? p = some v) : p.block < w.heap.size := World.block_lt_of_cell? w p h
theorem Ext.cellv {w w' : World} (h : Ext w w') {p : Addr} {v : Value} (hv : w.cell? p = some v) : w'.cell? p = some v := (Chg.cell h (lt_of_cell hv) (fun h => h)).trans hv
theorem Chg.cellv {S : Nat → Prop} {w w' : World} (h : Chg S w w') {p : Addr} {v : Value} (hv : w.cell? p = some v) (hn : ¬ S p.block) : w'.cell? p = some v := (Chg.cell h (lt_of_cell hv) hn).trans hv
theorem Chg.frozenv {S : Nat → Prop} {w w' : World} (h : Chg S w w') {p : Addr} (hv : w.frozen? p = false) (hl : p.block < w.heap.size) (hn : ¬ S p.block) : w'.frozen? p = false := (Chg.frozen h hl hn).trans hv
theorem Ext.frozenv {w w' : World} (h : Ext w w') {p : Addr} (hv : w.frozen? p = false) (hl : p.block < w.heap.size) : w'.frozen? p = false := (Chg.frozen h hl (fun h => h)).trans hv
theorem lt_of_heap {w : World} {k : Nat} {o : Obj} (h : w.heap[k]? = some o) : k < w.heap.size := (Array.getElem?_eq_some_iff.1 h).1
theorem Chg.blk {S : Nat → Prop} {w w' : World} (h : Chg S w w') {k : Nat} {o : Obj} (hv : w.heap[k]? = some o) (hn : ¬ S k) : w'.heap[k]? = some o := (h.block k (lt_of_heap hv) hn).trans hv
theorem Ext.blk {w w' : World} (h : Ext w w') {k : Nat} {o : Obj} (hv : w.heap[k]? = some o) : w'.heap[k]? = some o := Chg.blk h hv (fun h => h)
theorem Ext.size' {w w' : World} (h : Ext w w') : w.heap.size ≤ w'.heap.size := Chg.size h

/-- The frame after a call, and the walk's rule for old cells. -/
theorem Ext.rules {w w' : World} (h : Ext w w') : (∀ b o, b < w.heap.size → w'.cell? ⟨b, o, none⟩ = w.cell? ⟨b, o, none⟩) ∧ (∀ b o, b < w.heap.size → w'.frozen? ⟨b, o, none⟩ = w.frozen? ⟨b, o, none⟩) :=
  ⟨fun b o hb => Chg.cell (p := ⟨b, o, none⟩) h hb (fun h => h), fun b o hb => Chg.frozen (p := ⟨b, o, none⟩) h hb (fun h => h)⟩

/-- Block g is just the cells cs. -/
def Blk (w : World) (g : Nat) (t : TypeId) (cs : Array Value) : Prop := w.heap[g]? = some (.cells cs t (0, 0))
section
variable {w w' : World} {g : Nat} {t : TypeId} {cs : Array Value}
theorem Blk.lt (h : Blk w g t cs) : g < w.heap.size := lt_of_heap h
theorem Blk.cell (h : Blk w g t cs) (i : Nat) : w.cell? ⟨g, i, none⟩ = cs[i]? := cell_of_row w g i cs t (0, 0) h
theorem Blk.frozen (h : Blk w g t cs) (i : Nat) : w.frozen? ⟨g, i, none⟩ = false := by
  unfold Blk at h
  simp [World.frozen?, h]
theorem Blk.new (w : World) (t : TypeId) (cs : Array Value) : Blk (w.alloc (.cells cs t)) w.heap.size t cs := heap_alloc_new w _
theorem Blk.new' (w : World) (t : TypeId) (cs : Array Value) {g : Nat} (hg : g = w.heap.size) : Blk (w.alloc (.cells cs t)) g t cs := by subst hg; exact heap_alloc_new w _
theorem Blk.drew (h : Blk w g t cs) : Blk w.drew g t cs := h
theorem Blk.drewN (h : Blk w g t cs) (n : Nat) : Blk (w.drewN n) g t cs := h
theorem Blk.alloc (h : Blk w g t cs) (o : Obj) : Blk (w.alloc o) g t cs := (Below.heap_alloc w o g h.lt).trans h
theorem Blk.set_ (h : Blk w g t cs) (i : Nat) (u : Value) : Blk (w.setCell ⟨g, i, none⟩ u) g t (cs.setIfInBounds i u) := by
  unfold Blk at h ⊢
  simp [World.setCell, Array.getElem?_modify, h]
theorem Blk.far (h : Blk w g t cs) {p : Addr} (hp : g ≠ p.block) (u : Value) : Blk (w.setCell p u) g t cs := (Below.heap_setCell w p u g hp).trans h
theorem Blk.chg {S : Nat → Prop} (h : Blk w g t cs) (hc : Chg S w w') (hn : ¬ S g) : Blk w' g t cs := Chg.blk hc h hn
theorem Blk.cells1 {a : Value} (h : Blk w g t #[a]) : w.cell? ⟨g, 0, none⟩ = some a ∧ (∀ i, w.frozen? ⟨g, i, none⟩ = false) ∧ g < w.heap.size := ⟨h.cell 0, h.frozen, h.lt⟩
theorem Blk.cells2 {a b : Value} (h : Blk w g t #[a, b]) : w.cell? ⟨g, 0, none⟩ = some a ∧ w.cell? ⟨g, 1, none⟩ = some b ∧ (∀ i, w.frozen? ⟨g, i, none⟩ = false) ∧ g < w.heap.size := ⟨h.cell 0, h.cell 1, h.frozen, h.lt⟩
theorem Blk.cells3 {a b c : Value} (h : Blk w g t #[a, b, c]) : w.cell? ⟨g, 0, none⟩ = some a ∧ w.cell? ⟨g, 1, none⟩ = some b ∧ w.cell? ⟨g, 2, none⟩ = some c ∧ (∀ i, w.frozen? ⟨g, i, none⟩ = false) ∧ g < w.heap.size := ⟨h.cell 0, h.cell 1, h.cell 2, h.frozen, h.lt⟩
theorem Blk.cells4 {a b c d : Value} (h : Blk w g t #[a, b, c, d]) : w.cell? ⟨g, 0, none⟩ = some a ∧ w.cell? ⟨g, 1, none⟩ = some b ∧ w.cell? ⟨g, 2, none⟩ = some c ∧ w.cell? ⟨g, 3, none⟩ = some d ∧ (∀ i, w.frozen? ⟨g, i, none⟩ = false) ∧ g < w.heap.size := ⟨h.cell 0, h.cell 1, h.cell 2, h.cell 3, h.frozen, h.lt⟩
theorem Blk.ext (h : Blk w g t cs) (hc : Ext w w') : Blk w' g t cs := Ext.blk hc h
end

/-- What a cell holds: for a region whose last store hits a cell that it loads. -/
def held (w : World) (p : Addr) : Value := (w.cell? p).getD undef
theorem held_of {w : World} {p : Addr} {v : Value} (h : w.cell? p = some v) : held w p = v := by unfold held; rw [h]; rfl
theorem cell_held {w : World} {p : Addr} {v : Value} (h : w.cell? p = some v) : w.cell? p = some (held w p) := by rw [held_of h]; exact h

/-! ### Slices that read as lists of cells -/
theorem block_of_add (a : Addr) (n : Nat) : (a.add n).block = a.block := by unfold Addr.add; split <;> rfl
theorem add_of_add (a : Addr) (i j : Nat) : (a.add i).add j = a.add (i + j) := by
  unfold Addr.add
  by_cases hi : i = 0 <;> by_cases hj : j = 0 <;> simp [hi, hj, Nat.add_assoc]
theorem add_lit (b o n : Nat) : (⟨b, o, none⟩ : Addr).add n = ⟨b, o + n, none⟩ := by
  unfold Addr.add; split <;> simp_all

/-- The slice value v of n elements (size cells each) reads as the cells xs; every cell lies below block B. -/
def Reads (w : World) (size : Nat) (v : Value) (n : Nat) (xs : List Value) : Prop :=
  xs.length = n * size ∧ ∃ A c, v = .slice A n c ∧ n ≤ c ∧ c ≤ maxLen ∧ (0 < n → ∃ b o, A = some ⟨b, o, none⟩ ∧ ∀ j u, xs[j]? = some u → w.cell? ⟨b, o + j, none⟩ = some u)

section
variable {w w' : World} {size n : Nat} {v : Value} {xs : List Value}
theorem Reads.nil (w : World) (size : Nat) : Reads w size (.slice none 0 0) 0 [] := ⟨by simp, none, 0, rfl, Nat.le_refl _, Nat.zero_le _, fun h => absurd h (by omega)⟩
theorem Reads.keep (h : Reads w size v n xs) (hk : ∀ p u, w.cell? p = some u → w'.cell? p = some u) : Reads w' size v n xs := by
  obtain ⟨h1, A, c, rfl, h2, h3, h4⟩ := h
  refine ⟨h1, A, c, rfl, h2, h3, fun hn => ?_⟩
  obtain ⟨b, o, rfl, hc⟩ := h4 hn
  exact ⟨b, o, rfl, fun j u hu => hk _ _ (hc j u hu)⟩
theorem Reads.ext (h : Reads w size v n xs) (he : Ext w w') : Reads w' size v n xs := h.keep (fun _ _ hc => Ext.cellv he hc)
theorem Reads.of_own {base : Nat} {e : TypeId} (h : w.ownsRow base e size v n xs) : Reads w size v n xs := by
  refine ⟨h.1, ?_⟩
  rcases h.2 with ⟨rfl, rfl⟩ | ⟨g, cap, cur, rfl, hb, hg, hnc, hcm, hcs, htake⟩
  · exact ⟨none, 0, rfl, Nat.le_refl _, Nat.zero_le _, fun h => absurd h (by omega)⟩
  · refine ⟨_, cap, rfl, hnc, hcm, fun _ => ⟨g, 0, rfl, fun j u hu => ?_⟩⟩
    have := h.cells (g := g) rfl j u hu
    rwa [add_lit] at this
end

section
variable {w w' : World} {size n : Nat} {v : Value} {xs : List Value}
theorem Reads.chg {S : Nat → Prop} (h : Reads w size v n xs) (he : Chg S w w') (hS : ∀ k, 0 < n → v.ownBlock = some k → ¬ S k) : Reads w' size v n xs := by
  obtain ⟨h1, A, c, rfl, h2, h3, h4⟩ := h
  refine ⟨h1, A, c, rfl, h2, h3, fun hn => ?_⟩
  obtain ⟨b, o, rfl, hc⟩ := h4 hn
  exact ⟨b, o, rfl, fun j u hu => Chg.cellv he (hc j u hu) (hS b hn rfl)⟩
/-- Behind the cells of an element. -/
theorem Reads.at1 {k : Nat} (h : Reads w 1 v n xs) (hk : k < n) : ∃ b o c u, v = .slice (some ⟨b, o, none⟩) n c ∧ n ≤ c ∧ c ≤ maxLen ∧ b < w.heap.size ∧ xs[k]? = some u ∧ w.cell? ⟨b, o + k, none⟩ = some u := by
  obtain ⟨h1, A, c, rfl, h2, h3, h4⟩ := h
  obtain ⟨b, o, rfl, hc⟩ := h4 (by omega)
  have hl : k < xs.length := by omega
  have := hc k _ (List.getElem?_eq_getElem hl)
  exact ⟨b, o, c, xs[k], rfl, h2, h3, lt_of_cell this, List.getElem?_eq_getElem hl, this⟩
theorem Reads.at2 {k : Nat} (h : Reads w 2 v n xs) (hk : k < n) : ∃ b o c u1 u2, v = .slice (some ⟨b, o, none⟩) n c ∧ n ≤ c ∧ c ≤ maxLen ∧ b < w.heap.size ∧ xs[k * 2]? = some u1 ∧ xs[k * 2 + 1]? = some u2 ∧
    w.cell? ⟨b, o + k * 2, none⟩ = some u1 ∧ w.cell? ⟨b, o + k * 2 + 1, none⟩ = some u2 := by
  obtain ⟨h1, A, c, rfl, h2, h3, h4⟩ := h
  obtain ⟨b, o, rfl, hc⟩ := h4 (by omega)
  have hl : k * 2 < xs.length := by omega
  have hl' : k * 2 + 1 < xs.length := by omega
  have e1 := hc (k * 2) _ (List.getElem?_eq_getElem hl)
  have e2 := hc (k * 2 + 1) _ (List.getElem?_eq_getElem hl')
  exact ⟨b, o, c, _, _, rfl, h2, h3, lt_of_cell e1, List.getElem?_eq_getElem hl, List.getElem?_eq_getElem hl', e1, by rw [← Nat.add_assoc] at e2; exact e2⟩
theorem Reads.own_lt (h : Reads w size v n xs) (hsz : 0 < size) (hn : 0 < n) : ∀ k, v.ownBlock = some k → k < w.heap.size := by
  obtain ⟨h1, B, c, rfl, h2, h3, h4⟩ := h
  obtain ⟨b, o, rfl, hc⟩ := h4 hn
  intro k hk
  cases hk
  have hl : 0 < xs.length := by rw [h1]; exact Nat.mul_pos hn hsz
  exact lt_of_cell (hc 0 xs[0] (List.getElem?_eq_getElem hl))
theorem Reads.len_le (h : Reads w size v n xs) : n ≤ maxLen := by
  obtain ⟨h1, A, c, rfl, h2, h3, h4⟩ := h; omega
end

theorem Reads.new (w : World) (cs : Array Value) (e : TypeId) (size n c : Nat) (xs : List Value) (hx : xs.length = n * size) (hc : n ≤ c) (hm : c ≤ maxLen) (ht : cs.toList.take xs.length = xs) :
    Reads (w.alloc (.cells cs e)) size (.slice (some ⟨w.heap.size, 0, none⟩) n c) n xs := by
  refine ⟨hx, _, c, rfl, hc, hm, fun _ => ⟨w.heap.size, 0, rfl, fun j u hu => ?_⟩⟩
  have hj : j < xs.length := by
    rcases Nat.lt_or_ge j xs.length with h | h
    · exact h
    · rw [List.getElem?_eq_none h] at hu; cases hu
  rw [Nat.zero_add, World.cell?_alloc_new]
  rw [← ht, List.getElem?_take, if_pos hj] at hu
  simpa using hu
theorem Reads.new1 (w : World) (u : Value) (e : TypeId) : Reads (w.alloc (.cells #[u] e)) 1 (.slice (some ⟨w.heap.size, 0, none⟩) 1 1) 1 [u] :=
  Reads.new w #[u] e 1 1 1 [u] rfl (Nat.le_refl _) (by unfold maxLen; omega) rfl

/-! ### A slice that the call owns, and append -/
/-- A slice type, its element type, the element's cells and bytes. -/
structure SlTy (P : Program) (t e : TypeId) (size bytes : Nat) : Prop where
  und : P.underlying t = some (.slice e)
  info : ∃ (i : TypeInfo) (z : Value), P.info? e = some i ∧ i.zero = some z ∧ i.size = size ∧ i.bytes = bytes ∧ z.cells.size = size
  pos : 0 < size
  bpos : 0 < bytes
theorem SlTy.mk' {P : Program} {t e : TypeId} {z : Value} {size bytes : Nat} (hu : P.underlying t = some (.slice e)) (h : (P.info? e).map (fun i => (i.zero, i.size, i.bytes)) = some (some z, size, bytes)) (hz : z.cells.size = size) (h0 : 0 < size) (hb : 0 < bytes) : SlTy P t e size bytes := by
  obtain ⟨i, hi, h1, h2, h3⟩ := info_parts h
  exact ⟨hu, ⟨i, z, hi, h1, h2, h3, hz⟩, h0, hb⟩
def AllOne (xs : List Value) : Prop := ∀ u ∈ xs, u.oneCell' = true
theorem AllOne.map {α : Type} {f : α → Value} (hf : ∀ a, (f a).oneCell' = true) (l : List α) : AllOne (l.map f) := by
  intro u hu
  obtain ⟨a, _, rfl⟩ := List.mem_map.1 hu
  exact hf a
theorem AllOne.one {u : Value} (h : u.oneCell' = true) : AllOne [u] := by
  intro x hx; simp at hx; subst hx; exact h
theorem ownsRow_chg {w w' : World} {base : Nat} {e : TypeId} {size : Nat} {v : Value} {n : Nat} {xs : List Value} {S : Nat → Prop} (h : w.ownsRow base e size v n xs) (hc : Chg S w w') (hS : ∀ k, v.ownBlock = some k → ¬ S k) : w'.ownsRow base e size v n xs := by
  refine ⟨h.1, ?_⟩
  rcases h.2 with hn | ⟨g, cap, cur, rfl, hb, hgg, rest⟩
  · exact .inl hn
  · exact .inr ⟨g, cap, cur, rfl, hb, Chg.blk hc hgg (hS g rfl), rest⟩
theorem ownsRow_ext {w w' : World} {base : Nat} {e : TypeId} {size : Nat} {v : Value} {n : Nat} {xs : List Value} (h : w.ownsRow base e size v n xs) (hc : Ext w w') : w'.ownsRow base e size v n xs := ownsRow_chg h hc (fun _ _ h => h)

theorem lit_own {g n c b : Nat} (h : g ≠ b) : ¬ (Value.slice (some ⟨g, 0, none⟩) n c).ownBlock = some b := by
  intro e
  simp only [Value.ownBlock, Option.some.injEq] at e
  exact h e
theorem own_empty (w : World) (B : Nat) (e : TypeId) (size : Nat) (hb : B ≤ w.heap.size) : (w.alloc (.cells #[] e)).ownsRow B e size (.slice (some ⟨w.heap.size, 0, none⟩) 0 0) 0 [] :=
  ⟨by simp, .inr ⟨w.heap.size, 0, #[], rfl, hb, heap_alloc_new w _, Nat.le_refl _, Nat.zero_le _, by simp, by simp⟩⟩
section
variable {P : Program} {w : World}
theorem run_app {B : Nat} {t ty e : TypeId} {size bytes : Nat} (T : SlTy P t e size bytes) {v : Value} {n : Nat} {xs : List Value} (hown : w.ownsRow B e size v n xs)
    {u : Value} {m : Nat} {news : List Value} (hr : Reads w size u m news) (h1 : AllOne news) (hbytes : (n + m) * bytes ≤ 140737488355328) (hbase : B ≤ w.heap.size) :
    ∃ v' w', (Builtin.append_ #[t, t] ty #[v, u]).run P w = .ok v' w' ∧ w'.ownsRow B e size v' (n + m) (xs ++ news) ∧ Chg (fun k => v.ownBlock = some k) w w' ∧
      (v'.ownBlock = v.ownBlock ∨ ∃ g, v'.ownBlock = some g ∧ w.heap.size ≤ g ∧ g < w'.heap.size) := by
  obtain ⟨ht, ⟨i, z, hi, hz, hsize, hby, hzs⟩, hsz, hbp⟩ := T
  obtain ⟨hl, A, c, rfl, hmc, hcm, hcell⟩ := hr
  have h63 : n + m ≤ maxLen := by
    have : (n + m) * 1 ≤ (n + m) * bytes := Nat.mul_le_mul_left _ hbp
    unfold maxLen; omega
  rcases A with _ | ad
  · have hm : m = 0 := by
      rcases Nat.eq_zero_or_pos m with h0 | h0
      · exact h0
      · obtain ⟨b, o, h, _⟩ := hcell h0
        cases h
    subst hm
    have hn : news = [] := List.eq_nil_of_length_eq_zero (by simpa using hl)
    subst hn
    refine ⟨v, w, ?_, by simpa using hown, Chg.refl _ _, .inl rfl⟩
    rcases hown.2 with ⟨rfl, rfl⟩ | ⟨g, cap, cur, rfl, _, _, hnc, _⟩
    · simp [Builtin.append_, run_underlying ht, sizeOf, typeInfo, hi, Builtin.lenOf, Builtin.firstCells]
    · simp [Builtin.append_, run_underlying ht, sizeOf, typeInfo, hi, Builtin.lenOf, Builtin.firstCells, hnc, storeCells]
  · have hcells : ∀ j u, news[j]? = some u → w.cell? (ad.add j) = some u := by
      intro j u hu
      rcases Nat.eq_zero_or_pos m with h0 | h0
      · subst h0
        have hn : news = [] := List.eq_nil_of_length_eq_zero (by simpa using hl)
        subst hn
        simp at hu
      · obtain ⟨b, o, h, hc⟩ := hcell h0
        injection h with h
        subst h
        rw [add_lit]
        exact hc j u hu
    obtain ⟨v', w', hrun, h2, h3, _, h5⟩ := run_append_own_at (P := P) w B t ty e i z size bytes ht hi hz hsize hby hzs hsz v n xs hown ad m c news hl hcells h1 h63 hbytes hbase
    refine ⟨v', w', hrun, h2, ⟨h3.os, h3.tape, h3.output, h3.size, fun k hk hn => h3.block k hk (fun e => hn e.symm)⟩, ?_⟩
    rcases h5 with h5 | h5
    · exact .inl h5
    · exact .inr ⟨_, h5, Nat.le_refl _, (h2.lt _ h5).2⟩

theorem own_slice {w : World} {B : Nat} {e : TypeId} {size : Nat} {v : Value} {n : Nat} {xs : List Value} (h : w.ownsRow B e size v n xs) : ∃ A c, v = .slice A n c := by
  rcases h.2 with ⟨rfl, rfl⟩ | ⟨g, cap, cur, rfl, _⟩
  · exact ⟨_, _, rfl⟩
  · exact ⟨_, _, rfl⟩
theorem wp_app {o : Oper} {a : Act} {K : Act → World → Prop} {Q : Exit → Act → World → Prop} {s x : Operand} {t : TypeId}
    (ho : o.op = .call { callee := .builtin .append, args := #[s, x], argTypes := #[t, t] })
    {B : Nat} {e : TypeId} {size bytes : Nat} (T : SlTy P t e size bytes) {v : Value} (hs : a.eval s = v) {n : Nat} {xs : List Value} (hown : w.ownsRow B e size v n xs)
    {u : Value} (hx : a.eval x = u) {m : Nat} {news : List Value} (hr : Reads w size u m news) (h1 : AllOne news) (hbytes : (n + m) * bytes ≤ 140737488355328) (hbase : B ≤ w.heap.size)
    (h : ∀ (A' : Option Addr) (c' : Nat) w', w'.ownsRow B e size (.slice A' (n + m) c') (n + m) (xs ++ news) → Chg (fun k => v.ownBlock = some k) w w' → ((Value.slice A' (n + m) c').ownBlock = v.ownBlock ∨ ∃ g, (Value.slice A' (n + m) c').ownBlock = some g ∧ w.heap.size ≤ g ∧ g < w'.heap.size) → K (a.put o.dst (.slice A' (n + m) c')) w') : o.wp P a w K Q := by
  obtain ⟨v', w', hrun, h2, h3, h4⟩ := run_app (P := P) (ty := o.type) T hown hr h1 hbytes hbase
  unfold Oper.wp execOp
  simp only [ho, resolve, invoke, builtin, Sem.run_bind, Sem.run_pure, Result.andThen_ok, List.map_toArray, List.map_cons, List.map_nil, hs, hx, hrun]
  obtain ⟨A', c', rfl⟩ := own_slice h2
  exact h A' c' w' h2 h3 h4

/-- The law for a region that draws its order. -/
theorem step_app {ops : Array Oper} {o : Oper} {a : Act} {K : Act → World → Prop} {Q : Exit → Act → World → Prop} {E : Prop} (hgd : o.guard = none) {s x : Operand} {t : TypeId}
    (ho : o.op = .call { callee := .builtin .append, args := #[s, x], argTypes := #[t, t] })
    {B : Nat} {e : TypeId} {size bytes : Nat} (T : SlTy P t e size bytes) {v : Value} (hs : a.eval s = v) {n : Nat} {xs : List Value} (hown : w.ownsRow B e size v n xs)
    {u : Value} (hx : a.eval x = u) {m : Nat} {news : List Value} (hr : Reads w size u m news) (h1 : AllOne news) (hbytes : (n + m) * bytes ≤ 140737488355328) (hbase : B ≤ w.heap.size)
    (h : ∀ (A' : Option Addr) (c' : Nat) w', w'.ownsRow B e size (.slice A' (n + m) c') (n + m) (xs ++ news) → Chg (fun k => v.ownBlock = some k) w w' → ((Value.slice A' (n + m) c').ownBlock = v.ownBlock ∨ ∃ g, (Value.slice A' (n + m) c').ownBlock = some g ∧ w.heap.size ≤ g ∧ g < w'.heap.size) → K (a.put o.dst (.slice A' (n + m) c')) w') :
    if Region.wanted o (yielded ops a.tmps) = true then Oper.wp P o a w K Q else E := by
  have hw : Region.wanted o (yielded ops a.tmps) = true := by simp [Region.wanted, hgd]
  rw [if_pos hw]
  exact wp_app ho T hs hown hx hr h1 hbytes hbase h

theorem wpList_app {ops : Array Oper} {rest : List Oper} {o : Oper} {a : Act} {Q : Exit → Act → World → Prop} (hgd : o.guard = none) {s x : Operand} {t : TypeId}
    (ho : o.op = .call { callee := .builtin .append, args := #[s, x], argTypes := #[t, t] })
    {B : Nat} {e : TypeId} {size bytes : Nat} (T : SlTy P t e size bytes) {v : Value} (hs : a.eval s = v) {n : Nat} {xs : List Value} (hown : w.ownsRow B e size v n xs)
    {u : Value} (hx : a.eval x = u) {m : Nat} {news : List Value} (hr : Reads w size u m news) (h1 : AllOne news) (hbytes : (n + m) * bytes ≤ 140737488355328) (hbase : B ≤ w.heap.size)
    (h : ∀ (A' : Option Addr) (c' : Nat) w', w'.ownsRow B e size (.slice A' (n + m) c') (n + m) (xs ++ news) → Chg (fun k => v.ownBlock = some k) w w' → ((Value.slice A' (n + m) c').ownBlock = v.ownBlock ∨ ∃ g, (Value.slice A' (n + m) c').ownBlock = some g ∧ w.heap.size ≤ g ∧ g < w'.heap.size) → wpList P ops Q rest (a.put o.dst (.slice A' (n + m) c')) w') : wpList P ops Q (o :: rest) a w :=
  wpList_plain hgd fun _ hK => wp_app ho T hs hown hx hr h1 hbytes hbase fun A' c' w' h2 h3 h4 => hK _ _ (h A' c' w' h2 h3 h4)
end

/-- An element of a row that the call owns. -/
theorem own_at {w : World} {B : Nat} {e : TypeId} {v : Value} {n k : Nat} {xs : List Value} (h : w.ownsRow B e 1 v n xs) (hk : k < n) :
    ∃ g cap u, v = .slice (some ⟨g, 0, none⟩) n cap ∧ B ≤ g ∧ g < w.heap.size ∧ xs[k]? = some u ∧ w.cell? ⟨g, k, none⟩ = some u ∧ ∀ i, w.frozen? ⟨g, i, none⟩ = false := by
  have hl := h.1
  rcases h.2 with ⟨rfl, rfl⟩ | ⟨g, cap, cur, rfl, hb, hg, hnc, hcm, hcs, htake⟩
  · omega
  · have hc := h.cells (g := g) rfl k xs[k] (List.getElem?_eq_getElem (by omega))
    rw [add_lit, Nat.zero_add] at hc
    exact ⟨g, cap, xs[k], rfl, hb, lt_of_heap hg, List.getElem?_eq_getElem (by omega), hc, fun i => by simp [World.frozen?, hg]⟩
theorem own_set {w : World} {B : Nat} {e : TypeId} {g n cap : Nat} {xs : List Value} (h : w.ownsRow B e 1 (.slice (some ⟨g, 0, none⟩) n cap) n xs) (k : Nat) (_hk : k < n) (u : Value) :
    (w.setCell ⟨g, k, none⟩ u).ownsRow B e 1 (.slice (some ⟨g, 0, none⟩) n cap) n (xs.set k u) := by
  have hl := h.1
  refine ⟨by rw [List.length_set]; exact hl, ?_⟩
  rcases h.2 with ⟨e, _⟩ | ⟨g', cap', cur, hv, hb, hg, hnc, hcm, hcs, htake⟩
  · cases e
  · cases hv
    refine .inr ⟨g, cap, cur.setIfInBounds k u, rfl, hb, ?_, hnc, hcm, by simpa using hcs, ?_⟩
    · simp [World.setCell, Array.getElem?_modify, hg]
    · rw [← htake, Array.toList_setIfInBounds, List.take_set]

/-- Rows of different element types lie in different blocks. -/
theorem own_ne {w : World} {B B' : Nat} {e e' : TypeId} {size size' n n' : Nat} {v v' : Value} {xs xs' : List Value} (h : w.ownsRow B e size v n xs) (h' : w.ownsRow B' e' size' v' n' xs') (hne : e ≠ e') {g : Nat} (hg : v.ownBlock = some g) : v'.ownBlock ≠ some g := by
  intro hg'
  rcases h.2 with ⟨rfl, _⟩ | ⟨g1, c1, u1, rfl, _, hh, _⟩
  · simp [Value.ownBlock] at hg
  rcases h'.2 with ⟨rfl, _⟩ | ⟨g2, c2, u2, rfl, _, hh', _⟩
  · simp [Value.ownBlock] at hg'
  simp [Value.ownBlock] at hg hg'
  subst hg hg'
  rw [hh] at hh'
  injection hh' with hh'
  injection hh' with _ ht
  exact hne ht
theorem own_blk_ne {w : World} {B : Nat} {e t : TypeId} {size n g : Nat} {v : Value} {xs : List Value} {cs : Array Value} (h : w.ownsRow B e size v n xs) (hg : Blk w g t cs) (hne : e ≠ t) : v.ownBlock ≠ some g := by
  rcases h.2 with ⟨rfl, _⟩ | ⟨g', cap, cur, rfl, _, hh, _⟩
  · simp [Value.ownBlock]
  · intro he
    have : g' = g := by simpa [Value.ownBlock] using he
    subst this
    unfold Blk at hg
    rw [hh] at hg
    injection hg with hg
    injection hg with _ ht
    exact hne ht

/-! ### Step programs -/
/-- An access, and its result. -/
structure Acc where
  kind : Int
  bank : Int
  cell : Int
  bytes : ByteArray
structure Res where
  val : Int
  bytes : ByteArray
def Acc.v (a : Acc) : Value := .agg #[.int .i64 a.kind, .int .i64 a.bank, .int .i64 a.cell, .string a.bytes]
def Res.v (r : Res) : Value := .agg #[.int .i64 r.val, .string r.bytes]
def noBytes : ByteArray := { data := #[] }

/-- A step program: it ends with a value, or asks for an access and goes on with its result. -/
inductive Prg (α : Type) : Type where
  | ret (a : α)
  | ask (a : Acc) (k : Res → Prg α)

def Prg.bind {α β : Type} : Prg α → (α → Prg β) → Prg β
  | .ret a, f => f a
  | .ask a k, f => .ask a fun r => (k r).bind f
theorem Prg.bind_ret {α β : Type} (a : α) (f : α → Prg β) : (Prg.ret a).bind f = f a := rfl
theorem Prg.bind_ask {α β : Type} (a : Acc) (k : Res → Prg α) (f : α → Prg β) : (Prg.ask a k).bind f = .ask a fun r => (k r).bind f := rfl
theorem Prg.bind_assoc {α β γ : Type} (p : Prg α) (f : α → Prg β) (g : β → Prg γ) : (p.bind f).bind g = p.bind fun a => (f a).bind g := by
  induction p with
  | ret a => rfl
  | ask a k ih => simp only [Prg.bind]; congr 1; funext r; exact ih r

/-- How a step program comes out: with a value and a new state, or stopped. -/
def Prg.run {α σ ε : Type} (d : Acc → σ → EStateM.Result ε σ Res) : Prg α → σ → EStateM.Result ε σ α
  | .ret a, s => .ok a s
  | .ask a k, s => match d a s with
    | .ok r s' => (k r).run d s'
    | .error e s' => .error e s'

theorem Prg.run_bind_ok {α β σ ε : Type} {d : Acc → σ → EStateM.Result ε σ Res} {p : Prg α} {f : α → Prg β} {s s' : σ} {a : α} (h : p.run d s = .ok a s') : (p.bind f).run d s = (f a).run d s' := by
  induction p generalizing s with
  | ret b => cases h; rfl
  | ask b k ih =>
    simp only [Prg.run, Prg.bind] at h ⊢
    cases hd : d b s with
    | ok r s1 => rw [hd] at h; exact ih r h
    | error e s1 => rw [hd] at h; cases h
theorem Prg.run_bind_error {α β σ ε : Type} {d : Acc → σ → EStateM.Result ε σ Res} {p : Prg α} {f : α → Prg β} {s s' : σ} {e : ε} (h : p.run d s = .error e s') : (p.bind f).run d s = .error e s' := by
  induction p generalizing s with
  | ret b => cases h
  | ask b k ih =>
    simp only [Prg.run, Prg.bind] at h ⊢
    cases hd : d b s with
    | ok r s1 => rw [hd] at h; exact ih r h
    | error e s1 => rw [hd] at h; cases h; rfl

/-- Whatever the results of its accesses, the program ends with a value that meets R. -/
def Prg.All {α : Type} (R : α → Prop) : Prg α → Prop
  | .ret a => R a
  | .ask _ k => ∀ r, Prg.All R (k r)
theorem Prg.All.triv {α : Type} (p : Prg α) : Prg.All (fun _ => True) p := by
  induction p with
  | ret a => trivial
  | ask a k ih => exact fun r => ih r
theorem Prg.All.mono {α : Type} {R R' : α → Prop} {p : Prg α} (h : Prg.All R p) (hr : ∀ a, R a → R' a) : Prg.All R' p := by
  induction p with
  | ret a => exact hr a h
  | ask a k ih => exact fun r => ih r (h r)
theorem Prg.All.bind {α β : Type} {R : α → Prop} {R' : β → Prop} {p : Prg α} {f : α → Prg β} (h : Prg.All R p) (hf : ∀ a, R a → Prg.All R' (f a)) : Prg.All R' (p.bind f) := by
  induction p with
  | ret a => exact hf a h
  | ask a k ih => exact fun r => ih r (h r)

/-- Replay: the results come from a log; behind its end the first access stops the program. -/
def replay (log : List Res) (a : Acc) (i : Nat) : EStateM.Result Acc Nat Res :=
  match log[i]? with
  | some r => .ok r (i + 1)
  | none => .error a i
def Res.cells (r : Res) : List Value := [.int .i64 r.val, .string r.bytes]
def logCells (log : List Res) : List Value := log.flatMap Res.cells
theorem logCells_length (log : List Res) : (logCells log).length = log.length * 2 := by
  unfold logCells
  induction log with
  | nil => rfl
  | cons r l ih => rw [List.flatMap_cons, List.length_append, ih]; simp [Res.cells]; omega
theorem logCells_get (log : List Res) : ∀ i, (logCells log)[i * 2]? = (log[i]?).map (fun r => Value.int .i64 r.val) ∧ (logCells log)[i * 2 + 1]? = (log[i]?).map (fun r => Value.string r.bytes) := by
  unfold logCells
  induction log with
  | nil => intro i; simp
  | cons r l ih =>
    intro i
    cases i with
    | zero => simp [Res.cells]
    | succ i =>
      have := ih i
      rw [List.flatMap_cons]
      simp only [Res.cells, List.getElem?_cons_succ]
      rw [show (i + 1) * 2 = i * 2 + 1 + 1 from by omega]
      simpa using this

/-- What a call that carries out a step program leaves. -/
def StepPost {α σ ε : Type} (Inv : σ → (Nat → Prop) → World → Prop) (S X : Nat → Prop) (pan : ε → Value) (w : World) (val : α → Value) (r : EStateM.Result ε σ α) (e : Ending) (w' : World) : Prop :=
  match r with
  | .ok a s => e = .returned (val a) ∧ Inv s X w' ∧ Chg S w w'
  | .error er s => e = .panicked [{ v := pan er, recovered := false }] ∧ Inv s X w' ∧ Chg S w w'

section
variable {α σ ε : Type} {Inv : σ → (Nat → Prop) → World → Prop} {S X : Nat → Prop} {pan : ε → Value} {w w' : World} {val : α → Value} {r : EStateM.Result ε σ α} {e : Ending} {a : α} {s : σ} {er : ε}
theorem StepPost.ok (hr : r = .ok a s) (he : e = .returned (val a)) (hi : Inv s X w') (hc : Chg S w w') : StepPost Inv S X pan w val r e w' := by subst hr; exact ⟨he, hi, hc⟩
theorem StepPost.err (hr : r = .error er s) (he : e = .panicked [{ v := pan er, recovered := false }]) (hi : Inv s X w') (hc : Chg S w w') : StepPost Inv S X pan w val r e w' := by subst hr; exact ⟨he, hi, hc⟩
theorem StepPost.of_ok (hr : r = .ok a s) (h : StepPost Inv S X pan w val r e w') : e = .returned (val a) ∧ Inv s X w' ∧ Chg S w w' := by subst hr; exact h
theorem StepPost.of_err (hr : r = .error er s) (h : StepPost Inv S X pan w val r e w') : e = .panicked [{ v := pan er, recovered := false }] ∧ Inv s X w' ∧ Chg S w w' := by subst hr; exact h
end

/-- The function value 'do': what a call of it does, and what its state leans on. X: blocks that are the caller's own. -/
structure DoEnv {σ ε : Type} (P : Program) (F : FuncId) (caps : Array Value) (d : Acc → σ → EStateM.Result ε σ Res) (pan : ε → Value) (Inv : σ → (Nat → Prop) → World → Prop) (S : Nat → Prop) : Prop where
  call : ∀ (args : Array Value) (w : World), (callFunc F args).run P w = .ok (.enter F args) w
  step : ∀ a s X w, Inv s X w → Calls P F (#[a.v] ++ caps) w (StepPost Inv S X pan w Res.v (d a s))
  chg : ∀ s X w w', Inv s X w → Chg X w w' → Inv s X w'
  add : ∀ s X w w' g, Inv s X w → Chg X w w' → w.heap.size ≤ g → g < w'.heap.size → Inv s (fun k => X k ∨ k = g) w'
  weak : ∀ s X Y w, Inv s X w → (∀ k, Y k → X k) → Inv s Y w
  lt : ∀ s X w k, Inv s X w → X k → k < w.heap.size
  notS : ∀ s X w k, Inv s X w → X k → ¬ S k

/-- A slice that the call appends to while it calls 'do': its block is among those (Y) that 'do' leaves alone. -/
structure Mine {σ : Type} (Inv : σ → (Nat → Prop) → World → Prop) (X : Nat → Prop) (B : Nat) (e : TypeId) (size : Nat) (s : σ) (v : Value) (n : Nat) (xs : List Value) (w : World) : Prop where
  ex : ∃ Y : Nat → Prop, (∀ k, X k → Y k) ∧ (∀ g, v.ownBlock = some g → Y g) ∧ Inv s Y w
  own : w.ownsRow B e size v n xs
section
variable {P : Program} {F : FuncId} {caps : Array Value} {σ ε : Type} {d : Acc → σ → EStateM.Result ε σ Res} {pan : ε → Value} {Inv : σ → (Nat → Prop) → World → Prop} {S X : Nat → Prop}
  {B : Nat} {ty : TypeId} {size : Nat} {s : σ} {v : Value} {n : Nat} {xs : List Value} {w w' : World}
theorem Mine.nil (hi : Inv s X w) : Mine Inv X B ty size s (.slice none 0 0) 0 [] w := ⟨⟨X, fun _ h => h, fun g h => by simp [Value.ownBlock] at h, hi⟩, World.ownsRow_nil _ _ _ _⟩
theorem Mine.inv (E : DoEnv P F caps d pan Inv S) (h : Mine Inv X B ty size s v n xs w) : Inv s X w := by
  obtain ⟨Y, h1, _, h3⟩ := h.ex
  exact E.weak _ _ _ _ h3 h1
theorem Mine.ext (E : DoEnv P F caps d pan Inv S) (h : Mine Inv X B ty size s v n xs w) (hc : Ext w w') : Mine Inv X B ty size s v n xs w' := by
  obtain ⟨Y, h1, h2, h3⟩ := h.ex
  exact ⟨⟨Y, h1, h2, E.chg _ _ _ _ h3 (Ext.chg hc)⟩, ownsRow_ext h.own hc⟩
theorem Mine.app (E : DoEnv P F caps d pan Inv S) (h : Mine Inv X B ty size s v n xs w) {v' : Value} {n' : Nat} {xs' : List Value} (ho : w'.ownsRow B ty size v' n' xs') (hc : Chg (fun k => v.ownBlock = some k) w w')
    (hv : v'.ownBlock = v.ownBlock ∨ ∃ g, v'.ownBlock = some g ∧ w.heap.size ≤ g ∧ g < w'.heap.size) : Mine Inv X B ty size s v' n' xs' w' := by
  obtain ⟨Y, h1, h2, h3⟩ := h.ex
  have hcY : Chg Y w w' := hc.mono (fun k _ hk => h2 k hk)
  rcases hv with hv | ⟨g, hv, hg, hg'⟩
  · exact ⟨⟨Y, h1, fun k hk => h2 k (hv ▸ hk), E.chg _ _ _ _ h3 hcY⟩, ho⟩
  · refine ⟨⟨fun k => Y k ∨ k = g, fun k hk => .inl (h1 k hk), fun k hk => .inr ?_, E.add _ _ _ _ _ h3 hcY hg hg'⟩, ho⟩
    rw [hv] at hk
    injection hk with hk
    exact hk.symm
/-- A call of a step program, met with a contract for every X. -/
theorem Mine.step {α : Type} {val : α → Value} {r : EStateM.Result ε σ α} {f : FuncId} {args : Array Value} (E : DoEnv P F caps d pan Inv S) (h : Mine Inv X B ty size s v n xs w)
    (hf : ∀ Y, Inv s Y w → Calls P f args w (StepPost Inv S Y pan w val r)) :
    Calls P f args w (StepPost (fun s' X' w' => Mine Inv X' B ty size s' v n xs w') S X pan w val r) := by
  obtain ⟨Y, h1, h2, h3⟩ := h.ex
  refine (hf Y h3).mono ?_
  intro e w' hp
  cases r with
  | ok a s' =>
    obtain ⟨he, hi, hc⟩ := hp
    exact ⟨he, ⟨⟨Y, h1, h2, hi⟩, ownsRow_chg h.own hc (fun k hk => E.notS _ _ _ _ h3 (h2 k hk))⟩, hc⟩
  | error er s' =>
    obtain ⟨he, hi, hc⟩ := hp
    exact ⟨he, ⟨⟨Y, h1, h2, hi⟩, ownsRow_chg h.own hc (fun k hk => E.notS _ _ _ _ h3 (h2 k hk))⟩, hc⟩
end

end Go.Proofs.YtjemfefkgfoikaaDoor

/-
  SHA-256, HMAC and what is made of them, as plain functions of lists of bytes: no program in sight.
-/
namespace Go.Proofs.YtjemfefkgfoikaaDoor

def rotrW (x : UInt32) (n : UInt32) : UInt32 := (x >>> n) ||| (x <<< (32 - n))
def shaK : List UInt32 := [
  0x428a2f98, 0x71374491, 0xb5c0fbcf, 0xe9b5dba5, 0x3956c25b, 0x59f111f1, 0x923f82a4, 0xab1c5ed5,
  0xd807aa98, 0x12835b01, 0x243185be, 0x550c7dc3, 0x72be5d74, 0x80deb1fe, 0x9bdc06a7, 0xc19bf174,
  0xe49b69c1, 0xefbe4786, 0x0fc19dc6, 0x240ca1cc, 0x2de92c6f, 0x4a7484aa, 0x5cb0a9dc, 0x76f988da,
  0x983e5152, 0xa831c66d, 0xb00327c8, 0xbf597fc7, 0xc6e00bf3, 0xd5a79147, 0x06ca6351, 0x14292967,
  0x27b70a85, 0x2e1b2138, 0x4d2c6dfc, 0x53380d13, 0x650a7354, 0x766a0abb, 0x81c2c92e, 0x92722c85,
  0xa2bfe8a1, 0xa81a664b, 0xc24b8b70, 0xc76c51a3, 0xd192e819, 0xd6990624, 0xf40e3585, 0x106aa070,
  0x19a4c116, 0x1e376c08, 0x2748774c, 0x34b0bcb5, 0x391c0cb3, 0x4ed8aa4a, 0x5b9cca4f, 0x682e6ff3,
  0x748f82ee, 0x78a5636f, 0x84c87814, 0x8cc70208, 0x90befffa, 0xa4506ceb, 0xbef9a3f7, 0xc67178f2]
def shaH0 : List UInt32 := [0x6a09e667, 0xbb67ae85, 0x3c6ef372, 0xa54ff53a, 0x510e527f, 0x9b05688c, 0x1f83d9ab, 0x5be0cd19]
/-- The big-endian number of four bytes. -/
def beWord (l : List UInt8) : UInt32 := l.foldl (fun n b => (n <<< 8) ||| b.toUInt32) 0
/-- The message schedule's word i, given the words before it. -/
def schedNext (w : List UInt32) : UInt32 :=
  let i := w.length
  let x := w.getD (i - 15) 0
  let y := w.getD (i - 2) 0
  w.getD (i - 16) 0 + ((rotrW x 7 ^^^ rotrW x 18) ^^^ (x >>> 3)) + w.getD (i - 7) 0 + ((rotrW y 17 ^^^ rotrW y 19) ^^^ (y >>> 10))
/-- The first i words of the message schedule. -/
def schedAt (b : List UInt8) : Nat → List UInt32
  | 0 => []
  | i + 1 => schedAt b i ++ [if i < 16 then beWord ((b.drop (4 * i)).take 4) else schedNext (schedAt b i)]
def sched (b : List UInt8) : List UInt32 := schedAt b 64
theorem schedAt_length (b : List UInt8) (i : Nat) : (schedAt b i).length = i := by induction i with
  | zero => rfl
  | succ i ih => simp [schedAt, ih]
/-- One round. -/
def shaRound (v : List UInt32) (k w : UInt32) : List UInt32 :=
  let a := v.getD 0 0; let b := v.getD 1 0; let c := v.getD 2 0; let d := v.getD 3 0
  let e := v.getD 4 0; let f := v.getD 5 0; let g := v.getD 6 0; let h := v.getD 7 0
  let t := h + ((rotrW e 6 ^^^ rotrW e 11) ^^^ rotrW e 25) + ((e &&& f) ^^^ (~~~e &&& g)) + k + w
  let u := ((rotrW a 2 ^^^ rotrW a 13) ^^^ rotrW a 22) + (((a &&& b) ^^^ (a &&& c)) ^^^ (b &&& c))
  [t + u, a, b, c, d + t, e, f, g]
/-- The state after k rounds. -/
def roundsAt (b : List UInt8) (v : List UInt32) : Nat → List UInt32
  | 0 => v
  | k + 1 => shaRound (roundsAt b v k) (shaK.getD k 0) ((sched b).getD k 0)
def shaRounds (b : List UInt8) (v : List UInt32) : List UInt32 := roundsAt b v 64
theorem roundsAt_length (b : List UInt8) (v : List UInt32) (h : v.length = 8) (k : Nat) : (roundsAt b v k).length = 8 := by cases k with
  | zero => exact h
  | succ k => rfl
def shaBlock (v : List UInt32) (b : List UInt8) : List UInt32 := List.zipWith (· + ·) (shaRounds b v) v
def beBytes (n : Nat) : Nat → List UInt8
  | 0 => []
  | k + 1 => UInt8.ofNat (n / 256 ^ k) :: beBytes n k
def shaPad (m : List UInt8) : List UInt8 := m ++ [128] ++ List.replicate ((119 - m.length % 64) % 64) 0 ++ beBytes (8 * m.length) 8
def shaBlocks : Nat → List UInt32 → List UInt8 → List UInt32
  | 0, v, _ => v
  | n + 1, v, m => shaBlocks n (shaBlock v (m.take 64)) (m.drop 64)
def sha (m : List UInt8) : List UInt8 := (shaBlocks ((shaPad m).length / 64) shaH0 (shaPad m)).flatMap fun w => beBytes w.toNat 4
def hmac (key m : List UInt8) : List UInt8 :=
  let k := if key.length > 64 then sha key else key
  let pad := fun (x : UInt8) => (List.range 64).map fun i => k.getD i 0 ^^^ x
  sha (pad 0x5c ++ sha (pad 0x36 ++ m))
def mac (key m : List UInt8) : List UInt8 := (hmac key m).take 16

theorem sha_nil : (sha []).take 4 = [0xe3, 0xb0, 0xc4, 0x42] := by decide +kernel
theorem sha_abc : (sha [97, 98, 99]).take 4 = [0xba, 0x78, 0x16, 0xbf] := by decide +kernel

end Go.Proofs.YtjemfefkgfoikaaDoor

/-
  The model's arithmetic on uint32 and bytes, as Lean's UInt32 and UInt8 have it.
-/
namespace Go.Proofs.YtjemfefkgfoikaaDoor
open Go.RowKit

theorem lt32 (a : UInt32) : 0 ≤ (a.toNat : Int) ∧ (a.toNat : Int) < 4294967296 := by have := a.toNat_lt; omega
theorem lt8 (a : UInt8) : 0 ≤ (a.toNat : Int) ∧ (a.toNat : Int) < 256 := by have := a.toNat_lt; omega
theorem or32 (a b : UInt32) : bits BinOp.or IntKind.u32 (a.toNat : Int) (b.toNat : Int) = ((a ||| b).toNat : Int) := by
  rw [u32_or _ _ (lt32 a).1 (lt32 a).2 (lt32 b).1 (lt32 b).2]; simp
theorem and32 (a b : UInt32) : bits BinOp.and IntKind.u32 (a.toNat : Int) (b.toNat : Int) = ((a &&& b).toNat : Int) := by
  rw [u32_and _ _ (lt32 a).1 (lt32 a).2 (lt32 b).1 (lt32 b).2]; simp
theorem xor32 (a b : UInt32) : bits BinOp.xor IntKind.u32 (a.toNat : Int) (b.toNat : Int) = ((a ^^^ b).toNat : Int) := by
  rw [u32_xor _ _ (lt32 a).1 (lt32 a).2 (lt32 b).1 (lt32 b).2]; simp
theorem add32 (a b : UInt32) : ((a.toNat : Int) + (b.toNat : Int)) % 4294967296 = ((a + b).toNat : Int) := by
  rw [UInt32.toNat_add]; omega
theorem xor8 (a b : UInt8) : bits BinOp.xor IntKind.u8 (a.toNat : Int) (b.toNat : Int) = ((a ^^^ b).toNat : Int) := by
  rw [u8_xor _ _ (lt8 a).1 (lt8 a).2 (lt8 b).1 (lt8 b).2]; simp
theorem shr32 (a : UInt32) (n : Nat) (hn : n < 32) : (a.toNat : Int) / 2 ^ n = ((a >>> UInt32.ofNat n).toNat : Int) := by
  rw [UInt32.toNat_shiftRight, Nat.shiftRight_eq_div_pow]
  have : (UInt32.ofNat n).toNat % 32 = n := by simp; omega
  rw [this]
  simp
theorem shl32 (a : UInt32) (n : Nat) (hn : n < 32) : (a.toNat : Int) * 2 ^ n % 4294967296 = ((a <<< UInt32.ofNat n).toNat : Int) := by
  rw [UInt32.toNat_shiftLeft, Nat.shiftLeft_eq]
  have : (UInt32.ofNat n).toNat % 32 = n := by simp; omega
  rw [this]
  simp

theorem addW (a b : UInt32) : IntKind.u32.wrap ((a.toNat : Int) + (b.toNat : Int)) = ((a + b).toNat : Int) := by rw [IntKind.wrap_u32]; exact add32 a b
theorem not32 (a : UInt32) : bits BinOp.xor IntKind.u32 IntKind.u32.max (a.toNat : Int) = ((~~~a).toNat : Int) := by
  rw [show IntKind.u32.max = (((-1 : UInt32)).toNat : Int) from rfl, xor32, UInt32.neg_one_xor]

end Go.Proofs.YtjemfefkgfoikaaDoor

/-
  Words: rotations.
-/
namespace Go.Proofs.YtjemfefkgfoikaaDoor
open Go.RowKit

def w32 (x : UInt32) : Value := .int .u32 (x.toNat : Int)

theorem neg_and31 (n : Nat) (hn : 0 < n) (hn2 : n < 32) : bits BinOp.and IntKind.u64 (IntKind.u64.wrap (-(n : Int))) 31 = ((32 - n : Nat) : Int) := by
  have h : IntKind.u64.wrap (-(n : Int)) = ((18446744073709551616 - n : Nat) : Int) := by
    rw [IntKind.wrap_u64]; omega
  rw [h, u64_and _ _ (by omega) (by omega) (by omega) (by omega)]
  rw [Int.toNat_natCast, show (31 : Int).toNat = 2 ^ 5 - 1 from rfl, Nat.and_two_pow_sub_one_eq_mod]
  omega
theorem rot_eq (x : UInt32) (n : Nat) (hn : 0 < n) (hn2 : n < 32) : bits BinOp.or IntKind.u32 ((x.toNat : Int) * 2 ^ (32 - n) % 4294967296) ((x.toNat : Int) / 2 ^ n) = ((rotrW x (UInt32.ofNat n)).toNat : Int) := by
  rw [shl32 x (32 - n) (by omega), shr32 x n hn2, or32]
  unfold rotrW
  have e : UInt32.ofNat (32 - n) = 32 - UInt32.ofNat n := by
    apply UInt32.toNat_inj.1
    rw [UInt32.toNat_sub]
    simp
    omega
  rw [e, UInt32.or_comm]

theorem rotl_any (x : UInt32) (n : Nat) (w : World) (hn : 0 < n) (hn2 : n < 32) :
    Calls Tryd.prog 97 #[.int .u32 (x.toNat : Int), .int .i64 (-(n : Int))] w fun e w' => e = .returned (.int .u32 ((rotrW x (UInt32.ofNat n)).toNat : Int)) ∧ w = w' := by
  have h0 := hide (rot_eq x n hn hn2)
  have hx := x.toNat_lt
  have h1 := neg_and31 n hn hn2
  have h2 : IntKind.u64.wrap (32 - ((32 - n : Nat) : Int)) = (n : Int) := by
    rw [show (32 : Int) - ((32 - n : Nat) : Int) = (n : Int) by omega]
    exact IntWalk.u64_in _ (by omega)
  go_enter Tryd.func97, Tryd.ntmps97
  go_wp2
  go_ret
  exact ⟨ret_int (unhide h0), rfl⟩

/-- sha.rotr: several rotations, combined. -/
def rotXor (x : UInt32) (ns : List Nat) : UInt32 := ns.foldl (fun o n => o ^^^ rotrW x (UInt32.ofNat n)) 0
theorem take_step {α : Type} (l : List α) (k : Nat) (h : k < l.length) : l.take (k + 1) = l.take k ++ [l[k]] := by rw [List.take_add_one, List.getElem?_eq_getElem h]; rfl
theorem rotXor_step (x : UInt32) (ns : List Nat) (k : Nat) (h : k < ns.length) : rotXor x (ns.take (k + 1)) = rotXor x (ns.take k) ^^^ rotrW x (UInt32.ofNat ns[k]) := by
  rw [take_step ns k h]; unfold rotXor; rw [List.foldl_append]; rfl

set_option maxHeartbeats 400000 in
theorem rotr_any (x : UInt32) (ns : List Nat) (v : Value) (w : World) (h : Reads w 1 v ns.length (ns.map fun n : Nat => Value.int .i64 (n : Int))) (hn : ∀ n ∈ ns, 0 < n ∧ n < 32) :
    Calls Tryd.prog 90 #[.int .u32 (x.toNat : Int), v] w fun e w' => e = .returned (.int .u32 ((rotXor x ns).toNat : Int)) ∧ w = w' := by
  have HH := hide h
  have hm := h.len_le
  unfold maxLen at hm
  obtain ⟨_, B, c, rfl, _, _, _⟩ := h
  go_enter Tryd.func90, Tryd.ntmps90
  go_wp2
  go_loop [5, 10] (fun o i => ∃ k : Nat, k ≤ ns.length ∧ i = .int .i64 k ∧ o = .int .u32 ((rotXor x (ns.take k)).toNat : Int)) (fun _ i => ns.length - (intOf i).toNat)
  case atStart => exact ⟨0, Nat.zero_le _, rfl, rfl⟩
  case round =>
    obtain ⟨k, hk, rfl, rfl⟩ := hrel
    by_cases hlt : k < ns.length
    · obtain ⟨b, o, c', u, hv, _, _, hb, hu, hc1⟩ := (unhide HH).at1 hlt
      cases hv
      rw [List.getElem?_map, List.getElem?_eq_getElem hlt] at hu
      cases hu
      obtain ⟨n1, n2⟩ := hn _ (List.getElem_mem hlt)
      have HS := hide (rotXor_step x ns k hlt)
      have HX := hide (xor32 (rotXor x (ns.take k)) (rotrW x (UInt32.ofNat ns[k])))
      dsimp only at hc1
      have HR := hide (fun w => rotl_any x ns[k] w n1 n2)
      generalize ns[k] = n at *
      generalize rotXor x (ns.take k) = acc at *
      have e1 : IntKind.i64.wrap (-(n : Int)) = -(n : Int) := IntWalk.i64_in _ (by omega)
      go_wp2_with fail
      refine (unhide HR _).mono ?_
      rintro e w' ⟨rfl, rfl⟩
      go_wp2
      go_round
      case rel => exact ⟨k + 1, by omega, by go_num, int_eq (by rw [unhide HS]; exact unhide HX)⟩
      case measure => simp [intOf]; omega
    · obtain rfl : k = ns.length := by omega
      have HT := hide (show rotXor x (ns.take ns.length) = rotXor x ns by rw [List.take_length])
      go_wp2
      go_ret
      exact ⟨ret_int (by first | rfl | rw [unhide HT]), rfl⟩

end Go.Proofs.YtjemfefkgfoikaaDoor

/-
  A slice of the call's own that is appended to again and again: what else may have changed.
-/
namespace Go.Proofs.YtjemfefkgfoikaaDoor
open Go.RowKit

/-- From (w, v) to (w', v'): of the blocks that were there only v's own has changed; v' lies there or in a new block. -/
structure Onto (w : World) (v : Value) (w' : World) (v' : Value) : Prop where
  chg : Chg (fun k => v.ownBlock = some k) w w'
  own : v'.ownBlock = v.ownBlock ∨ ∃ g, v'.ownBlock = some g ∧ w.heap.size ≤ g
theorem Onto.refl (w : World) (v : Value) : Onto w v w v := ⟨Chg.refl _ _, .inl rfl⟩
theorem Onto.trans {a b c : World} {u v x : Value} (h : Onto a u b v) (k : Onto b v c x) : Onto a u c x := by
  refine ⟨h.chg.trans' k.chg (fun _ _ h => h) (fun i hi e => ?_), ?_⟩
  · rcases h.own with h1 | ⟨g, h1, h2⟩
    · rw [← h1]; exact e
    · rw [h1] at e; cases e; omega
  · rcases k.own with h1 | ⟨g, h1, h2⟩
    · rw [h1]; exact h.own
    · exact .inr ⟨g, h1, Nat.le_trans h.chg.size h2⟩
theorem Onto.ext {a b c : World} {u v : Value} (h : Onto a u b v) (k : Ext b c) : Onto a u c v := ⟨h.chg.ext k, h.own⟩
theorem Onto.of_ext {a b : World} {v : Value} (k : Ext a b) : Onto a v b v := ⟨k.chg, .inl rfl⟩
theorem Onto.app {w w' : World} {v v' : Value} (hc : Chg (fun k => v.ownBlock = some k) w w') (hv : v'.ownBlock = v.ownBlock ∨ ∃ g, v'.ownBlock = some g ∧ w.heap.size ≤ g ∧ g < w'.heap.size) : Onto w v w' v' :=
  ⟨hc, hv.imp id fun ⟨g, h1, h2, _⟩ => ⟨g, h1, h2⟩⟩
/-- A row whose block is new is no one else's. -/
theorem Onto.to_ext {w w' : World} {v' : Value} {n c : Nat} (h : Onto w (.slice none n c) w' v') : Ext w w' := h.chg.mono (fun k _ e => by simp [Value.ownBlock] at e)
theorem Onto.new_ext {w0 w w' : World} {v v' : Value} (h0 : Ext w0 w) (h : Onto w v w' v') (hv : ∀ g, v.ownBlock = some g → w0.heap.size ≤ g) : Ext w0 w' :=
  h0.trans' h.chg (fun _ _ h => h) (fun i hi e => by have := hv i e; omega)

end Go.Proofs.YtjemfefkgfoikaaDoor

/-
  sha.load, sha.store.
-/
namespace Go.Proofs.YtjemfefkgfoikaaDoor
open Go.RowKit

def u8v (b : UInt8) : Value := .int .u8 (b.toNat : Int)
theorem beWord_step (l : List UInt8) (k : Nat) (h : k < l.length) : beWord (l.take (k + 1)) = (beWord (l.take k) <<< 8) ||| l[k].toUInt32 := by
  rw [take_step l k h]; unfold beWord; rw [List.foldl_append]; rfl
theorem conv32 (b : UInt8) : (b.toNat : Int) = (b.toUInt32.toNat : Int) := by simp

set_option maxHeartbeats 400000 in
theorem load_any (l : List UInt8) (v : Value) (w : World) (h : Reads w 1 v l.length (l.map u8v)) :
    Calls Tryd.prog 89 #[v] w fun e w' => e = .returned (.int .u32 ((beWord l).toNat : Int)) ∧ w = w' := by
  have HH := hide h
  have hm := h.len_le
  unfold maxLen at hm
  obtain ⟨_, B, c, rfl, _, _, _⟩ := h
  go_enter Tryd.func89, Tryd.ntmps89
  go_wp2
  go_loop [3, 8] (fun o i => ∃ k : Nat, k ≤ l.length ∧ i = .int .i64 k ∧ o = .int .u32 ((beWord (l.take k)).toNat : Int)) (fun _ i => l.length - (intOf i).toNat)
  case atStart => exact ⟨0, Nat.zero_le _, rfl, rfl⟩
  case round =>
    obtain ⟨k, hk, rfl, rfl⟩ := hrel
    by_cases hlt : k < l.length
    · obtain ⟨b, o, c', u, hv, _, _, hb, hu, hc1⟩ := (unhide HH).at1 hlt
      cases hv
      rw [List.getElem?_map, List.getElem?_eq_getElem hlt] at hu
      cases hu
      unfold u8v at hc1
      have HS := hide (beWord_step l k hlt)
      generalize l[k] = z at *
      generalize beWord (l.take k) = acc at *
      have hz := z.toNat_lt
      have ha := acc.toNat_lt
      have HX := hide (show bits BinOp.or IntKind.u32 ((acc.toNat : Int) * 2 ^ 8 % 4294967296) (z.toNat : Int) = ((acc <<< 8 ||| z.toUInt32).toNat : Int) from by rw [shl32 acc 8 (by omega), conv32, or32]; rfl)
      go_wp2

      go_round
      case rel => exact ⟨k + 1, by omega, by go_num, int_eq (by rw [unhide HS]; exact unhide HX)⟩
      case measure => simp [intOf]; omega
    · obtain rfl : k = l.length := by omega
      have HT := hide (show beWord (l.take l.length) = beWord l by rw [List.take_length])
      go_wp2
      go_ret
      exact ⟨ret_int (by first | rfl | rw [unhide HT]), rfl⟩

theorem u8_row : SlTy Tryd.prog 41 5 1 1 := SlTy.mk' (z := .int .u8 0) (by kernel_rfl) (by kernel_rfl) rfl (by omega) (by omega)
/-- The k bytes below 256 ^ k of n, the highest first; what is left of them. -/
theorem beBytes_length (n k : Nat) : (beBytes n k).length = k := by induction k with
  | zero => rfl
  | succ k ih => unfold beBytes; simp [ih]

theorem beBytes_get (n : Nat) : ∀ (many j : Nat), j < many → (beBytes n many)[j]? = some (UInt8.ofNat (n / 256 ^ (many - 1 - j)))
  | 0, j, h => by omega
  | many + 1, 0, h => by simp [beBytes]
  | many + 1, j + 1, h => by
    rw [beBytes, List.getElem?_cons_succ, beBytes_get n many j (by omega), show many + 1 - 1 - (j + 1) = many - 1 - j from by omega]
theorem beBytes_step (n many k : Nat) (h0 : 0 < k) (hk : k ≤ many) : (beBytes n many).take (many - (k - 1)) = (beBytes n many).take (many - k) ++ [UInt8.ofNat (n / 256 ^ (k - 1))] := by
  rw [show many - (k - 1) = many - k + 1 from by omega, List.take_add_one, beBytes_get n many (many - k) (by omega), show many - 1 - (many - k) = k - 1 from by omega]
  rfl
theorem byte_of (n k : Nat) : (n : Int) / 2 ^ (8 * k) % 256 = ((UInt8.ofNat (n / 256 ^ k)).toNat : Int) := by
  rw [show (2 : Int) ^ (8 * k) = ((256 ^ k : Nat) : Int) from by rw [Int.pow_mul]; simp]
  simp

set_option maxHeartbeats 1000000 in
theorem store_any (v : Value) (m : Nat) (xs : List Value) (n : Nat) (many : Nat) (B : Nat) (w : World) (h : w.ownsRow B 5 1 v m xs) (hB : B ≤ w.heap.size) (hm : m ≤ 1000000000) (h8 : many ≤ 8) :
    Calls Tryd.prog 71 #[v, .int .u64 (n : Int), .int .i64 (many : Int)] w fun e w' => ∃ v', e = .returned v' ∧ w'.ownsRow B 5 1 v' (m + many) (xs ++ (beBytes n many).map u8v) ∧ Onto w v w' v' := by
  have H0 := hide h
  clear h
  go_enter Tryd.func71, Tryd.ntmps71
  go_wp2
  go_loopw [0, 7] (fun b i wr => ∃ (k : Nat), k ≤ many ∧ i = .int .i64 ((k : Int) - 1) ∧ Hid (wr.ownsRow B 5 1 b (m + (many - k)) (xs ++ ((beBytes n many).take (many - k)).map u8v) ∧ Onto w v wr b)) (fun _ i _ => (intOf i + 1).toNat)
  case atStart => exact ⟨many, Nat.le_refl _, rfl, hide ⟨by rw [Nat.sub_self]; simpa using unhide H0, Onto.refl _ _⟩⟩
  case round =>
    obtain ⟨k, hk, rfl, HR⟩ := hrel
    by_cases hk0 : 0 < k
    · have e0 : (0 : Int) ≤ (k : Int) - 1 := by omega
      have e1 : IntKind.i64.wrap (8 * ((k : Int) - 1)) = ((8 * (k - 1) : Nat) : Int) := by rw [IntWalk.i64_in _ (by omega)]; omega
      have hb := byte_of n (k - 1)
      have HX := hide (beBytes_step n many k hk0 hk)
      generalize UInt8.ofNat (n / 256 ^ (k - 1)) = z at *
      have hsz : Hid (B ≤ wr.heap.size) := hide (Nat.le_trans hB (unhide HR).2.chg.size)
      go_wp2_with (at_builtin; refine wpList_app rfl rfl u8_row rfl (ownsRow_ext (unhide HR).1 ((Ext.refl _).alloc _)) rfl (Reads.new1 _ _ _) (AllOne.one rfl) (by omega) (Nat.le_trans (unhide hsz) (by simp)) ?_; intro A' c' w2 ho hc hv)
      have HQ := hide (And.intro ho (((unhide HR).2.ext ((Ext.refl wr).alloc _)).trans (Onto.app hc hv)))
      clear ho hc hv
      go_wp2
      go_roundw
      case rel => exact ⟨k - 1, by omega, by go_num, hide ⟨by rw [unhide HX, List.map_append, ← List.append_assoc, show m + (many - (k - 1)) = m + (many - k) + 1 from by omega]; exact (unhide HQ).1, (unhide HQ).2⟩⟩
      case measure => simp [intOf]; omega
    · obtain rfl : k = 0 := by omega
      go_wp2
      go_ret
      have h1 := (unhide HR).1
      rw [Nat.sub_zero, List.take_of_length_le (by rw [beBytes_length]; exact Nat.le_refl _)] at h1
      exact ⟨_, rfl, h1, (unhide HR).2⟩

theorem store_lit (v : Value) (m : Nat) (xs : List Value) (n : Nat) (many : Nat) (B : Nat) (w : World) (nI mI : Int) (e1 : nI = (n : Int)) (e2 : mI = (many : Int)) (h : w.ownsRow B 5 1 v m xs) (hB : B ≤ w.heap.size) (hm : m ≤ 1000000000) (_ : n < 18446744073709551616) (h8 : many ≤ 8) :
    Calls Tryd.prog 71 #[v, .int .u64 nI, .int .i64 mI] w fun e w' => ∃ A c, e = .returned (.slice A (m + many) c) ∧ w'.ownsRow B 5 1 (.slice A (m + many) c) (m + many) (xs ++ (beBytes n many).map u8v) ∧ Onto w v w' (.slice A (m + many) c) := by
  subst e1 e2
  refine (store_any v m xs n many B w h hB hm h8).mono ?_
  rintro e w' ⟨v', rfl, h1, h2⟩
  obtain ⟨A, c, rfl⟩ := own_slice h1
  exact ⟨A, c, rfl, h1, h2⟩

end Go.Proofs.YtjemfefkgfoikaaDoor

/-
  slices.Clone of bytes.
-/
namespace Go.Proofs.YtjemfefkgfoikaaDoor
open Go.RowKit

theorem AllOne.u8 (l : List UInt8) : AllOne (l.map u8v) := AllOne.map (fun _ => rfl) l

set_option maxHeartbeats 400000 in
theorem clone_any (v : Value) (l : List UInt8) (w : World) (h : Reads w 1 v l.length (l.map u8v)) (hn : l.length ≤ 1000000000) :
    Calls Tryd.prog 70 #[v] w fun e w' => ∃ v', e = .returned v' ∧ w'.ownsRow w.heap.size 5 1 v' l.length (l.map u8v) ∧ Ext w w' := by
  have HH := hide h
  obtain ⟨hl, A, c, rfl, _, _, hp⟩ := h
  rcases A with _ | a
  · have h0 : l = [] := by
      cases l with
      | nil => rfl
      | cons x l =>
        obtain ⟨b, o, e, _⟩ := hp (by simp)
        cases e
    subst h0
    clear hl hp
    simp only [List.length_nil]
    have hnil := fun w => Lib.run_eql_slice_nil (P := Tryd.prog) w 41 5 none 0 c 0 0 Tryd.underlying41
    go_enter Tryd.func70, Tryd.ntmps70
    go_wp2
    go_ret
    exact ⟨_, rfl, World.ownsRow_nil _ _ _ _, Ext.refl _⟩
  · clear hl hp
    have hnil := fun w => Lib.run_eql_slice_nil (P := Tryd.prog) w 41 5 (some a) l.length c 0 0 Tryd.underlying41
    go_enter Tryd.func70, Tryd.ntmps70
    go_wp2_with (at_builtin; refine wpList_app rfl rfl u8_row rfl (own_empty _ w.heap.size _ _ (Nat.le_refl _)) rfl ((unhide HH).ext ((Ext.refl w).alloc _)) (AllOne.u8 l) (by omega) (by simp) ?_; intro A' c' w2 ho hc hv)
    have HQ := hide (And.intro ho (And.intro hc hv))
    clear ho hc hv
    go_wp2
    go_ret
    obtain ⟨ho, hc, hv⟩ := unhide HQ
    refine ⟨_, rfl, by simpa using ho, ?_⟩
    exact ((Ext.refl w).alloc (.cells #[] 5)).trans' hc (fun _ _ h => h) (fun i hi e => by cases e; exact absurd hi (Nat.lt_irrefl _))

end Go.Proofs.YtjemfefkgfoikaaDoor

/-
  Structs and arrays of many cells, loaded and stored whole: one step each, whatever their width.
-/
namespace Go.Proofs.YtjemfefkgfoikaaDoor
open Go.RowKit

structure Wide (P : Program) (ty : TypeId) (n : Nat) : Prop where
  und : ∃ d, P.underlying ty = some d ∧ d.isRow = true
  info : (P.info? ty).map (·.size) = some n

/-- n cells of block g from offset o on are written. -/
theorem Blk.range {w : World} {g : Nat} {t : TypeId} {cs : Array Value} (h : Blk w g t cs) : w.rangeAt g 0 cs.toList := fun j v hv => by
  rw [Nat.zero_add, h.cell]
  simpa using hv
theorem Blk.there_ {w : World} {g : Nat} {t : TypeId} {cs : Array Value} (h : Blk w g t cs) : w.there g 0 cs.size := fun j hj => by
  rw [Nat.zero_add, h.cell, h.frozen]
  simp [hj]
theorem heap_setCells_other (b : Nat) : ∀ (vs : List Value) (o : Nat) (w : World) (k : Nat), k ≠ b → (w.setCells b o vs).heap[k]? = w.heap[k]? := by
  intro vs
  induction vs with
  | nil => intro o w k hk; rfl
  | cons v vs ih =>
    intro o w k hk
    show ((w.setCell ⟨b, o, none⟩ v).setCells b (o + 1) vs).heap[k]? = _
    rw [ih _ _ _ hk, Below.heap_setCell _ _ _ _ hk]
theorem setCells_chg (b : Nat) : ∀ (vs : List Value) (o : Nat) (w : World), Chg (fun k => k = b) w (w.setCells b o vs) ∧ (w.setCells b o vs).heap.size = w.heap.size := by
  intro vs
  induction vs with
  | nil => intro o w; exact ⟨Chg.refl _ _, rfl⟩
  | cons v vs ih =>
    intro o w
    have h := ih (o + 1) (w.setCell ⟨b, o, none⟩ v)
    refine ⟨(Chg.setCell (S := fun k => k = b) (p := ⟨b, o, none⟩) (Chg.refl _ _) (.inl rfl) v).trans h.1, ?_⟩
    show ((w.setCell ⟨b, o, none⟩ v).setCells b (o + 1) vs).heap.size = _
    rw [h.2]
    simp [World.setCell]
theorem setCells_blk (b : Nat) (t : TypeId) : ∀ (vs : List Value) (pre : List Value) (old : List Value) (w : World), old.length = vs.length → Blk w b t (pre ++ old).toArray → Blk (w.setCells b pre.length vs) b t (pre ++ vs).toArray := by
  intro vs
  induction vs with
  | nil => intro pre old w hl h; cases old with | nil => exact h | cons => simp at hl
  | cons v vs ih =>
    intro pre old w hl h
    cases old with
    | nil => simp at hl
    | cons x old =>
      have h1 := h.set_ pre.length v
      have e : (pre ++ x :: old).toArray.setIfInBounds pre.length v = ((pre ++ [v]) ++ old).toArray := by simp
      rw [e] at h1
      have := ih (pre ++ [v]) old (w.setCell ⟨b, pre.length, none⟩ v) (by simpa using hl) h1
      simp only [List.length_append, List.length_cons, List.length_nil, Nat.zero_add, List.append_assoc, List.singleton_append] at this
      exact this
theorem store_blk {w : World} {g : Nat} {t : TypeId} {old cs : Array Value} (h : Blk w g t old) (hs : old.size = cs.size) : Blk (w.setCells g 0 cs.toList) g t cs := by
  have := setCells_blk g t cs.toList [] old.toList w (by simpa using hs) (by simpa using h)
  simpa using this

section
variable {P : Program}
theorem wp_loadB {o : Oper} {a : Act} {w : World} {K : Act → World → Prop} {Q : Exit → Act → World → Prop} {ty : TypeId} {x : Operand} (ho : o.op = .load ty x) {n : Nat} (W : Wide P ty n)
    {g : Nat} (hx : a.eval x = .pointer (some ⟨g, 0, none⟩)) {t : TypeId} {cs : Array Value} (hB : Blk w g t cs) (hn : cs.size = n) (h : K (a.put o.dst (.agg cs)) w) : o.wp P a w K Q := by
  obtain ⟨d, hu, hd⟩ := W.und
  refine wp_load_mid ty x ho g 0 hx cs.toList d hB.range hu hd (by rw [Array.length_toList, hn]; exact W.info) ?_
  rw [Array.toArray_toList]
  exact h
theorem wpList_loadB {ops : Array Oper} {rest : List Oper} {o : Oper} {a : Act} {w : World} {Q : Exit → Act → World → Prop} (hgd : o.guard = none) {ty : TypeId} {x : Operand} (ho : o.op = .load ty x) {n : Nat} (W : Wide P ty n)
    {g : Nat} (hx : a.eval x = .pointer (some ⟨g, 0, none⟩)) {t : TypeId} {cs : Array Value} (hB : Blk w g t cs) (hn : cs.size = n) (h : wpList P ops Q rest (a.put o.dst (.agg cs)) w) : wpList P ops Q (o :: rest) a w :=
  wpList_plain hgd fun _ hK => wp_loadB ho W hx hB hn (hK _ _ h)
theorem step_loadB {ops : Array Oper} {o : Oper} {a : Act} {w : World} {K : Act → World → Prop} {Q : Exit → Act → World → Prop} {E : Prop} (hgd : o.guard = none) {ty : TypeId} {x : Operand} (ho : o.op = .load ty x) {n : Nat} (W : Wide P ty n)
    {g : Nat} (hx : a.eval x = .pointer (some ⟨g, 0, none⟩)) {t : TypeId} {cs : Array Value} (hB : Blk w g t cs) (hn : cs.size = n) (h : K (a.put o.dst (.agg cs)) w) : if Region.wanted o (yielded ops a.tmps) = true then Oper.wp P o a w K Q else E := by
  have hw : Region.wanted o (yielded ops a.tmps) = true := by simp [Region.wanted, hgd]
  rw [if_pos hw]
  exact wp_loadB ho W hx hB hn h
theorem wp_storeB {o : Oper} {a : Act} {w : World} {K : Act → World → Prop} {Q : Exit → Act → World → Prop} {ty : TypeId} {x y : Operand} (ho : o.op = .store ty x y) {n : Nat} (W : Wide P ty n)
    {g : Nat} (hx : a.eval x = .pointer (some ⟨g, 0, none⟩)) {cs : Array Value} (hy : a.eval y = .agg cs) {t : TypeId} {old : Array Value} (hB : Blk w g t old) (ho2 : old.size = n) (hn : cs.size = n) (h1 : cs.all (·.oneCell') = true)
    (h : ∀ w', Blk w' g t cs → Chg (fun k => k = g) w w' → w'.heap.size = w.heap.size → K (a.put o.dst undef) w') : o.wp P a w K Q := by
  refine wp_store_mid ty x y ho g 0 cs hx hy (by rw [show cs.size = old.size from by omega]; exact hB.there_) (by rw [hn]; exact W.info) h1 ?_
  exact h _ (store_blk hB (by omega)) (setCells_chg g cs.toList 0 w).1 (setCells_chg g cs.toList 0 w).2
theorem wpList_storeB {ops : Array Oper} {rest : List Oper} {o : Oper} {a : Act} {w : World} {Q : Exit → Act → World → Prop} (hgd : o.guard = none) {ty : TypeId} {x y : Operand} (ho : o.op = .store ty x y) {n : Nat} (W : Wide P ty n)
    {g : Nat} (hx : a.eval x = .pointer (some ⟨g, 0, none⟩)) {cs : Array Value} (hy : a.eval y = .agg cs) {t : TypeId} {old : Array Value} (hB : Blk w g t old) (ho2 : old.size = n) (hn : cs.size = n) (h1 : cs.all (·.oneCell') = true)
    (h : ∀ w', Blk w' g t cs → Chg (fun k => k = g) w w' → w'.heap.size = w.heap.size → wpList P ops Q rest (a.put o.dst undef) w') : wpList P ops Q (o :: rest) a w :=
  wpList_plain hgd fun _ hK => wp_storeB ho W hx hy hB ho2 hn h1 fun w' h2 h3 h4 => hK _ _ (h w' h2 h3 h4)
theorem step_storeB {ops : Array Oper} {o : Oper} {a : Act} {w : World} {K : Act → World → Prop} {Q : Exit → Act → World → Prop} {E : Prop} (hgd : o.guard = none) {ty : TypeId} {x y : Operand} (ho : o.op = .store ty x y) {n : Nat} (W : Wide P ty n)
    {g : Nat} (hx : a.eval x = .pointer (some ⟨g, 0, none⟩)) {cs : Array Value} (hy : a.eval y = .agg cs) {t : TypeId} {old : Array Value} (hB : Blk w g t old) (ho2 : old.size = n) (hn : cs.size = n) (h1 : cs.all (·.oneCell') = true)
    (h : ∀ w', Blk w' g t cs → Chg (fun k => k = g) w w' → w'.heap.size = w.heap.size → K (a.put o.dst undef) w') : if Region.wanted o (yielded ops a.tmps) = true then Oper.wp P o a w K Q else E := by
  have hw : Region.wanted o (yielded ops a.tmps) = true := by simp [Region.wanted, hgd]
  rw [if_pos hw]
  exact wp_storeB ho W hx hy hB ho2 hn h1 h
end

/-! ### The same as rules of the walk: a block's cells as one term -/
def blkOf (w : World) (g : Nat) : Array Value := match w.heap[g]? with | some (.cells cs _ (0, 0)) => cs | _ => #[]
def setBlk (w : World) (g : Nat) (cs : Array Value) : World := w.setCells g 0 cs.toList
theorem Blk.blkOf {w : World} {g : Nat} {t : TypeId} {cs : Array Value} (h : Blk w g t cs) : blkOf w g = cs := by
  unfold Blk at h
  unfold Proofs.YtjemfefkgfoikaaDoor.blkOf
  rw [h]
  rfl
theorem blk_of_size {w : World} {g n : Nat} (h : (blkOf w g).size = n) (hn : n ≠ 0) : ∃ t, Blk w g t (blkOf w g) := by
  unfold blkOf at h ⊢
  split at h
  · rename_i cs t e
    refine ⟨t, ?_⟩
    unfold Blk
    rw [e]
  · exact absurd h.symm hn
theorem load_blk {P : Program} {ty : TypeId} {n : Nat} (W : Wide P ty n) (hn : n ≠ 0) (w : World) (g : Nat) (h : (blkOf w g).size = n) : (Instr.loadAt ty (.pointer (some ⟨g, 0, none⟩))).run P w = .ok (.agg (blkOf w g)) w := by
  obtain ⟨t, hB⟩ := blk_of_size h hn
  obtain ⟨d, hu, hd⟩ := W.und
  have := run_loadAt_mid (P := P) w g 0 ty (blkOf w g).toList d hB.range hu hd (by rw [Array.length_toList, h]; exact W.info)
  rw [Array.toArray_toList] at this
  exact this
theorem store_blk' {P : Program} {ty : TypeId} {n : Nat} (W : Wide P ty n) (hn : n ≠ 0) (w : World) (g : Nat) (cs : Array Value) (h : (blkOf w g).size = n) (hs : cs.size = n) (h1 : cs.all (·.oneCell') = true) :
    (Instr.storeAt ty (.pointer (some ⟨g, 0, none⟩)) (.agg cs)).run P w = .ok () (setBlk w g cs) := by
  obtain ⟨t, hB⟩ := blk_of_size h hn
  exact run_storeAt_mid (P := P) w g 0 ty cs (by rw [hs, ← h]; exact hB.there_) (by rw [hs]; exact W.info) h1
theorem setBlk_chg (w : World) (g : Nat) (cs : Array Value) : Chg (fun k => k = g) w (setBlk w g cs) := (setCells_chg g cs.toList 0 w).1
theorem setBlk_size (w : World) (g : Nat) (cs : Array Value) : (setBlk w g cs).heap.size = w.heap.size := (setCells_chg g cs.toList 0 w).2
theorem setBlk_other (w : World) (b : Nat) (cs : Array Value) (k : Nat) (h : k ≠ b) : (setBlk w b cs).heap[k]? = w.heap[k]? := heap_setCells_other b cs.toList 0 w k h
theorem blkOf_setBlk_other (w : World) (b g : Nat) (cs : Array Value) (h : ¬ g = b) : blkOf (setBlk w b cs) g = blkOf w g := by unfold blkOf; rw [setBlk_other w b cs g h]
theorem cell_setBlk_other (w : World) (b g i : Nat) (cs : Array Value) (h : ¬ g = b) : (setBlk w b cs).cell? ⟨g, i, none⟩ = w.cell? ⟨g, i, none⟩ := World.cell?_of_block (setBlk_other w b cs g h)
theorem frozen_setBlk_other (w : World) (b g i : Nat) (cs : Array Value) (h : ¬ g = b) : (setBlk w b cs).frozen? ⟨g, i, none⟩ = w.frozen? ⟨g, i, none⟩ := World.frozen?_of_block (setBlk_other w b cs g h)
theorem setBlk_drew (w : World) (b : Nat) (cs : Array Value) : setBlk w.drew b cs = (setBlk w b cs).drew := by
  unfold setBlk
  generalize cs.toList = l
  generalize 0 = o
  induction l generalizing o w with
  | nil => rfl
  | cons v l ih =>
    show (w.drew.setCell ⟨b, o, none⟩ v).setCells b (o + 1) l = ((w.setCell ⟨b, o, none⟩ v).setCells b (o + 1) l).drew
    rw [World.setCell_drew, ih]
theorem blkOf_drew (w : World) (g : Nat) : blkOf w.drew g = blkOf w g := rfl
theorem blkOf_alloc_new (w : World) (cs : Array Value) (t : TypeId) (g : Nat) (hg : g = w.heap.size) : blkOf (w.alloc (.cells cs t)) g = cs := (Blk.new' w t cs hg).blkOf
theorem blkOf_alloc_past (w : World) (o : Obj) (g : Nat) (hg : g < w.heap.size) : blkOf (w.alloc o) g = blkOf w g := by unfold blkOf; rw [Below.heap_alloc w o g hg]
theorem blkOf_setCell_other (w : World) (g b i : Nat) (v : Value) (h : ¬ g = b) : blkOf (w.setCell ⟨b, i, none⟩ v) g = blkOf w g := by unfold blkOf; rw [Below.heap_setCell w ⟨b, i, none⟩ v g h]
theorem Blk.setBlk {w : World} {g : Nat} {t : TypeId} {old : Array Value} (h : Blk w g t old) (cs : Array Value) (hs : old.size = cs.size) : Blk (setBlk w g cs) g t cs := store_blk h hs
theorem Blk.setBlk_far {w : World} {g b : Nat} {t : TypeId} {cs cs' : Array Value} (h : Blk w g t cs) (hn : ¬ g = b) : Blk (Proofs.YtjemfefkgfoikaaDoor.setBlk w b cs') g t cs := (setBlk_other w b cs' g hn).trans h

end Go.Proofs.YtjemfefkgfoikaaDoor

/-
  A range over a function, as one law of the plain walk: the loop's body may change the blocks S, which were there before the loop, and make new ones.
-/
namespace Go.Proofs.YtjemfefkgfoikaaDoor
open Go.RowKit

/-- '[n]T(s)'. -/
theorem run_arrayAt {P : Program} {T e : TypeId} {n : Nat} (hu : P.underlying T = some (.array n e)) {ad : Option Addr} {len c : Nat} (hl : n ≤ len) (w : World) : (Instr.arrayAt T (.slice ad len c)).run P w = .ok (.pointer ad) w := by
  have h : ¬ len < n := by omega
  simp [Instr.arrayAt, run_underlying hu, h]
/-- The cells of all blocks but those of S stay. -/
def KeepC (S : Nat → Prop) (w w' : World) : Prop := ∀ p v, ¬ S p.block → w.cell? p = some v → w'.cell? p = some v
theorem KeepC.trans {S : Nat → Prop} {a b c : World} (h : KeepC S a b) (k : KeepC S b c) : KeepC S a c := fun p v hn hc => k p v hn (h p v hn hc)
theorem KeepC.of_chg {S : Nat → Prop} {a b : World} (h : Chg S a b) : KeepC S a b := fun _ _ hn hc => Chg.cellv h hc hn
/-- The blocks that hold cells stay. -/
def KeepB (w w' : World) : Prop := ∀ (k : Nat) (o : Obj), w.heap[k]? = some o → o.isCells = true → w'.heap[k]? = some o
theorem cells_of_cell {w : World} {p : Addr} {v : Value} (h : w.cell? p = some v) : ∃ o, w.heap[p.block]? = some o ∧ o.isCells = true := by
  have hl := lt_of_cell h
  refine ⟨_, Array.getElem?_eq_getElem hl, ?_⟩
  unfold World.cell? at h
  rw [Array.getElem?_eq_getElem hl] at h
  cases ho : w.heap[p.block] <;> simp_all [Obj.isCells]
theorem KeepC.putObj {S : Nat → Prop} (W : World) (l : Nat) {o : Obj} (o' : Obj) (h : W.heap[l]? = some o) (ho : o.isCells = false) : KeepC S W (W.putObj l o') := fun p v _ hc => by
  obtain ⟨q, hq, hqc⟩ := cells_of_cell hc
  have hne : p.block ≠ l := fun e => by
    rw [e, h] at hq
    cases hq
    rw [ho] at hqc
    cases hqc
  rw [World.cell?_of_block (w := W) (World.putObj_heap_other hne)]
  exact hc

theorem KeepB.cell {w w' : World} (h : KeepB w w') {p : Addr} {v : Value} (hc : w.cell? p = some v) : w'.cell? p = some v := by
  obtain ⟨o, ho, hoc⟩ := cells_of_cell hc
  rw [World.cell?_of_block (w := w) ((h _ _ ho hoc).trans ho.symm)]
  exact hc
theorem KeepB.blk {w w' : World} (h : KeepB w w') {g : Nat} {t : TypeId} {cs : Array Value} (hb : Blk w g t cs) : Blk w' g t cs := h _ _ hb rfl

theorem call_enters {P : Program} {f : FuncId} {fn : Func} {c : Code} (hf : P.funcs[f]? = some fn) (hname : (fn.name == "runtime.NumGoroutine") = false) (hb : fn.body = some c) (args : Array Value) (w : World) : (callFunc f args).run P w = .ok (.enter f args) w := by
  have h1 : fn.name ≠ "runtime.NumGoroutine" := by simpa using hname
  simp [callFunc, hf, h1, hb, mark]

theorem wp_range {α : Type} {P : Program} {g : Operand} {ps : Array Tmp} {assign body : Code} {Q : Exit → Act → World → Prop} {a : Act} {w : World}
    {gf : Nat} {lb : Array Value} (hg : a.eval g = .func (.func gf) #[] lb) (eg : ∀ args w, (callFunc gf args).run P w = .ok (.enter gf args) w)
    {encs : α → Array Value} {S : Nat → Prop} {all : List α} {N : Nat} (hS : ∀ k, S k → k < w.heap.size)
    (hseq : SeqStopsK Fence.wide 2 P gf lb encs (KeepC S) (fun ys => ys = all) (fun _ => True) N w) (hps : ∀ x, (encs x).size = ps.size)
    (J : List α → World → Prop) (hJ : ∀ pre W W', J pre W → KeepB W W' → J pre W') (h0 : J [] w) (a₁ : α → Act)
    (hassign : ∀ (l : Nat) (x : α) (W : World) (K : Act → World → Prop), K (a₁ x) W →
      assign.wpIn (Fence.wide.inRound l) 1 P (Exit.then K (fun _ _ _ => False)) { tmps := (ps.zip (encs x)).foldl (fun t (p, v) => t.setIfInBounds p v) a.tmps, defers := [] } W)
    (hbody : ∀ (l : Nat) (pre : List α) (x : α) (W : World), Chg S w W → J pre W → pre.length < N →
      body.wpIn (Fence.wide.inRound l) 1 P (Exit.then (fun _ W' => Chg S W W' ∧ J (pre ++ [x]) W') (fun _ _ _ => False)) (a₁ x) W)
    (hdone : ∀ (D : Nat) (W : World), w.heap.size ≤ D → Chg S w W → J all W → W.heap[D]? = some (.deferred (some [])) → Q .normal { a with defers := { target := .collected D, args := #[] } :: a.defers } W) :
    (Code.rangeFunc g ps assign body).wp P Q a w := by
  refine (wpIn_wide (n := 3)).1 ?_
  refine wpIn_rangeFunc_ownG (n := 3) (N := N) (w0 := w) rfl (by omega) hg trivial eg hseq (fun h k => h.trans k) (fun W l o o' _ h ho _ => KeepC.putObj W l o' h ho) (Below.refl _ _) hps
    (fun pre W => Chg S w W ∧ J pre W) (fun _ _ _ => False) ?hI (fun _ _ _ _ _ h _ _ => h) ⟨Chg.refl _ _, h0⟩ a₁ hassign ?hbody ?hdone (fun _ _ _ _ _ _ h _ => h.elim)
  case hI =>
    rintro pre W W' row ⟨hc, hj⟩ hgr hrow
    refine ⟨hc.grown hgr fun k e => .inr (hrow k e).1, hJ _ _ _ hj (show KeepB W W' from fun k o hk ho => ?_)⟩
    rw [hgr.block k (lt_of_heap hk) (fun e => ?_)]
    · exact hk
    · obtain ⟨_, q, hq, hqc⟩ := hrow k e.symm
      rw [hk] at hq
      cases hq
      rw [ho] at hqc
      cases hqc
  case hbody =>
    rintro l pre x W ⟨hc, hj⟩ hl
    refine wpIn_mono (hbody l pre x W hc hj hl) ?_
    rintro e b W' h
    cases e with
    | normal =>
      obtain ⟨h1, h2⟩ := h
      refine ⟨⟨h1.size, fun k o hk ho _ => h1.blk ho (fun hs => ?_)⟩, KeepC.of_chg h1, hc.trans h1, h2⟩
      have := hS k hs
      omega
    | _ => exact h.elim
  case hdone =>
    rintro D xs W hD rfl ⟨hc, hj⟩ hd
    exact hdone D W hD hc hj hd

section
variable {P : Program} {F : Fence} {n0 : Nat}
theorem wpListIn_loadB {ops : Array Oper} {rest : List Oper} {o : Oper} {a : Act} {w : World} {Q : Exit → Act → World → Prop} (hgd : o.guard = none) {ty : TypeId} {x : Operand} (ho : o.op = .load ty x) {n : Nat} (W : Wide P ty n)
    {g : Nat} (hx : a.eval x = .pointer (some ⟨g, 0, none⟩)) {t : TypeId} {cs : Array Value} (hB : Blk w g t cs) (hn : cs.size = n) (h : wpListIn F n0 P ops Q rest (a.put o.dst (.agg cs)) w) : wpListIn F n0 P ops Q (o :: rest) a w :=
  wpListIn_plain hgd fun _ hK => by
    obtain ⟨d, hu, hd⟩ := W.und
    unfold Oper.wpIn
    refine ⟨by simp [Oper.about, ho], ?_⟩
    rw [Oper.semAt_plain F _ _ (by rw [ho]; intro c h; cases h)]
    unfold execOp
    have hr := run_loadVar_mid (P := P) w g 0 ty cs.toList d hB.range hu hd (by rw [Array.length_toList, hn]; exact W.info)
    rw [Array.toArray_toList] at hr
    simp only [ho, hx, Instr.loadAt, Instr.sureAddr, Sem.run_bind, Sem.run_pure, Result.andThen_ok, hr]
    exact hK _ _ h
theorem wpListIn_storeB {ops : Array Oper} {rest : List Oper} {o : Oper} {a : Act} {w : World} {Q : Exit → Act → World → Prop} (hgd : o.guard = none) {ty : TypeId} {x y : Operand} (ho : o.op = .store ty x y) {n : Nat} (W : Wide P ty n)
    {g : Nat} (hx : a.eval x = .pointer (some ⟨g, 0, none⟩)) {cs : Array Value} (hy : a.eval y = .agg cs) {t : TypeId} {old : Array Value} (hB : Blk w g t old) (ho2 : old.size = n) (hn : cs.size = n) (h1 : cs.all (·.oneCell') = true)
    (h : ∀ w', Blk w' g t cs → Chg (fun k => k = g) w w' → w'.heap.size = w.heap.size → wpListIn F n0 P ops Q rest (a.put o.dst undef) w') : wpListIn F n0 P ops Q (o :: rest) a w :=
  wpListIn_plain hgd fun _ hK => by
    unfold Oper.wpIn
    refine ⟨by simp [Oper.about, ho], ?_⟩
    rw [Oper.semAt_plain F _ _ (by rw [ho]; intro c h; cases h)]
    unfold execOp
    have hr := run_storeAt_mid (P := P) w g 0 ty cs (by rw [show cs.size = old.size from by omega]; exact hB.there_) (by rw [hn]; exact W.info) h1
    simp only [ho, hx, hy, Sem.run_bind, Sem.run_pure, hr, Result.andThen_ok]
    exact hK _ _ (h _ (store_blk hB (by omega)) (setCells_chg g cs.toList 0 w).1 (setCells_chg g cs.toList 0 w).2)
end

/-- A function that ran one such loop returns. -/
theorem leave_mark {P : Program} {fn : Func} {R : Ending → World → Prop} {n : Nat} {a : Act} {W : World} {D : Nat} {v : Value} (hd : a.defers = [{ target := .collected D, args := #[] }]) (hD : W.heap[D]? = some (.deferred (some [])))
    (hr : (results fn a.tmps).run P (W.putObj D (.deferred none)) = .ok v (W.putObj D (.deferred none))) (h : R (.returned v) (W.putObj D (.deferred none))) : bodyPostM Fence.wide n P fn R .ret a W := by
  show LeavesInM Fence.wide n P fn a.tmps R a.defers .returning W
  rw [hd]
  refine ⟨by simp, .inl ⟨_, _, rfl, run_takeDeferred hD, ?_⟩⟩
  exact ⟨_, hr, h⟩
theorem putObj_ext {w W : World} {D : Nat} (o : Obj) (h : Ext w W) (hD : w.heap.size ≤ D) : Ext w (W.putObj D o) :=
  h.grown (grownBy_putObj' W D o) (fun k e => by cases e; exact hD)

end Go.Proofs.YtjemfefkgfoikaaDoor

/-
  slices.Chunk of bytes, in pieces of 64.
-/
namespace Go.Proofs.YtjemfefkgfoikaaDoor
open Go.RowKit
attribute [local go_sem] Oper.semAt_some

theorem chunk_any (A : Option Addr) (n c : Nat) (w : World) :
    Calls Tryd.prog 73 #[.slice A n c, .int .i64 64] w fun e w' => e = .returned (.func (.func 91) #[] #[.pointer (some ⟨w.heap.size, 0, none⟩), .pointer (some ⟨w.heap.size + 1, 0, none⟩)]) ∧
      (w.alloc (.cells #[.slice A n c] 41)).alloc (.cells #[.int .i64 64] 3) = w' := by
  go_enter Tryd.func73, Tryd.ntmps73
  go_wp2
  go_ret
  exact ⟨rfl, rfl⟩

theorem fin_step (m k : Nat) (h : k < m) : (List.finRange m).take (k + 1) = (List.finRange m).take k ++ [⟨k, h⟩] := by
  rw [take_step _ k (by simpa using h)]
  simp
theorem fin_map (m : Nat) : (List.finRange m).map Fin.val = List.range m := by
  apply List.ext_getElem
  · simp
  · intro i h1 h2; simp
set_option maxHeartbeats 1000000 in
theorem chunk_stops (b o c m : Nat) (Bs Bn : Nat) (S : Nat → Prop) (w : World) (hm : 64 * m ≤ 1000000000) (hc : 64 * m ≤ c) (hs : ¬ S Bs) (hn : ¬ S Bn)
    (h1 : w.cell? ⟨Bs, 0, none⟩ = some (.slice (some ⟨b, o, none⟩) (64 * m) c)) (h2 : w.cell? ⟨Bn, 0, none⟩ = some (.int .i64 64)) :
    SeqStopsK Fence.wide 2 Tryd.prog 91 #[.pointer (some ⟨Bs, 0, none⟩), .pointer (some ⟨Bn, 0, none⟩)] (fun x : Fin m => #[.slice (some ⟨b, o + 64 * x.val, none⟩) 64 64]) (KeepC S) (fun ys => ys = List.finRange m) (fun _ => True) m w := by
  intro l J Jx W hW hJ hJx hY h0
  have k1 := (hW.cell (p := ⟨Bs, 0, none⟩) (lt_of_cell h1)).trans h1
  have k2 := (hW.cell (p := ⟨Bn, 0, none⟩) (lt_of_cell h2)).trans h2
  clear h1 h2
  refine callsIn_wide.2 ?_
  go_enter Tryd.func91, Tryd.ntmps91
  go_wp2
  go_loopw [4] (fun i wr => ∃ k : Nat, k ≤ m ∧ i = .int .i64 ((64 * k : Nat) : Int) ∧ Hid (J ((List.finRange m).take k) wr) ∧ wr.cell? ⟨Bs, 0, none⟩ = some (.slice (some ⟨b, o, none⟩) (64 * m) c) ∧ wr.cell? ⟨Bn, 0, none⟩ = some (.int .i64 64)) (fun i _ => 64 * m - (intOf i).toNat)
  case atStart => exact ⟨0, Nat.zero_le _, rfl, hide h0, k1, k2⟩
  case round =>
    obtain ⟨k, hk, rfl, hj, g1, g2⟩ := hrel
    by_cases hlt : k < m
    · have e1 : ¬ 64 * k = c := by omega
      have e2 : 64 * k < 64 * m := by omega
      have e3 : 64 ≤ 64 * m - 64 * k := by omega
      go_wp2
      go_quiet (fail)
      go_upto_region 4 with fail
      have hj' := hJ _ _ (wr.drewN nq) none (unhide hj) ⟨rfl, rfl, rfl, Nat.le_refl _, fun _ _ _ => rfl⟩ (fun r e => by cases e)
      obtain ⟨fn, tmps, assign, body, hy, hR⟩ := hY ((List.finRange m).take k) ⟨k, hlt⟩ (wr.drewN nq) hj' (by simp; omega)
      dsimp only at hy
      refine (wpIn_wide (n := 2)).1 ?_
      gi_wp2
      clear hy
      refine hR.mono ?_
      rintro e W3 (⟨rfl, hJ3, hk3⟩ | ⟨rfl, hJx3⟩)
      · have g1' := hk3 _ _ hs g1
        have g2' := hk3 _ _ hn g2
        have hJ4 := hide hJ3
        clear hJ3 hk3
        gi_wp2
        go_wp2
        go_roundw
        case rel => exact ⟨k + 1, by omega, by go_num, hide (by rw [fin_step m k hlt]; exact unhide hJ4), g1', g2'⟩
        case measure => simp [intOf]; omega
      · gi_wp2
        go_wp2
        refine bodyPost_ret (results_none rfl _ _ _) rfl ?_
        exact ⟨⟨_, rfl⟩, .inr ⟨_, trivial, hJx3⟩⟩
    · obtain rfl : k = m := by omega
      go_wp2
      go_end0
      exact ⟨⟨_, rfl⟩, .inl ⟨_, rfl, by have := unhide hj; rwa [List.take_of_length_le (by simp)] at this⟩⟩

end Go.Proofs.YtjemfefkgfoikaaDoor

/-
  Arrays by value and parts of slices.
-/
namespace Go.Proofs.YtjemfefkgfoikaaDoor
open Go.RowKit

theorem Blk.far' {w : World} {g : Nat} {t : TypeId} {cs : Array Value} (h : Blk w g t cs) {b : Nat} (hn : ¬ g = b) (i : Nat) (u : Value) : Blk (w.setCell ⟨b, i, none⟩ u) g t cs := h.far hn u
theorem new_cell (W : World) (t : TypeId) (cs : Array Value) {g : Nat} (hg : g = W.heap.size) {i : Nat} {v : Value} (hv : cs[i]? = some v) : (W.alloc (.cells cs t)).cell? ⟨g, i, none⟩ = some v := by
  rw [(Blk.new' W t cs hg).cell]; exact hv
theorem old_cell (W : World) (o : Obj) {p : Addr} {v : Value} (h : W.cell? p = some v) : (W.alloc o).cell? p = some v := Ext.cellv ((Ext.refl W).alloc o) h
theorem keep5 {W : World} (o : Obj) {p q r s u : Addr} {a b c d e : Value} (h : W.cell? p = some a ∧ W.cell? q = some b ∧ W.cell? r = some c ∧ W.cell? s = some d ∧ W.cell? u = some e) : (W.alloc o).cell? p = some a ∧ (W.alloc o).cell? q = some b ∧ (W.alloc o).cell? r = some c ∧ (W.alloc o).cell? s = some d ∧ (W.alloc o).cell? u = some e :=
  ⟨old_cell _ _ h.1, old_cell _ _ h.2.1, old_cell _ _ h.2.2.1, old_cell _ _ h.2.2.2.1, old_cell _ _ h.2.2.2.2⟩
theorem keepc3 {W : World} (o : Obj) {p q r : Addr} {a b c : Value} (h : W.cell? p = some a ∧ W.cell? q = some b ∧ W.cell? r = some c) : (W.alloc o).cell? p = some a ∧ (W.alloc o).cell? q = some b ∧ (W.alloc o).cell? r = some c :=
  ⟨old_cell _ _ h.1, old_cell _ _ h.2.1, old_cell _ _ h.2.2⟩
theorem keep3 {W : World} (o : Obj) {p q : Addr} {a b : Value} (h : W.cell? p = some a ∧ W.cell? q = some b) : (W.alloc o).cell? p = some a ∧ (W.alloc o).cell? q = some b := ⟨old_cell _ _ h.1, old_cell _ _ h.2⟩
/-- What a region keeps whose last store goes to cell r. -/
def KeptFor (p q r : Addr) (a b : Value) (W : World) : Prop := W.cell? p = some a ∧ W.cell? q = some b ∧ W.cell? r = some (held W r) ∧ W.frozen? r = false
theorem keepS {W : World} (o : Obj) {p q r : Addr} {a b : Value} (h : W.cell? p = some a ∧ W.cell? q = some b ∧ W.cell? r = some (held W r) ∧ W.frozen? r = false) : (W.alloc o).cell? p = some a ∧ (W.alloc o).cell? q = some b ∧ (W.alloc o).cell? r = some (held (W.alloc o) r) ∧ (W.alloc o).frozen? r = false :=
  ⟨old_cell _ _ h.1, old_cell _ _ h.2.1, cell_held (old_cell _ _ h.2.2.1), Ext.frozenv ((Ext.refl W).alloc o) h.2.2.2 (lt_of_cell h.2.2.1)⟩
theorem keepT {W : World} (u : Value) {g i j k : Nat} {a b : Value} (hi : i ≠ k) (hj : j ≠ k) (h : W.cell? ⟨g, i, none⟩ = some a ∧ W.cell? ⟨g, j, none⟩ = some b ∧ W.cell? ⟨g, k, none⟩ = some (held W ⟨g, k, none⟩) ∧ W.frozen? ⟨g, k, none⟩ = false) :
    (W.setCell ⟨g, k, none⟩ u).cell? ⟨g, i, none⟩ = some a ∧ (W.setCell ⟨g, k, none⟩ u).cell? ⟨g, j, none⟩ = some b ∧ (W.setCell ⟨g, k, none⟩ u).cell? ⟨g, k, none⟩ = some (held (W.setCell ⟨g, k, none⟩ u) ⟨g, k, none⟩) ∧ (W.setCell ⟨g, k, none⟩ u).frozen? ⟨g, k, none⟩ = false := by
  refine ⟨?_, ?_, cell_held (World.cell?_setCell_same' _ _ _ (by rw [h.2.2.1]; rfl)), by rw [World.frozen?_setCell]; exact h.2.2.2⟩
  · rw [World.cell?_setCell_other (h := by intro e; cases e; exact hi rfl)]; exact h.1
  · rw [World.cell?_setCell_other (h := by intro e; cases e; exact hj rfl)]; exact h.2.1
section
variable {P : Program}
theorem run_index_arr {T elem : TypeId} {len : Nat} (hu : P.underlying T = some (.array len elem)) (hp : P.plainKey elem = true) {inf : TypeInfo} (hi : P.info? elem = some inf) (h1 : P.cellsOf elem = 1)
    {cs : Array Value} {k : Nat} (hk : k < len) {v : Value} (hv : cs[k]? = some v) (w : World) : (Instr.index T (.agg cs) (.int .i64 (k : Int))).run P w = .ok v w := by
  have h2 : (0 : Int) ≤ (k : Int) ∧ (k : Int) < (len : Int) := by omega
  simp [Instr.index, asIntOf, run_underlying hu, run_sizeOf (w := w) hi, h1, hk, run_part_plain w hp hv]

/-- A table is loaded whole. -/
theorem wpList_loadR {ops : Array Oper} {rest : List Oper} {o : Oper} {a : Act} {w : World} {Q : Exit → Act → World → Prop} (hgd : o.guard = none) {ty : TypeId} {x : Operand} (ho : o.op = .load ty x) {n : Nat} (W : Wide P ty n)
    {g : Nat} (hx : a.eval x = .pointer (some ⟨g, 0, none⟩)) {cs : List Value} {arr : Array Value} (hB : w.rangeAt g 0 cs) (hn : cs.length = n) (ha : cs.toArray = arr) (h : wpList P ops Q rest (a.put o.dst (.agg arr)) w) : wpList P ops Q (o :: rest) a w :=
  wpList_plain hgd fun _ hK => by
    obtain ⟨d, hu, hd⟩ := W.und
    refine wp_load_mid ty x ho g 0 hx cs d hB hu hd (by rw [hn]; exact W.info) ?_
    rw [ha]
    exact hK _ _ h
/-- The one result lies in a block of its own. -/
theorem loadVar_blk {w : World} {b : Nat} {t : TypeId} {cs : Array Value} (hB : Blk w b t cs) {T : TypeId} {n : Nat} (W : Wide P T n) (hn : cs.size = n) : (loadVar T ⟨b, 0, none⟩).run P w = .ok (.agg cs) w := by
  obtain ⟨d, hu, hd⟩ := W.und
  have := run_loadVar_mid (P := P) w b 0 T cs.toList d hB.range hu hd (by rw [Array.length_toList, hn]; exact W.info)
  rw [Array.toArray_toList] at this
  exact this
theorem results_blk {fn : Func} {i : Tmp} {T : TypeId} {n : Nat} (W : Wide P T n) (hf : fn.results = #[.cell i T]) {tmps : Array Value} {w : World} {b : Nat} {t : TypeId} {cs : Array Value} (hB : Blk w b t cs) (hn : cs.size = n) (ei : tmps.getD i undef = .pointer (some ⟨b, 0, none⟩)) :
    (results fn tmps).run P w = .ok (.agg cs) w := by
  have h1 := loadVar_blk hB W hn
  simp only [Array.getD_eq_getD_getElem?] at ei
  simp [results, hf, ei, asAddr, h1]
/-- A part of a slice. -/
theorem Reads.sub {w : World} {v : Value} {n : Nat} {xs : List Value} (h : Reads w 1 v n xs) (i m : Nat) (hi : i + m ≤ n) (hm : 0 < m) :
    ∃ b o c, v = .slice (some ⟨b, o, none⟩) n c ∧ n ≤ c ∧ c ≤ maxLen ∧ b < w.heap.size ∧ Reads w 1 (.slice (some ⟨b, o + i, none⟩) m (c - i)) m ((xs.drop i).take m) := by
  obtain ⟨b, o, c, u, rfl, h1, h2, h3, _, _⟩ := h.at1 (k := 0) (by omega)
  have hl := h.1
  refine ⟨b, o, c, rfl, h1, h2, h3, by simp; omega, _, _, rfl, by omega, by omega, fun _ => ⟨b, o + i, rfl, fun j u hu => ?_⟩⟩
  have hj : j < m := by
    rcases Nat.lt_or_ge j m with h | h
    · exact h
    · rw [List.getElem?_eq_none (by simp; omega)] at hu; cases hu
  rw [List.getElem?_take, if_pos hj, List.getElem?_drop] at hu
  obtain ⟨_, A, c', e, _, _, h4⟩ := h
  cases e
  obtain ⟨b', o', e, hc⟩ := h4 (by omega)
  cases e
  rw [Nat.add_assoc]
  exact hc _ _ hu
/-- The same with another capacity. -/
theorem Reads.cap {w : World} {A : Option Addr} {n c c' : Nat} {xs : List Value} (h : Reads w 1 (.slice A n c) n xs) (h1 : n ≤ c') (h2 : c' ≤ maxLen) : Reads w 1 (.slice A n c') n xs := by
  obtain ⟨hl, A', c'', e, _, _, h4⟩ := h
  cases e
  exact ⟨hl, A, c', rfl, h1, h2, h4⟩
/-- The cells of a block. -/
theorem Reads.of_blk {w : World} {g : Nat} {t : TypeId} {cs : Array Value} (h : Blk w g t cs) {i n c : Nat} (hi : i + n ≤ cs.size) (hc : n ≤ c) (hm : c ≤ maxLen) :
    Reads w 1 (.slice (some ⟨g, i, none⟩) n c) n ((cs.toList.drop i).take n) := by
  refine ⟨by simp; omega, _, _, rfl, hc, hm, fun _ => ⟨g, i, rfl, fun j u hu => ?_⟩⟩
  have hj : j < n := by
    rcases Nat.lt_or_ge j n with h | h
    · exact h
    · rw [List.getElem?_eq_none (by simp; omega)] at hu; cases hu
  rw [List.getElem?_take, if_pos hj, List.getElem?_drop] at hu
  rw [h.cell, ← hu]
  simp
end

end Go.Proofs.YtjemfefkgfoikaaDoor
