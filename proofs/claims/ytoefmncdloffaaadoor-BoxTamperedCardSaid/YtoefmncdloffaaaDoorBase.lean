
/-
  The words that all texts of this seat share: which blocks of memory a call may have changed ('Chg'); slices that read as lists; step programs as trees ('Prg') and their replay. Plain Lean: no function of the program is named here.
-/
import Derived.WalkKit
import Derived.WalkSpells
import Derived.WalkLawsBesides
import Derived.Handy
import Derived.Deep.QuietTactic
import Derived.BigQuiet
import Derived.Deep.Draws
import Derived.Maps.AppendAt
namespace Go.Proofs.YtoefmncdloffaaaDoor
open Go.RowKit

theorem hide {p : Prop} (h : p) : Hid p := h
theorem unhide {p : Prop} (h : Hid p) : p := h

theorem ret_int {k : IntKind} {a b : Int} (h : a = b) : Ending.returned (.int k a) = .returned (.int k b) := by rw [h]
theorem ret_bool {a b : Bool} (h : a = b) : Ending.returned (.bool a) = .returned (.bool b) := by rw [h]
theorem int_eq {k : IntKind} {a b : Int} (h : a = b) : Value.int k a = .int k b := by rw [h]
theorem ret_pair {k : IntKind} {a b : Int} {y : Value} (h : a = b) : Ending.returned (.tuple #[.int k a, y]) = .returned (.tuple #[.int k b, y]) := by rw [h]

/-- Of the blocks that were there, at most those in S have changed. -/
structure Chg (S : Nat → Prop) (w w' : World) : Prop where
  os : w'.os = w.os
  tape : w'.tape = w.tape
  output : w'.output = w.output
  size : w.heap.size ≤ w'.heap.size
  block : ∀ k, k < w.heap.size → ¬ S k → w'.heap[k]? = w.heap[k]?

/-- No block that was there has changed. -/
def Non : Nat → Prop := fun _ => False
def Ext (w w' : World) : Prop := Chg Non w w'

theorem Chg.refl (S : Nat → Prop) (w : World) : Chg S w w := ⟨rfl, rfl, rfl, Nat.le_refl _, fun _ _ _ => rfl⟩
theorem Chg.trans' {S T U : Nat → Prop} {a b c : World} (h : Chg S a b) (k : Chg T b c) (hS : ∀ i, i < a.heap.size → S i → U i) (hT : ∀ i, i < a.heap.size → T i → U i) : Chg U a c :=
  ⟨k.os.trans h.os, k.tape.trans h.tape, k.output.trans h.output, Nat.le_trans h.size k.size, fun i hi hn =>
    (k.block i (Nat.lt_of_lt_of_le hi h.size) (fun ht => hn (hT i hi ht))).trans (h.block i hi (fun hs => hn (hS i hi hs)))⟩
theorem Chg.trans {S : Nat → Prop} {a b c : World} (h : Chg S a b) (k : Chg S b c) : Chg S a c := h.trans' k (fun _ _ h => h) (fun _ _ h => h)
theorem Chg.mono {S T : Nat → Prop} {a b : World} (h : Chg S a b) (hS : ∀ i, i < a.heap.size → S i → T i) : Chg T a b :=
  ⟨h.os, h.tape, h.output, h.size, fun i hi hn => h.block i hi (fun hs => hn (hS i hi hs))⟩
theorem Ext.chg {S : Nat → Prop} {a b : World} (h : Ext a b) : Chg S a b := Chg.mono h (fun _ _ h => h.elim)
theorem Chg.ext {S : Nat → Prop} {a b c : World} (h : Chg S a b) (k : Ext b c) : Chg S a c := h.trans k.chg
theorem Ext.refl (w : World) : Ext w w := Chg.refl _ _
theorem Ext.trans {a b c : World} (h : Ext a b) (k : Ext b c) : Ext a c := Chg.trans h k
theorem Chg.alloc {S : Nat → Prop} {a w : World} (h : Chg S a w) (o : Obj) : Chg S a (w.alloc o) :=
  h.trans ⟨rfl, rfl, rfl, by simp, fun k hk _ => Below.heap_alloc _ _ _ hk⟩
theorem Ext.alloc {a w : World} (h : Ext a w) (o : Obj) : Ext a (w.alloc o) := Chg.alloc h o
theorem Chg.drew {S : Nat → Prop} {a w : World} (h : Chg S a w) : Chg S a w.drew := ⟨h.os, h.tape, h.output, h.size, h.block⟩
theorem Ext.drew {a w : World} (h : Ext a w) : Ext a w.drew := Chg.drew h
theorem Chg.drewN {S : Nat → Prop} {a w : World} (h : Chg S a w) (n : Nat) : Chg S a (w.drewN n) := ⟨h.os, h.tape, h.output, h.size, h.block⟩
theorem Ext.drewN {a w : World} (h : Ext a w) (n : Nat) : Ext a (w.drewN n) := Chg.drewN h n
theorem Chg.setCell {S : Nat → Prop} {a w : World} (h : Chg S a w) {p : Addr} (hp : S p.block ∨ a.heap.size ≤ p.block) (u : Value) : Chg S a (w.setCell p u) :=
  ⟨h.os, h.tape, h.output, by simpa [World.setCell] using h.size, fun k hk hn => (Below.heap_setCell _ _ _ _ (by rintro rfl; exact hp.elim hn (fun h => by omega))).trans (h.block k hk hn)⟩
theorem Ext.setCell {a w : World} (h : Ext a w) {p : Addr} (hp : a.heap.size ≤ p.block) (u : Value) : Ext a (w.setCell p u) := Chg.setCell h (.inr hp) u
theorem Chg.grown {S : Nat → Prop} {a w w' : World} {row : Option Nat} (h : Chg S a w) (hg : w.grownBy w' row) (hr : ∀ k, row = some k → S k ∨ a.heap.size ≤ k) : Chg S a w' :=
  ⟨hg.os.trans h.os, hg.tape.trans h.tape, hg.output.trans h.output, Nat.le_trans h.size hg.size, fun k hk hn =>
    (hg.block k (Nat.lt_of_lt_of_le hk h.size) (fun e => (hr k e.symm).elim hn (fun h => by omega))).trans (h.block k hk hn)⟩
theorem Ext.grown {a w w' : World} {row : Option Nat} (h : Ext a w) (hg : w.grownBy w' row) (hr : ∀ k, row = some k → a.heap.size ≤ k) : Ext a w' := Chg.grown h hg (fun k hk => .inr (hr k hk))
theorem Ext.of_below {w w' : World} (h : Below w.heap.size w w') : Ext w w' := ⟨h.os, h.tape, h.output, h.size, fun k hk _ => h.block k hk⟩
theorem Ext.below {w w' : World} (h : Ext w w') : Below w.heap.size w w' := ⟨h.os, h.tape, h.output, h.size, fun k hk => h.block k hk (fun h => h)⟩
theorem Chg.cell {S : Nat → Prop} {w w' : World} (h : Chg S w w') {p : Addr} (hp : p.block < w.heap.size) (hn : ¬ S p.block) : w'.cell? p = w.cell? p := World.cell?_of_block (w := w) (h.block p.block hp hn)
theorem Chg.frozen {S : Nat → Prop} {w w' : World} (h : Chg S w w') {p : Addr} (hp : p.block < w.heap.size) (hn : ¬ S p.block) : w'.frozen? p = w.frozen? p := World.frozen?_of_block (w := w) (h.block p.block hp hn)
theorem lt_of_cell {w : World} {p : Addr} {v : Value} (h : w.cell? p = some v) : p.block < w.heap.size := World.block_lt_of_cell? w p h
theorem Ext.cellv {w w' : World} (h : Ext w w') {p : Addr} {v : Value} (hv : w.cell? p = some v) : w'.cell? p = some v := (Chg.cell h (lt_of_cell hv) (fun h => h)).trans hv
theorem Chg.cellv {S : Nat → Prop} {w w' : World} (h : Chg S w w') {p : Addr} {v : Value} (hv : w.cell? p = some v) (hn : ¬ S p.block) : w'.cell? p = some v := (Chg.cell h (lt_of_cell hv) hn).trans hv
theorem Chg.frozenv {S : Nat → Prop} {w w' : World} (h : Chg S w w') {p : Addr} (hv : w.frozen? p = false) (hl : p.block < w.heap.size) (hn : ¬ S p.block) : w'.frozen? p = false := (Chg.frozen h hl hn).trans hv
theorem Ext.frozenv {w w' : World} (h : Ext w w') {p : Addr} (hv : w.frozen? p = false) (hl : p.block < w.heap.size) : w'.frozen? p = false := (Chg.frozen h hl (fun h => h)).trans hv
theorem lt_of_heap {w : World} {k : Nat} {o : Obj} (h : w.heap[k]? = some o) : k < w.heap.size := (Array.getElem?_eq_some_iff.1 h).1
theorem Chg.blk {S : Nat → Prop} {w w' : World} (h : Chg S w w') {k : Nat} {o : Obj} (hv : w.heap[k]? = some o) (hn : ¬ S k) : w'.heap[k]? = some o := (h.block k (lt_of_heap hv) hn).trans hv
theorem Ext.blk {w w' : World} (h : Ext w w') {k : Nat} {o : Obj} (hv : w.heap[k]? = some o) : w'.heap[k]? = some o := Chg.blk h hv (fun h => h)
theorem Ext.size' {w w' : World} (h : Ext w w') : w.heap.size ≤ w'.heap.size := Chg.size h

/-- The frame after a call, and the walk's rule for old cells. -/
theorem Ext.rules {w w' : World} (h : Ext w w') : (∀ b o, b < w.heap.size → w'.cell? ⟨b, o, none⟩ = w.cell? ⟨b, o, none⟩) ∧ (∀ b o, b < w.heap.size → w'.frozen? ⟨b, o, none⟩ = w.frozen? ⟨b, o, none⟩) :=
  ⟨fun b o hb => Chg.cell (p := ⟨b, o, none⟩) h hb (fun h => h), fun b o hb => Chg.frozen (p := ⟨b, o, none⟩) h hb (fun h => h)⟩

/-- Block g is just the cells cs. -/
def Blk (w : World) (g : Nat) (t : TypeId) (cs : Array Value) : Prop := w.heap[g]? = some (.cells cs t (0, 0))
section
variable {w w' : World} {g : Nat} {t : TypeId} {cs : Array Value}
theorem Blk.lt (h : Blk w g t cs) : g < w.heap.size := lt_of_heap h
theorem Blk.cell (h : Blk w g t cs) (i : Nat) : w.cell? ⟨g, i, none⟩ = cs[i]? := cell_of_row w g i cs t (0, 0) h
theorem Blk.frozen (h : Blk w g t cs) (i : Nat) : w.frozen? ⟨g, i, none⟩ = false := by
  unfold Blk at h
  simp [World.frozen?, h]
theorem Blk.new (w : World) (t : TypeId) (cs : Array Value) : Blk (w.alloc (.cells cs t)) w.heap.size t cs := heap_alloc_new w _
theorem Blk.new' (w : World) (t : TypeId) (cs : Array Value) {g : Nat} (hg : g = w.heap.size) : Blk (w.alloc (.cells cs t)) g t cs := by subst hg; exact heap_alloc_new w _
theorem Blk.drew (h : Blk w g t cs) : Blk w.drew g t cs := h
theorem Blk.drewN (h : Blk w g t cs) (n : Nat) : Blk (w.drewN n) g t cs := h
theorem Blk.alloc (h : Blk w g t cs) (o : Obj) : Blk (w.alloc o) g t cs := (Below.heap_alloc w o g h.lt).trans h
theorem Blk.set_ (h : Blk w g t cs) (i : Nat) (u : Value) : Blk (w.setCell ⟨g, i, none⟩ u) g t (cs.setIfInBounds i u) := by
  unfold Blk at h ⊢
  simp [World.setCell, Array.getElem?_modify, h]
theorem Blk.far (h : Blk w g t cs) {p : Addr} (hp : g ≠ p.block) (u : Value) : Blk (w.setCell p u) g t cs := (Below.heap_setCell w p u g hp).trans h
theorem Blk.chg {S : Nat → Prop} (h : Blk w g t cs) (hc : Chg S w w') (hn : ¬ S g) : Blk w' g t cs := Chg.blk hc h hn
theorem Blk.cells1 {a : Value} (h : Blk w g t #[a]) : w.cell? ⟨g, 0, none⟩ = some a ∧ (∀ i, w.frozen? ⟨g, i, none⟩ = false) ∧ g < w.heap.size := ⟨h.cell 0, h.frozen, h.lt⟩
theorem Blk.cells2 {a b : Value} (h : Blk w g t #[a, b]) : w.cell? ⟨g, 0, none⟩ = some a ∧ w.cell? ⟨g, 1, none⟩ = some b ∧ (∀ i, w.frozen? ⟨g, i, none⟩ = false) ∧ g < w.heap.size := ⟨h.cell 0, h.cell 1, h.frozen, h.lt⟩
theorem Blk.cells3 {a b c : Value} (h : Blk w g t #[a, b, c]) : w.cell? ⟨g, 0, none⟩ = some a ∧ w.cell? ⟨g, 1, none⟩ = some b ∧ w.cell? ⟨g, 2, none⟩ = some c ∧ (∀ i, w.frozen? ⟨g, i, none⟩ = false) ∧ g < w.heap.size := ⟨h.cell 0, h.cell 1, h.cell 2, h.frozen, h.lt⟩
theorem Blk.cells4 {a b c d : Value} (h : Blk w g t #[a, b, c, d]) : w.cell? ⟨g, 0, none⟩ = some a ∧ w.cell? ⟨g, 1, none⟩ = some b ∧ w.cell? ⟨g, 2, none⟩ = some c ∧ w.cell? ⟨g, 3, none⟩ = some d ∧ (∀ i, w.frozen? ⟨g, i, none⟩ = false) ∧ g < w.heap.size := ⟨h.cell 0, h.cell 1, h.cell 2, h.cell 3, h.frozen, h.lt⟩
theorem Blk.ext (h : Blk w g t cs) (hc : Ext w w') : Blk w' g t cs := Ext.blk hc h
end

/-- What a cell holds: for a region whose last store hits a cell that it loads. -/
def held (w : World) (p : Addr) : Value := (w.cell? p).getD undef
theorem held_of {w : World} {p : Addr} {v : Value} (h : w.cell? p = some v) : held w p = v := by unfold held; rw [h]; rfl
theorem cell_held {w : World} {p : Addr} {v : Value} (h : w.cell? p = some v) : w.cell? p = some (held w p) := by rw [held_of h]; exact h

/-! ### Slices that read as lists of cells -/
theorem block_of_add (a : Addr) (n : Nat) : (a.add n).block = a.block := by unfold Addr.add; split <;> rfl
theorem add_of_add (a : Addr) (i j : Nat) : (a.add i).add j = a.add (i + j) := by
  unfold Addr.add
  by_cases hi : i = 0 <;> by_cases hj : j = 0 <;> simp [hi, hj, Nat.add_assoc]
theorem add_lit (b o n : Nat) : (⟨b, o, none⟩ : Addr).add n = ⟨b, o + n, none⟩ := by
  unfold Addr.add; split <;> simp_all

/-- The slice value v of n elements (size cells each) reads as the cells xs; every cell lies below block B. -/
def Reads (w : World) (size : Nat) (v : Value) (n : Nat) (xs : List Value) : Prop :=
  xs.length = n * size ∧ ∃ A c, v = .slice A n c ∧ n ≤ c ∧ c ≤ maxLen ∧ (0 < n → ∃ b o, A = some ⟨b, o, none⟩ ∧ ∀ j u, xs[j]? = some u → w.cell? ⟨b, o + j, none⟩ = some u)

section
variable {w w' : World} {size n : Nat} {v : Value} {xs : List Value}
theorem Reads.nil (w : World) (size : Nat) : Reads w size (.slice none 0 0) 0 [] := ⟨by simp, none, 0, rfl, Nat.le_refl _, Nat.zero_le _, fun h => absurd h (by omega)⟩
theorem Reads.keep (h : Reads w size v n xs) (hk : ∀ p u, w.cell? p = some u → w'.cell? p = some u) : Reads w' size v n xs := by
  obtain ⟨h1, A, c, rfl, h2, h3, h4⟩ := h
  refine ⟨h1, A, c, rfl, h2, h3, fun hn => ?_⟩
  obtain ⟨b, o, rfl, hc⟩ := h4 hn
  exact ⟨b, o, rfl, fun j u hu => hk _ _ (hc j u hu)⟩
theorem Reads.ext (h : Reads w size v n xs) (he : Ext w w') : Reads w' size v n xs := h.keep (fun _ _ hc => Ext.cellv he hc)
theorem Reads.of_own {base : Nat} {e : TypeId} (h : w.ownsRow base e size v n xs) : Reads w size v n xs := by
  refine ⟨h.1, ?_⟩
  rcases h.2 with ⟨rfl, rfl⟩ | ⟨g, cap, cur, rfl, hb, hg, hnc, hcm, hcs, htake⟩
  · exact ⟨none, 0, rfl, Nat.le_refl _, Nat.zero_le _, fun h => absurd h (by omega)⟩
  · refine ⟨_, cap, rfl, hnc, hcm, fun _ => ⟨g, 0, rfl, fun j u hu => ?_⟩⟩
    have := h.cells (g := g) rfl j u hu
    rwa [add_lit] at this
end

section
variable {w w' : World} {size n : Nat} {v : Value} {xs : List Value}
theorem Reads.chg {S : Nat → Prop} (h : Reads w size v n xs) (he : Chg S w w') (hS : ∀ k, 0 < n → v.ownBlock = some k → ¬ S k) : Reads w' size v n xs := by
  obtain ⟨h1, A, c, rfl, h2, h3, h4⟩ := h
  refine ⟨h1, A, c, rfl, h2, h3, fun hn => ?_⟩
  obtain ⟨b, o, rfl, hc⟩ := h4 hn
  exact ⟨b, o, rfl, fun j u hu => Chg.cellv he (hc j u hu) (hS b hn rfl)⟩
/-- Behind the cells of an element. -/
theorem Reads.at1 {k : Nat} (h : Reads w 1 v n xs) (hk : k < n) : ∃ b o c u, v = .slice (some ⟨b, o, none⟩) n c ∧ n ≤ c ∧ c ≤ maxLen ∧ b < w.heap.size ∧ xs[k]? = some u ∧ w.cell? ⟨b, o + k, none⟩ = some u := by
  obtain ⟨h1, A, c, rfl, h2, h3, h4⟩ := h
  obtain ⟨b, o, rfl, hc⟩ := h4 (by omega)
  have hl : k < xs.length := by omega
  have := hc k _ (List.getElem?_eq_getElem hl)
  exact ⟨b, o, c, xs[k], rfl, h2, h3, lt_of_cell this, List.getElem?_eq_getElem hl, this⟩
theorem Reads.at2 {k : Nat} (h : Reads w 2 v n xs) (hk : k < n) : ∃ b o c u1 u2, v = .slice (some ⟨b, o, none⟩) n c ∧ n ≤ c ∧ c ≤ maxLen ∧ b < w.heap.size ∧ xs[k * 2]? = some u1 ∧ xs[k * 2 + 1]? = some u2 ∧
    w.cell? ⟨b, o + k * 2, none⟩ = some u1 ∧ w.cell? ⟨b, o + k * 2 + 1, none⟩ = some u2 := by
  obtain ⟨h1, A, c, rfl, h2, h3, h4⟩ := h
  obtain ⟨b, o, rfl, hc⟩ := h4 (by omega)
  have hl : k * 2 < xs.length := by omega
  have hl' : k * 2 + 1 < xs.length := by omega
  have e1 := hc (k * 2) _ (List.getElem?_eq_getElem hl)
  have e2 := hc (k * 2 + 1) _ (List.getElem?_eq_getElem hl')
  exact ⟨b, o, c, _, _, rfl, h2, h3, lt_of_cell e1, List.getElem?_eq_getElem hl, List.getElem?_eq_getElem hl', e1, by rw [← Nat.add_assoc] at e2; exact e2⟩
theorem Reads.own_lt (h : Reads w size v n xs) (hsz : 0 < size) (hn : 0 < n) : ∀ k, v.ownBlock = some k → k < w.heap.size := by
  obtain ⟨h1, B, c, rfl, h2, h3, h4⟩ := h
  obtain ⟨b, o, rfl, hc⟩ := h4 hn
  intro k hk
  cases hk
  have hl : 0 < xs.length := by rw [h1]; exact Nat.mul_pos hn hsz
  exact lt_of_cell (hc 0 xs[0] (List.getElem?_eq_getElem hl))
theorem Reads.len_le (h : Reads w size v n xs) : n ≤ maxLen := by
  obtain ⟨h1, A, c, rfl, h2, h3, h4⟩ := h; omega
end

theorem Reads.new (w : World) (cs : Array Value) (e : TypeId) (size n c : Nat) (xs : List Value) (hx : xs.length = n * size) (hc : n ≤ c) (hm : c ≤ maxLen) (ht : cs.toList.take xs.length = xs) :
    Reads (w.alloc (.cells cs e)) size (.slice (some ⟨w.heap.size, 0, none⟩) n c) n xs := by
  refine ⟨hx, _, c, rfl, hc, hm, fun _ => ⟨w.heap.size, 0, rfl, fun j u hu => ?_⟩⟩
  have hj : j < xs.length := by
    rcases Nat.lt_or_ge j xs.length with h | h
    · exact h
    · rw [List.getElem?_eq_none h] at hu; cases hu
  rw [Nat.zero_add, World.cell?_alloc_new]
  rw [← ht, List.getElem?_take, if_pos hj] at hu
  simpa using hu
theorem Reads.new1 (w : World) (u : Value) (e : TypeId) : Reads (w.alloc (.cells #[u] e)) 1 (.slice (some ⟨w.heap.size, 0, none⟩) 1 1) 1 [u] :=
  Reads.new w #[u] e 1 1 1 [u] rfl (Nat.le_refl _) (by unfold maxLen; omega) rfl

/-! ### A slice that the call owns, and append -/
/-- A slice type, its element type, the element's cells and bytes. -/
structure SlTy (P : Program) (t e : TypeId) (size bytes : Nat) : Prop where
  und : P.underlying t = some (.slice e)
  info : ∃ (i : TypeInfo) (z : Value), P.info? e = some i ∧ i.zero = some z ∧ i.size = size ∧ i.bytes = bytes ∧ z.cells.size = size
  pos : 0 < size
  bpos : 0 < bytes
theorem SlTy.mk' {P : Program} {t e : TypeId} {z : Value} {size bytes : Nat} (hu : P.underlying t = some (.slice e)) (h : (P.info? e).map (fun i => (i.zero, i.size, i.bytes)) = some (some z, size, bytes)) (hz : z.cells.size = size) (h0 : 0 < size) (hb : 0 < bytes) : SlTy P t e size bytes := by
  obtain ⟨i, hi, h1, h2, h3⟩ := info_parts h
  exact ⟨hu, ⟨i, z, hi, h1, h2, h3, hz⟩, h0, hb⟩
def AllOne (xs : List Value) : Prop := ∀ u ∈ xs, u.oneCell' = true
theorem AllOne.map {α : Type} {f : α → Value} (hf : ∀ a, (f a).oneCell' = true) (l : List α) : AllOne (l.map f) := by
  intro u hu
  obtain ⟨a, _, rfl⟩ := List.mem_map.1 hu
  exact hf a
theorem AllOne.one {u : Value} (h : u.oneCell' = true) : AllOne [u] := by
  intro x hx; simp at hx; subst hx; exact h
theorem ownsRow_chg {w w' : World} {base : Nat} {e : TypeId} {size : Nat} {v : Value} {n : Nat} {xs : List Value} {S : Nat → Prop} (h : w.ownsRow base e size v n xs) (hc : Chg S w w') (hS : ∀ k, v.ownBlock = some k → ¬ S k) : w'.ownsRow base e size v n xs := by
  refine ⟨h.1, ?_⟩
  rcases h.2 with hn | ⟨g, cap, cur, rfl, hb, hgg, rest⟩
  · exact .inl hn
  · exact .inr ⟨g, cap, cur, rfl, hb, Chg.blk hc hgg (hS g rfl), rest⟩
theorem ownsRow_ext {w w' : World} {base : Nat} {e : TypeId} {size : Nat} {v : Value} {n : Nat} {xs : List Value} (h : w.ownsRow base e size v n xs) (hc : Ext w w') : w'.ownsRow base e size v n xs := ownsRow_chg h hc (fun _ _ h => h)

theorem lit_own {g n c b : Nat} (h : g ≠ b) : ¬ (Value.slice (some ⟨g, 0, none⟩) n c).ownBlock = some b := by
  intro e
  simp only [Value.ownBlock, Option.some.injEq] at e
  exact h e
theorem own_empty (w : World) (B : Nat) (e : TypeId) (size : Nat) (hb : B ≤ w.heap.size) : (w.alloc (.cells #[] e)).ownsRow B e size (.slice (some ⟨w.heap.size, 0, none⟩) 0 0) 0 [] :=
  ⟨by simp, .inr ⟨w.heap.size, 0, #[], rfl, hb, heap_alloc_new w _, Nat.le_refl _, Nat.zero_le _, by simp, by simp⟩⟩
section
variable {P : Program} {w : World}
theorem run_app {B : Nat} {t ty e : TypeId} {size bytes : Nat} (T : SlTy P t e size bytes) {v : Value} {n : Nat} {xs : List Value} (hown : w.ownsRow B e size v n xs)
    {u : Value} {m : Nat} {news : List Value} (hr : Reads w size u m news) (h1 : AllOne news) (hbytes : (n + m) * bytes ≤ 140737488355328) (hbase : B ≤ w.heap.size) :
    ∃ v' w', (Builtin.append_ #[t, t] ty #[v, u]).run P w = .ok v' w' ∧ w'.ownsRow B e size v' (n + m) (xs ++ news) ∧ Chg (fun k => v.ownBlock = some k) w w' ∧
      (v'.ownBlock = v.ownBlock ∨ ∃ g, v'.ownBlock = some g ∧ w.heap.size ≤ g ∧ g < w'.heap.size) := by
  obtain ⟨ht, ⟨i, z, hi, hz, hsize, hby, hzs⟩, hsz, hbp⟩ := T
  obtain ⟨hl, A, c, rfl, hmc, hcm, hcell⟩ := hr
  have h63 : n + m ≤ maxLen := by
    have : (n + m) * 1 ≤ (n + m) * bytes := Nat.mul_le_mul_left _ hbp
    unfold maxLen; omega
  rcases A with _ | ad
  · have hm : m = 0 := by
      rcases Nat.eq_zero_or_pos m with h0 | h0
      · exact h0
      · obtain ⟨b, o, h, _⟩ := hcell h0
        cases h
    subst hm
    have hn : news = [] := List.eq_nil_of_length_eq_zero (by simpa using hl)
    subst hn
    refine ⟨v, w, ?_, by simpa using hown, Chg.refl _ _, .inl rfl⟩
    rcases hown.2 with ⟨rfl, rfl⟩ | ⟨g, cap, cur, rfl, _, _, hnc, _⟩
    · simp [Builtin.append_, run_underlying ht, sizeOf, typeInfo, hi, Builtin.lenOf, Builtin.firstCells]
    · simp [Builtin.append_, run_underlying ht, sizeOf, typeInfo, hi, Builtin.lenOf, Builtin.firstCells, hnc, storeCells]
  · have hcells : ∀ j u, news[j]? = some u → w.cell? (ad.add j) = some u := by
      intro j u hu
      rcases Nat.eq_zero_or_pos m with h0 | h0
      · subst h0
        have hn : news = [] := List.eq_nil_of_length_eq_zero (by simpa using hl)
        subst hn
        simp at hu
      · obtain ⟨b, o, h, hc⟩ := hcell h0
        injection h with h
        subst h
        rw [add_lit]
        exact hc j u hu
    obtain ⟨v', w', hrun, h2, h3, _, h5⟩ := run_append_own_at (P := P) w B t ty e i z size bytes ht hi hz hsize hby hzs hsz v n xs hown ad m c news hl hcells h1 h63 hbytes hbase
    refine ⟨v', w', hrun, h2, ⟨h3.os, h3.tape, h3.output, h3.size, fun k hk hn => h3.block k hk (fun e => hn e.symm)⟩, ?_⟩
    rcases h5 with h5 | h5
    · exact .inl h5
    · exact .inr ⟨_, h5, Nat.le_refl _, (h2.lt _ h5).2⟩

theorem own_slice {w : World} {B : Nat} {e : TypeId} {size : Nat} {v : Value} {n : Nat} {xs : List Value} (h : w.ownsRow B e size v n xs) : ∃ A c, v = .slice A n c := by
  rcases h.2 with ⟨rfl, rfl⟩ | ⟨g, cap, cur, rfl, _⟩
  · exact ⟨_, _, rfl⟩
  · exact ⟨_, _, rfl⟩
theorem wp_app {o : Oper} {a : Act} {K : Act → World → Prop} {Q : Exit → Act → World → Prop} {s x : Operand} {t : TypeId}
    (ho : o.op = .call { callee := .builtin .append, args := #[s, x], argTypes := #[t, t] })
    {B : Nat} {e : TypeId} {size bytes : Nat} (T : SlTy P t e size bytes) {v : Value} (hs : a.eval s = v) {n : Nat} {xs : List Value} (hown : w.ownsRow B e size v n xs)
    {u : Value} (hx : a.eval x = u) {m : Nat} {news : List Value} (hr : Reads w size u m news) (h1 : AllOne news) (hbytes : (n + m) * bytes ≤ 140737488355328) (hbase : B ≤ w.heap.size)
    (h : ∀ (A' : Option Addr) (c' : Nat) w', w'.ownsRow B e size (.slice A' (n + m) c') (n + m) (xs ++ news) → Chg (fun k => v.ownBlock = some k) w w' → ((Value.slice A' (n + m) c').ownBlock = v.ownBlock ∨ ∃ g, (Value.slice A' (n + m) c').ownBlock = some g ∧ w.heap.size ≤ g ∧ g < w'.heap.size) → K (a.put o.dst (.slice A' (n + m) c')) w') : o.wp P a w K Q := by
  obtain ⟨v', w', hrun, h2, h3, h4⟩ := run_app (P := P) (ty := o.type) T hown hr h1 hbytes hbase
  unfold Oper.wp execOp
  simp only [ho, resolve, invoke, builtin, Sem.run_bind, Sem.run_pure, Result.andThen_ok, List.map_toArray, List.map_cons, List.map_nil, hs, hx, hrun]
  obtain ⟨A', c', rfl⟩ := own_slice h2
  exact h A' c' w' h2 h3 h4

/-- The law for a region that draws its order. -/
theorem step_app {ops : Array Oper} {o : Oper} {a : Act} {K : Act → World → Prop} {Q : Exit → Act → World → Prop} {E : Prop} (hgd : o.guard = none) {s x : Operand} {t : TypeId}
    (ho : o.op = .call { callee := .builtin .append, args := #[s, x], argTypes := #[t, t] })
    {B : Nat} {e : TypeId} {size bytes : Nat} (T : SlTy P t e size bytes) {v : Value} (hs : a.eval s = v) {n : Nat} {xs : List Value} (hown : w.ownsRow B e size v n xs)
    {u : Value} (hx : a.eval x = u) {m : Nat} {news : List Value} (hr : Reads w size u m news) (h1 : AllOne news) (hbytes : (n + m) * bytes ≤ 140737488355328) (hbase : B ≤ w.heap.size)
    (h : ∀ (A' : Option Addr) (c' : Nat) w', w'.ownsRow B e size (.slice A' (n + m) c') (n + m) (xs ++ news) → Chg (fun k => v.ownBlock = some k) w w' → ((Value.slice A' (n + m) c').ownBlock = v.ownBlock ∨ ∃ g, (Value.slice A' (n + m) c').ownBlock = some g ∧ w.heap.size ≤ g ∧ g < w'.heap.size) → K (a.put o.dst (.slice A' (n + m) c')) w') :
    if Region.wanted o (yielded ops a.tmps) = true then Oper.wp P o a w K Q else E := by
  have hw : Region.wanted o (yielded ops a.tmps) = true := by simp [Region.wanted, hgd]
  rw [if_pos hw]
  exact wp_app ho T hs hown hx hr h1 hbytes hbase h

theorem wpList_app {ops : Array Oper} {rest : List Oper} {o : Oper} {a : Act} {Q : Exit → Act → World → Prop} (hgd : o.guard = none) {s x : Operand} {t : TypeId}
    (ho : o.op = .call { callee := .builtin .append, args := #[s, x], argTypes := #[t, t] })
    {B : Nat} {e : TypeId} {size bytes : Nat} (T : SlTy P t e size bytes) {v : Value} (hs : a.eval s = v) {n : Nat} {xs : List Value} (hown : w.ownsRow B e size v n xs)
    {u : Value} (hx : a.eval x = u) {m : Nat} {news : List Value} (hr : Reads w size u m news) (h1 : AllOne news) (hbytes : (n + m) * bytes ≤ 140737488355328) (hbase : B ≤ w.heap.size)
    (h : ∀ (A' : Option Addr) (c' : Nat) w', w'.ownsRow B e size (.slice A' (n + m) c') (n + m) (xs ++ news) → Chg (fun k => v.ownBlock = some k) w w' → ((Value.slice A' (n + m) c').ownBlock = v.ownBlock ∨ ∃ g, (Value.slice A' (n + m) c').ownBlock = some g ∧ w.heap.size ≤ g ∧ g < w'.heap.size) → wpList P ops Q rest (a.put o.dst (.slice A' (n + m) c')) w') : wpList P ops Q (o :: rest) a w :=
  wpList_plain hgd fun _ hK => wp_app ho T hs hown hx hr h1 hbytes hbase fun A' c' w' h2 h3 h4 => hK _ _ (h A' c' w' h2 h3 h4)
end

/-- An element of a row that the call owns. -/
theorem own_at {w : World} {B : Nat} {e : TypeId} {v : Value} {n k : Nat} {xs : List Value} (h : w.ownsRow B e 1 v n xs) (hk : k < n) :
    ∃ g cap u, v = .slice (some ⟨g, 0, none⟩) n cap ∧ B ≤ g ∧ g < w.heap.size ∧ xs[k]? = some u ∧ w.cell? ⟨g, k, none⟩ = some u ∧ ∀ i, w.frozen? ⟨g, i, none⟩ = false := by
  have hl := h.1
  rcases h.2 with ⟨rfl, rfl⟩ | ⟨g, cap, cur, rfl, hb, hg, hnc, hcm, hcs, htake⟩
  · omega
  · have hc := h.cells (g := g) rfl k xs[k] (List.getElem?_eq_getElem (by omega))
    rw [add_lit, Nat.zero_add] at hc
    exact ⟨g, cap, xs[k], rfl, hb, lt_of_heap hg, List.getElem?_eq_getElem (by omega), hc, fun i => by simp [World.frozen?, hg]⟩
theorem own_set {w : World} {B : Nat} {e : TypeId} {g n cap : Nat} {xs : List Value} (h : w.ownsRow B e 1 (.slice (some ⟨g, 0, none⟩) n cap) n xs) (k : Nat) (_hk : k < n) (u : Value) :
    (w.setCell ⟨g, k, none⟩ u).ownsRow B e 1 (.slice (some ⟨g, 0, none⟩) n cap) n (xs.set k u) := by
  have hl := h.1
  refine ⟨by rw [List.length_set]; exact hl, ?_⟩
  rcases h.2 with ⟨e, _⟩ | ⟨g', cap', cur, hv, hb, hg, hnc, hcm, hcs, htake⟩
  · cases e
  · cases hv
    refine .inr ⟨g, cap, cur.setIfInBounds k u, rfl, hb, ?_, hnc, hcm, by simpa using hcs, ?_⟩
    · simp [World.setCell, Array.getElem?_modify, hg]
    · rw [← htake, Array.toList_setIfInBounds, List.take_set]

/-- Rows of different element types lie in different blocks. -/
theorem own_ne {w : World} {B B' : Nat} {e e' : TypeId} {size size' n n' : Nat} {v v' : Value} {xs xs' : List Value} (h : w.ownsRow B e size v n xs) (h' : w.ownsRow B' e' size' v' n' xs') (hne : e ≠ e') {g : Nat} (hg : v.ownBlock = some g) : v'.ownBlock ≠ some g := by
  intro hg'
  rcases h.2 with ⟨rfl, _⟩ | ⟨g1, c1, u1, rfl, _, hh, _⟩
  · simp [Value.ownBlock] at hg
  rcases h'.2 with ⟨rfl, _⟩ | ⟨g2, c2, u2, rfl, _, hh', _⟩
  · simp [Value.ownBlock] at hg'
  simp [Value.ownBlock] at hg hg'
  subst hg hg'
  rw [hh] at hh'
  injection hh' with hh'
  injection hh' with _ ht
  exact hne ht
theorem own_blk_ne {w : World} {B : Nat} {e t : TypeId} {size n g : Nat} {v : Value} {xs : List Value} {cs : Array Value} (h : w.ownsRow B e size v n xs) (hg : Blk w g t cs) (hne : e ≠ t) : v.ownBlock ≠ some g := by
  rcases h.2 with ⟨rfl, _⟩ | ⟨g', cap, cur, rfl, _, hh, _⟩
  · simp [Value.ownBlock]
  · intro he
    have : g' = g := by simpa [Value.ownBlock] using he
    subst this
    unfold Blk at hg
    rw [hh] at hg
    injection hg with hg
    injection hg with _ ht
    exact hne ht

/-! ### Step programs -/
/-- An access, and its result. -/
structure Acc where
  kind : Int
  bank : Int
  cell : Int
  bytes : ByteArray
structure Res where
  val : Int
  bytes : ByteArray
def Acc.v (a : Acc) : Value := .agg #[.int .i64 a.kind, .int .i64 a.bank, .int .i64 a.cell, .string a.bytes]
def Res.v (r : Res) : Value := .agg #[.int .i64 r.val, .string r.bytes]
def noBytes : ByteArray := { data := #[] }

/-- A step program: it ends with a value, or asks for an access and goes on with its result. -/
inductive Prg (α : Type) : Type where
  | ret (a : α)
  | ask (a : Acc) (k : Res → Prg α)

def Prg.bind {α β : Type} : Prg α → (α → Prg β) → Prg β
  | .ret a, f => f a
  | .ask a k, f => .ask a fun r => (k r).bind f
theorem Prg.bind_ret {α β : Type} (a : α) (f : α → Prg β) : (Prg.ret a).bind f = f a := rfl
theorem Prg.bind_ask {α β : Type} (a : Acc) (k : Res → Prg α) (f : α → Prg β) : (Prg.ask a k).bind f = .ask a fun r => (k r).bind f := rfl
theorem Prg.bind_assoc {α β γ : Type} (p : Prg α) (f : α → Prg β) (g : β → Prg γ) : (p.bind f).bind g = p.bind fun a => (f a).bind g := by
  induction p with
  | ret a => rfl
  | ask a k ih => simp only [Prg.bind]; congr 1; funext r; exact ih r

/-- How a step program comes out: with a value and a new state, or stopped. -/
def Prg.run {α σ ε : Type} (d : Acc → σ → EStateM.Result ε σ Res) : Prg α → σ → EStateM.Result ε σ α
  | .ret a, s => .ok a s
  | .ask a k, s => match d a s with
    | .ok r s' => (k r).run d s'
    | .error e s' => .error e s'

theorem Prg.run_bind_ok {α β σ ε : Type} {d : Acc → σ → EStateM.Result ε σ Res} {p : Prg α} {f : α → Prg β} {s s' : σ} {a : α} (h : p.run d s = .ok a s') : (p.bind f).run d s = (f a).run d s' := by
  induction p generalizing s with
  | ret b => cases h; rfl
  | ask b k ih =>
    simp only [Prg.run, Prg.bind] at h ⊢
    cases hd : d b s with
    | ok r s1 => rw [hd] at h; exact ih r h
    | error e s1 => rw [hd] at h; cases h
theorem Prg.run_bind_error {α β σ ε : Type} {d : Acc → σ → EStateM.Result ε σ Res} {p : Prg α} {f : α → Prg β} {s s' : σ} {e : ε} (h : p.run d s = .error e s') : (p.bind f).run d s = .error e s' := by
  induction p generalizing s with
  | ret b => cases h
  | ask b k ih =>
    simp only [Prg.run, Prg.bind] at h ⊢
    cases hd : d b s with
    | ok r s1 => rw [hd] at h; exact ih r h
    | error e s1 => rw [hd] at h; cases h; rfl

/-- Whatever the results of its accesses, the program ends with a value that meets R. -/
def Prg.All {α : Type} (R : α → Prop) : Prg α → Prop
  | .ret a => R a
  | .ask _ k => ∀ r, Prg.All R (k r)
theorem Prg.All.triv {α : Type} (p : Prg α) : Prg.All (fun _ => True) p := by
  induction p with
  | ret a => trivial
  | ask a k ih => exact fun r => ih r
theorem Prg.All.mono {α : Type} {R R' : α → Prop} {p : Prg α} (h : Prg.All R p) (hr : ∀ a, R a → R' a) : Prg.All R' p := by
  induction p with
  | ret a => exact hr a h
  | ask a k ih => exact fun r => ih r (h r)
theorem Prg.All.bind {α β : Type} {R : α → Prop} {R' : β → Prop} {p : Prg α} {f : α → Prg β} (h : Prg.All R p) (hf : ∀ a, R a → Prg.All R' (f a)) : Prg.All R' (p.bind f) := by
  induction p with
  | ret a => exact hf a h
  | ask a k ih => exact fun r => ih r (h r)

/-- Replay: the results come from a log; behind its end the first access stops the program. -/
def replay (log : List Res) (a : Acc) (i : Nat) : EStateM.Result Acc Nat Res :=
  match log[i]? with
  | some r => .ok r (i + 1)
  | none => .error a i
def Res.cells (r : Res) : List Value := [.int .i64 r.val, .string r.bytes]
def logCells (log : List Res) : List Value := log.flatMap Res.cells
theorem logCells_length (log : List Res) : (logCells log).length = log.length * 2 := by
  unfold logCells
  induction log with
  | nil => rfl
  | cons r l ih => rw [List.flatMap_cons, List.length_append, ih]; simp [Res.cells]; omega
theorem logCells_get (log : List Res) : ∀ i, (logCells log)[i * 2]? = (log[i]?).map (fun r => Value.int .i64 r.val) ∧ (logCells log)[i * 2 + 1]? = (log[i]?).map (fun r => Value.string r.bytes) := by
  unfold logCells
  induction log with
  | nil => intro i; simp
  | cons r l ih =>
    intro i
    cases i with
    | zero => simp [Res.cells]
    | succ i =>
      have := ih i
      rw [List.flatMap_cons]
      simp only [Res.cells, List.getElem?_cons_succ]
      rw [show (i + 1) * 2 = i * 2 + 1 + 1 from by omega]
      simpa using this

/-- What a call that carries out a step program leaves. -/
def StepPost {α σ ε : Type} (Inv : σ → (Nat → Prop) → World → Prop) (S X : Nat → Prop) (pan : ε → Value) (w : World) (val : α → Value) (r : EStateM.Result ε σ α) (e : Ending) (w' : World) : Prop :=
  match r with
  | .ok a s => e = .returned (val a) ∧ Inv s X w' ∧ Chg S w w'
  | .error er s => e = .panicked [{ v := pan er, recovered := false }] ∧ Inv s X w' ∧ Chg S w w'

section
variable {α σ ε : Type} {Inv : σ → (Nat → Prop) → World → Prop} {S X : Nat → Prop} {pan : ε → Value} {w w' : World} {val : α → Value} {r : EStateM.Result ε σ α} {e : Ending} {a : α} {s : σ} {er : ε}
theorem StepPost.ok (hr : r = .ok a s) (he : e = .returned (val a)) (hi : Inv s X w') (hc : Chg S w w') : StepPost Inv S X pan w val r e w' := by subst hr; exact ⟨he, hi, hc⟩
theorem StepPost.err (hr : r = .error er s) (he : e = .panicked [{ v := pan er, recovered := false }]) (hi : Inv s X w') (hc : Chg S w w') : StepPost Inv S X pan w val r e w' := by subst hr; exact ⟨he, hi, hc⟩
theorem StepPost.of_ok (hr : r = .ok a s) (h : StepPost Inv S X pan w val r e w') : e = .returned (val a) ∧ Inv s X w' ∧ Chg S w w' := by subst hr; exact h
theorem StepPost.of_err (hr : r = .error er s) (h : StepPost Inv S X pan w val r e w') : e = .panicked [{ v := pan er, recovered := false }] ∧ Inv s X w' ∧ Chg S w w' := by subst hr; exact h
end

/-- The function value 'do': what a call of it does, and what its state leans on. X: blocks that are the caller's own. -/
structure DoEnv {σ ε : Type} (P : Program) (F : FuncId) (caps : Array Value) (d : Acc → σ → EStateM.Result ε σ Res) (pan : ε → Value) (Inv : σ → (Nat → Prop) → World → Prop) (S : Nat → Prop) : Prop where
  call : ∀ (args : Array Value) (w : World), (callFunc F args).run P w = .ok (.enter F args) w
  step : ∀ a s X w, Inv s X w → Calls P F (#[a.v] ++ caps) w (StepPost Inv S X pan w Res.v (d a s))
  chg : ∀ s X w w', Inv s X w → Chg X w w' → Inv s X w'
  add : ∀ s X w w' g, Inv s X w → Chg X w w' → w.heap.size ≤ g → g < w'.heap.size → Inv s (fun k => X k ∨ k = g) w'
  weak : ∀ s X Y w, Inv s X w → (∀ k, Y k → X k) → Inv s Y w
  lt : ∀ s X w k, Inv s X w → X k → k < w.heap.size
  notS : ∀ s X w k, Inv s X w → X k → ¬ S k

/-- A slice that the call appends to while it calls 'do': its block is among those (Y) that 'do' leaves alone. -/
structure Mine {σ : Type} (Inv : σ → (Nat → Prop) → World → Prop) (X : Nat → Prop) (B : Nat) (e : TypeId) (size : Nat) (s : σ) (v : Value) (n : Nat) (xs : List Value) (w : World) : Prop where
  ex : ∃ Y : Nat → Prop, (∀ k, X k → Y k) ∧ (∀ g, v.ownBlock = some g → Y g) ∧ Inv s Y w
  own : w.ownsRow B e size v n xs
section
variable {P : Program} {F : FuncId} {caps : Array Value} {σ ε : Type} {d : Acc → σ → EStateM.Result ε σ Res} {pan : ε → Value} {Inv : σ → (Nat → Prop) → World → Prop} {S X : Nat → Prop}
  {B : Nat} {ty : TypeId} {size : Nat} {s : σ} {v : Value} {n : Nat} {xs : List Value} {w w' : World}
theorem Mine.nil (hi : Inv s X w) : Mine Inv X B ty size s (.slice none 0 0) 0 [] w := ⟨⟨X, fun _ h => h, fun g h => by simp [Value.ownBlock] at h, hi⟩, World.ownsRow_nil _ _ _ _⟩
theorem Mine.inv (E : DoEnv P F caps d pan Inv S) (h : Mine Inv X B ty size s v n xs w) : Inv s X w := by
  obtain ⟨Y, h1, _, h3⟩ := h.ex
  exact E.weak _ _ _ _ h3 h1
theorem Mine.ext (E : DoEnv P F caps d pan Inv S) (h : Mine Inv X B ty size s v n xs w) (hc : Ext w w') : Mine Inv X B ty size s v n xs w' := by
  obtain ⟨Y, h1, h2, h3⟩ := h.ex
  exact ⟨⟨Y, h1, h2, E.chg _ _ _ _ h3 (Ext.chg hc)⟩, ownsRow_ext h.own hc⟩
theorem Mine.app (E : DoEnv P F caps d pan Inv S) (h : Mine Inv X B ty size s v n xs w) {v' : Value} {n' : Nat} {xs' : List Value} (ho : w'.ownsRow B ty size v' n' xs') (hc : Chg (fun k => v.ownBlock = some k) w w')
    (hv : v'.ownBlock = v.ownBlock ∨ ∃ g, v'.ownBlock = some g ∧ w.heap.size ≤ g ∧ g < w'.heap.size) : Mine Inv X B ty size s v' n' xs' w' := by
  obtain ⟨Y, h1, h2, h3⟩ := h.ex
  have hcY : Chg Y w w' := hc.mono (fun k _ hk => h2 k hk)
  rcases hv with hv | ⟨g, hv, hg, hg'⟩
  · exact ⟨⟨Y, h1, fun k hk => h2 k (hv ▸ hk), E.chg _ _ _ _ h3 hcY⟩, ho⟩
  · refine ⟨⟨fun k => Y k ∨ k = g, fun k hk => .inl (h1 k hk), fun k hk => .inr ?_, E.add _ _ _ _ _ h3 hcY hg hg'⟩, ho⟩
    rw [hv] at hk
    injection hk with hk
    exact hk.symm
/-- A call of a step program, met with a contract for every X. -/
theorem Mine.step {α : Type} {val : α → Value} {r : EStateM.Result ε σ α} {f : FuncId} {args : Array Value} (E : DoEnv P F caps d pan Inv S) (h : Mine Inv X B ty size s v n xs w)
    (hf : ∀ Y, Inv s Y w → Calls P f args w (StepPost Inv S Y pan w val r)) :
    Calls P f args w (StepPost (fun s' X' w' => Mine Inv X' B ty size s' v n xs w') S X pan w val r) := by
  obtain ⟨Y, h1, h2, h3⟩ := h.ex
  refine (hf Y h3).mono ?_
  intro e w' hp
  cases r with
  | ok a s' =>
    obtain ⟨he, hi, hc⟩ := hp
    exact ⟨he, ⟨⟨Y, h1, h2, hi⟩, ownsRow_chg h.own hc (fun k hk => E.notS _ _ _ _ h3 (h2 k hk))⟩, hc⟩
  | error er s' =>
    obtain ⟨he, hi, hc⟩ := hp
    exact ⟨he, ⟨⟨Y, h1, h2, hi⟩, ownsRow_chg h.own hc (fun k hk => E.notS _ _ _ _ h3 (h2 k hk))⟩, hc⟩
end

end Go.Proofs.YtoefmncdloffaaaDoor
