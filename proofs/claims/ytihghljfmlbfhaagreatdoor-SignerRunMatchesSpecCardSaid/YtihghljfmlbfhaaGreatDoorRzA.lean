/-
  Several texts in one file: each has its own heading below.
-/
import Derived.WalkKit
import Derived.WalkSpells
import Derived.WalkLawsBesides
import Derived.Handy
import Derived.Deep.QuietTactic
import Derived.BigQuiet
import Derived.Deep.Draws
import Derived.Maps.AppendAt
import Derived.Deep.MidRow
import Derived.Orders
import Derived.Great.BuildSlice
namespace Go.Proofs.YtihghljfmlbfhaaGreatDoor
open Go.RowKit
theorem zA {α : Type} (l : List α) (i : Nat) (a : α) : l.toArray.setIfInBounds i a = (l.set i a).toArray := List.setIfInBounds_toArray ..
theorem zB {α : Type} (x y : α) (l : List α) : (x :: l).set 0 y = y :: l := rfl
theorem zC {α : Type} (x y : α) (l : List α) (n : Nat) : (x :: l).set (n + 1) y = x :: l.set n y := rfl
theorem zD {α : Type} (l : List α) (i : Nat) (h : i < l.toArray.size) : l.toArray[i]'h = l[i]'(by simpa using h) := List.getElem_toArray ..
theorem zE {α : Type} (x : α) (l : List α) (n : Nat) (h : n + 1 < (x :: l).length) : (x :: l)[n + 1]'h = l[n]'(Nat.lt_of_succ_lt_succ h) := rfl
theorem zG {α : Type} {l : List α} {i : Nat} {a : α} : l.getD i a = l[i]?.getD a := List.getD_eq_getElem?_getD
theorem zH {α : Type} {l : List α} {i : Nat} (h : i < l.length) : l[i]? = some l[i] := List.getElem?_eq_getElem h
theorem zF {α : Type} (x : α) (l : List α) (h : 0 < (x :: l).length) : (x :: l)[0]'h = x := rfl
theorem hide {p : Prop} (h : p) : Hid p := h
theorem aA {p : Prop} (h : Hid p) : p := h
theorem pF {k : IntKind} {a b : Int} (h : a = b) : Ending.returned (.int k a) = .returned (.int k b) := by rw [h]
theorem int_eq {k : IntKind} {a b : Int} (h : a = b) : Value.int k a = .int k b := by rw [h]
theorem xM {k : IntKind} {a b : Int} {y : Value} (h : a = b) : Ending.returned (.tuple #[.int k a, y]) = .returned (.tuple #[.int k b, y]) := by rw [h]
structure Chg (S : Nat → Prop) (w w' : World) : Prop where
 os : w'.os = w.os
 tape : w'.tape = w.tape
 output : w'.output = w.output
 size : w.heap.size ≤ w'.heap.size
 block : ∀ k, k < w.heap.size → ¬ S k → w'.heap[k]? = w.heap[k]?
def Non : Nat → Prop := fun _ => False
def Ext (w w' : World) : Prop := Chg Non w w'
theorem Chg.refl (S : Nat → Prop) (w : World) : Chg S w w := ⟨rfl, rfl, rfl, Nat.le_refl _, fun _ _ _ => rfl⟩
theorem Chg.trans' {S T U : Nat → Prop} {a b c : World} (h : Chg S a b) (k : Chg T b c) (hS : ∀ i, i < a.heap.size → S i → U i) (hT : ∀ i, i < a.heap.size → T i → U i) : Chg U a c :=
 ⟨k.os.trans h.os, k.tape.trans h.tape, k.output.trans h.output, Nat.le_trans h.size k.size, fun i hi hn =>
  (k.block i (Nat.lt_of_lt_of_le hi h.size) (fun ht => hn (hT i hi ht))).trans (h.block i hi (fun hs => hn (hS i hi hs)))⟩
theorem Chg.trans {S : Nat → Prop} {a b c : World} (h : Chg S a b) (k : Chg S b c) : Chg S a c := h.trans' k (fun _ _ h => h) (fun _ _ h => h)
theorem Chg.mono {S T : Nat → Prop} {a b : World} (h : Chg S a b) (hS : ∀ i, i < a.heap.size → S i → T i) : Chg T a b :=
 ⟨h.os, h.tape, h.output, h.size, fun i hi hn => h.block i hi (fun hs => hn (hS i hi hs))⟩
theorem Ext.chg {S : Nat → Prop} {a b : World} (h : Ext a b) : Chg S a b := Chg.mono h (fun _ _ h => h.elim)
theorem Chg.ext {S : Nat → Prop} {a b c : World} (h : Chg S a b) (k : Ext b c) : Chg S a c := h.trans k.chg
theorem Ext.refl (w : World) : Ext w w := Chg.refl _ _
theorem Ext.trans {a b c : World} (h : Ext a b) (k : Ext b c) : Ext a c := Chg.trans h k
theorem Chg.alloc {S : Nat → Prop} {a w : World} (h : Chg S a w) (o : Obj) : Chg S a (w.alloc o) :=
 h.trans ⟨rfl, rfl, rfl, by simp, fun k hk _ => Below.heap_alloc _ _ _ hk⟩
theorem Ext.alloc {a w : World} (h : Ext a w) (o : Obj) : Ext a (w.alloc o) := Chg.alloc h o
theorem Chg.drew {S : Nat → Prop} {a w : World} (h : Chg S a w) : Chg S a w.drew := ⟨h.os, h.tape, h.output, h.size, h.block⟩
theorem Ext.drew {a w : World} (h : Ext a w) : Ext a w.drew := Chg.drew h
theorem Chg.drewN {S : Nat → Prop} {a w : World} (h : Chg S a w) (n : Nat) : Chg S a (w.drewN n) := ⟨h.os, h.tape, h.output, h.size, h.block⟩
theorem Ext.drewN {a w : World} (h : Ext a w) (n : Nat) : Ext a (w.drewN n) := Chg.drewN h n
theorem Chg.setCell {S : Nat → Prop} {a w : World} (h : Chg S a w) {p : Addr} (hp : S p.block ∨ a.heap.size ≤ p.block) (u : Value) : Chg S a (w.setCell p u) :=
 ⟨h.os, h.tape, h.output, by simpa [World.setCell] using h.size, fun k hk hn => (Below.heap_setCell _ _ _ _ (by rintro rfl; exact hp.elim hn (fun h => by omega))).trans (h.block k hk hn)⟩
theorem Ext.setCell {a w : World} (h : Ext a w) {p : Addr} (hp : a.heap.size ≤ p.block) (u : Value) : Ext a (w.setCell p u) := Chg.setCell h (.inr hp) u
theorem Chg.grown {S : Nat → Prop} {a w w' : World} {row : Option Nat} (h : Chg S a w) (hg : w.grownBy w' row) (hr : ∀ k, row = some k → S k ∨ a.heap.size ≤ k) : Chg S a w' :=
 ⟨hg.os.trans h.os, hg.tape.trans h.tape, hg.output.trans h.output, Nat.le_trans h.size hg.size, fun k hk hn =>
  (hg.block k (Nat.lt_of_lt_of_le hk h.size) (fun e => (hr k e.symm).elim hn (fun h => by omega))).trans (h.block k hk hn)⟩
theorem Ext.grown {a w w' : World} {row : Option Nat} (h : Ext a w) (hg : w.grownBy w' row) (hr : ∀ k, row = some k → a.heap.size ≤ k) : Ext a w' := Chg.grown h hg (fun k hk => .inr (hr k hk))
theorem Ext.of_below {w w' : World} (h : Below w.heap.size w w') : Ext w w' := ⟨h.os, h.tape, h.output, h.size, fun k hk _ => h.block k hk⟩
theorem Ext.below {w w' : World} (h : Ext w w') : Below w.heap.size w w' := ⟨h.os, h.tape, h.output, h.size, fun k hk => h.block k hk (fun h => h)⟩
theorem Chg.cell {S : Nat → Prop} {w w' : World} (h : Chg S w w') {p : Addr} (hp : p.block < w.heap.size) (hn : ¬ S p.block) : w'.cell? p = w.cell? p := World.cell?_of_block (w := w) (h.block p.block hp hn)
theorem Chg.frozen {S : Nat → Prop} {w w' : World} (h : Chg S w w') {p : Addr} (hp : p.block < w.heap.size) (hn : ¬ S p.block) : w'.frozen? p = w.frozen? p := World.frozen?_of_block (w := w) (h.block p.block hp hn)
theorem lt_of_cell {w : World} {p : Addr} {v : Value} (h : w.cell? p = some v) : p.block < w.heap.size := World.block_lt_of_cell? w p h
theorem Ext.cellv {w w' : World} (h : Ext w w') {p : Addr} {v : Value} (hv : w.cell? p = some v) : w'.cell? p = some v := (Chg.cell h (lt_of_cell hv) (fun h => h)).trans hv
theorem Chg.cellv {S : Nat → Prop} {w w' : World} (h : Chg S w w') {p : Addr} {v : Value} (hv : w.cell? p = some v) (hn : ¬ S p.block) : w'.cell? p = some v := (Chg.cell h (lt_of_cell hv) hn).trans hv
theorem Chg.frozenv {S : Nat → Prop} {w w' : World} (h : Chg S w w') {p : Addr} (hv : w.frozen? p = false) (hl : p.block < w.heap.size) (hn : ¬ S p.block) : w'.frozen? p = false := (Chg.frozen h hl hn).trans hv
theorem Ext.frozenv {w w' : World} (h : Ext w w') {p : Addr} (hv : w.frozen? p = false) (hl : p.block < w.heap.size) : w'.frozen? p = false := (Chg.frozen h hl (fun h => h)).trans hv
theorem lt_of_heap {w : World} {k : Nat} {o : Obj} (h : w.heap[k]? = some o) : k < w.heap.size := (Array.getElem?_eq_some_iff.1 h).1
theorem Chg.blk {S : Nat → Prop} {w w' : World} (h : Chg S w w') {k : Nat} {o : Obj} (hv : w.heap[k]? = some o) (hn : ¬ S k) : w'.heap[k]? = some o := (h.block k (lt_of_heap hv) hn).trans hv
theorem Ext.blk {w w' : World} (h : Ext w w') {k : Nat} {o : Obj} (hv : w.heap[k]? = some o) : w'.heap[k]? = some o := Chg.blk h hv (fun h => h)
theorem Ext.size' {w w' : World} (h : Ext w w') : w.heap.size ≤ w'.heap.size := Chg.size h
theorem Ext.rules {w w' : World} (h : Ext w w') : (∀ b o, b < w.heap.size → w'.cell? ⟨b, o, none⟩ = w.cell? ⟨b, o, none⟩) ∧ (∀ b o, b < w.heap.size → w'.frozen? ⟨b, o, none⟩ = w.frozen? ⟨b, o, none⟩) :=
 ⟨fun b o hb => Chg.cell (p := ⟨b, o, none⟩) h hb (fun h => h), fun b o hb => Chg.frozen (p := ⟨b, o, none⟩) h hb (fun h => h)⟩
def Blk (w : World) (g : Nat) (t : TypeId) (cs : Array Value) : Prop := w.heap[g]? = some (.cells cs t (0, 0))
section
variable {w w' : World} {g : Nat} {t : TypeId} {cs : Array Value}
theorem Blk.lt (h : Blk w g t cs) : g < w.heap.size := lt_of_heap h
theorem Blk.cell (h : Blk w g t cs) (i : Nat) : w.cell? ⟨g, i, none⟩ = cs[i]? := cell_of_row w g i cs t (0, 0) h
theorem Blk.frozen (h : Blk w g t cs) (i : Nat) : w.frozen? ⟨g, i, none⟩ = false := by
 unfold Blk at h
 simp [World.frozen?, h]
theorem Blk.new (w : World) (t : TypeId) (cs : Array Value) : Blk (w.alloc (.cells cs t)) w.heap.size t cs := heap_alloc_new w _
theorem Blk.new' (w : World) (t : TypeId) (cs : Array Value) {g : Nat} (hg : g = w.heap.size) : Blk (w.alloc (.cells cs t)) g t cs := by subst hg; exact heap_alloc_new w _
theorem Blk.drew (h : Blk w g t cs) : Blk w.drew g t cs := h
theorem Blk.drewN (h : Blk w g t cs) (n : Nat) : Blk (w.drewN n) g t cs := h
theorem Blk.alloc (h : Blk w g t cs) (o : Obj) : Blk (w.alloc o) g t cs := (Below.heap_alloc w o g h.lt).trans h
theorem Blk.set_ (h : Blk w g t cs) (i : Nat) (u : Value) : Blk (w.setCell ⟨g, i, none⟩ u) g t (cs.setIfInBounds i u) := by
 unfold Blk at h ⊢
 simp [World.setCell, Array.getElem?_modify, h]
theorem Blk.far (h : Blk w g t cs) {p : Addr} (hp : g ≠ p.block) (u : Value) : Blk (w.setCell p u) g t cs := (Below.heap_setCell w p u g hp).trans h
theorem Blk.chg {S : Nat → Prop} (h : Blk w g t cs) (hc : Chg S w w') (hn : ¬ S g) : Blk w' g t cs := Chg.blk hc h hn
theorem Blk.cells1 {a : Value} (h : Blk w g t #[a]) : w.cell? ⟨g, 0, none⟩ = some a ∧ (∀ i, w.frozen? ⟨g, i, none⟩ = false) ∧ g < w.heap.size := ⟨h.cell 0, h.frozen, h.lt⟩
theorem Blk.cells2 {a b : Value} (h : Blk w g t #[a, b]) : w.cell? ⟨g, 0, none⟩ = some a ∧ w.cell? ⟨g, 1, none⟩ = some b ∧ (∀ i, w.frozen? ⟨g, i, none⟩ = false) ∧ g < w.heap.size := ⟨h.cell 0, h.cell 1, h.frozen, h.lt⟩
theorem Blk.cells3 {a b c : Value} (h : Blk w g t #[a, b, c]) : w.cell? ⟨g, 0, none⟩ = some a ∧ w.cell? ⟨g, 1, none⟩ = some b ∧ w.cell? ⟨g, 2, none⟩ = some c ∧ (∀ i, w.frozen? ⟨g, i, none⟩ = false) ∧ g < w.heap.size := ⟨h.cell 0, h.cell 1, h.cell 2, h.frozen, h.lt⟩
theorem Blk.cells4 {a b c d : Value} (h : Blk w g t #[a, b, c, d]) : w.cell? ⟨g, 0, none⟩ = some a ∧ w.cell? ⟨g, 1, none⟩ = some b ∧ w.cell? ⟨g, 2, none⟩ = some c ∧ w.cell? ⟨g, 3, none⟩ = some d ∧ (∀ i, w.frozen? ⟨g, i, none⟩ = false) ∧ g < w.heap.size := ⟨h.cell 0, h.cell 1, h.cell 2, h.cell 3, h.frozen, h.lt⟩
theorem Blk.ext (h : Blk w g t cs) (hc : Ext w w') : Blk w' g t cs := Ext.blk hc h
end
def held (w : World) (p : Addr) : Value := (w.cell? p).getD undef
theorem held_of {w : World} {p : Addr} {v : Value} (h : w.cell? p = some v) : held w p = v := by unfold held; rw [h]; rfl
theorem aAl {w : World} {p : Addr} {v : Value} (h : w.cell? p = some v) : w.cell? p = some (held w p) := by rw [held_of h]; exact h
theorem rP (a : Addr) (n : Nat) : (a.add n).block = a.block := by unfold Addr.add; split <;> rfl
theorem aQa (a : Addr) (i j : Nat) : (a.add i).add j = a.add (i + j) := by
 unfold Addr.add
 by_cases hi : i = 0 <;> by_cases hj : j = 0 <;> simp [hi, hj, Nat.add_assoc]
theorem add_lit (b o n : Nat) : (⟨b, o, none⟩ : Addr).add n = ⟨b, o + n, none⟩ := by
 unfold Addr.add; split <;> simp_all
def Reads (w : World) (size : Nat) (v : Value) (n : Nat) (xs : List Value) : Prop :=
 xs.length = n * size ∧ ∃ A c, v = .slice A n c ∧ n ≤ c ∧ c ≤ maxLen ∧ (0 < n → ∃ b o, A = some ⟨b, o, none⟩ ∧ ∀ j u, xs[j]? = some u → w.cell? ⟨b, o + j, none⟩ = some u)
section
variable {w w' : World} {size n : Nat} {v : Value} {xs : List Value}
theorem Reads.nil (w : World) (size : Nat) : Reads w size (.slice none 0 0) 0 [] := ⟨by simp, none, 0, rfl, Nat.le_refl _, Nat.zero_le _, fun h => absurd h (by omega)⟩
theorem Reads.keep (h : Reads w size v n xs) (hk : ∀ p u, w.cell? p = some u → w'.cell? p = some u) : Reads w' size v n xs := by
 obtain ⟨h1, A, c, rfl, h2, h3, h4⟩ := h
 refine ⟨h1, A, c, rfl, h2, h3, fun hn => ?_⟩
 obtain ⟨b, o, rfl, hc⟩ := h4 hn
 exact ⟨b, o, rfl, fun j u hu => hk _ _ (hc j u hu)⟩
theorem Reads.ext (h : Reads w size v n xs) (he : Ext w w') : Reads w' size v n xs := h.keep (fun _ _ hc => Ext.cellv he hc)
theorem Reads.of_own {base : Nat} {e : TypeId} (h : w.ownsRow base e size v n xs) : Reads w size v n xs := by
 refine ⟨h.1, ?_⟩
 rcases h.2 with ⟨rfl, rfl⟩ | ⟨g, cap, cur, rfl, hb, hg, hnc, hcm, hcs, htake⟩
 ·exact ⟨none, 0, rfl, Nat.le_refl _, Nat.zero_le _, fun h => absurd h (by omega)⟩
 ·refine ⟨_, cap, rfl, hnc, hcm, fun _ => ⟨g, 0, rfl, fun j u hu => ?_⟩⟩
  have := h.cells (g := g) rfl j u hu
  rwa [add_lit] at this
end
section
variable {w w' : World} {size n : Nat} {v : Value} {xs : List Value}
theorem Reads.chg {S : Nat → Prop} (h : Reads w size v n xs) (he : Chg S w w') (hS : ∀ k, 0 < n → v.ownBlock = some k → ¬ S k) : Reads w' size v n xs := by
 obtain ⟨h1, A, c, rfl, h2, h3, h4⟩ := h
 refine ⟨h1, A, c, rfl, h2, h3, fun hn => ?_⟩
 obtain ⟨b, o, rfl, hc⟩ := h4 hn
 exact ⟨b, o, rfl, fun j u hu => Chg.cellv he (hc j u hu) (hS b hn rfl)⟩
theorem Reads.at1 {k : Nat} (h : Reads w 1 v n xs) (hk : k < n) : ∃ b o c u, v = .slice (some ⟨b, o, none⟩) n c ∧ n ≤ c ∧ c ≤ maxLen ∧ b < w.heap.size ∧ xs[k]? = some u ∧ w.cell? ⟨b, o + k, none⟩ = some u := by
 obtain ⟨h1, A, c, rfl, h2, h3, h4⟩ := h
 obtain ⟨b, o, rfl, hc⟩ := h4 (by omega)
 have hl : k < xs.length := by omega
 have := hc k _ (List.getElem?_eq_getElem hl)
 exact ⟨b, o, c, xs[k], rfl, h2, h3, lt_of_cell this, List.getElem?_eq_getElem hl, this⟩
theorem Reads.at2 {k : Nat} (h : Reads w 2 v n xs) (hk : k < n) : ∃ b o c u1 u2, v = .slice (some ⟨b, o, none⟩) n c ∧ n ≤ c ∧ c ≤ maxLen ∧ b < w.heap.size ∧ xs[k * 2]? = some u1 ∧ xs[k * 2 + 1]? = some u2 ∧
  w.cell? ⟨b, o + k * 2, none⟩ = some u1 ∧ w.cell? ⟨b, o + k * 2 + 1, none⟩ = some u2 := by
 obtain ⟨h1, A, c, rfl, h2, h3, h4⟩ := h
 obtain ⟨b, o, rfl, hc⟩ := h4 (by omega)
 have hl : k * 2 < xs.length := by omega
 have hl' : k * 2 + 1 < xs.length := by omega
 have e1 := hc (k * 2) _ (List.getElem?_eq_getElem hl)
 have e2 := hc (k * 2 + 1) _ (List.getElem?_eq_getElem hl')
 exact ⟨b, o, c, _, _, rfl, h2, h3, lt_of_cell e1, List.getElem?_eq_getElem hl, List.getElem?_eq_getElem hl', e1, by rw [← Nat.add_assoc] at e2; exact e2⟩
theorem Reads.own_lt (h : Reads w size v n xs) (hsz : 0 < size) (hn : 0 < n) : ∀ k, v.ownBlock = some k → k < w.heap.size := by
 obtain ⟨h1, B, c, rfl, h2, h3, h4⟩ := h
 obtain ⟨b, o, rfl, hc⟩ := h4 hn
 intro k hk
 cases hk
 have hl : 0 < xs.length := by rw [h1]; exact Nat.mul_pos hn hsz
 exact lt_of_cell (hc 0 xs[0] (List.getElem?_eq_getElem hl))
theorem Reads.len_le (h : Reads w size v n xs) : n ≤ maxLen := by
 obtain ⟨h1, A, c, rfl, h2, h3, h4⟩ := h; omega
end
theorem Reads.new (w : World) (cs : Array Value) (e : TypeId) (size n c : Nat) (xs : List Value) (hx : xs.length = n * size) (hc : n ≤ c) (hm : c ≤ maxLen) (ht : cs.toList.take xs.length = xs) :
  Reads (w.alloc (.cells cs e)) size (.slice (some ⟨w.heap.size, 0, none⟩) n c) n xs := by
 refine ⟨hx, _, c, rfl, hc, hm, fun _ => ⟨w.heap.size, 0, rfl, fun j u hu => ?_⟩⟩
 have hj : j < xs.length := by
  rcases Nat.lt_or_ge j xs.length with h | h
  ·exact h
  ·rw [List.getElem?_eq_none h] at hu; cases hu
 rw [Nat.zero_add, World.cell?_alloc_new]
 rw [← ht, List.getElem?_take, if_pos hj] at hu
 simpa using hu
theorem Reads.new1 (w : World) (u : Value) (e : TypeId) : Reads (w.alloc (.cells #[u] e)) 1 (.slice (some ⟨w.heap.size, 0, none⟩) 1 1) 1 [u] :=
 Reads.new w #[u] e 1 1 1 [u] rfl (Nat.le_refl _) (by unfold maxLen; omega) rfl
structure SlTy (P : Program) (t e : TypeId) (size bytes : Nat) : Prop where
 und : P.underlying t = some (.slice e)
 info : ∃ (i : TypeInfo) (z : Value), P.info? e = some i ∧ i.zero = some z ∧ i.size = size ∧ i.bytes = bytes ∧ z.cells.size = size
 pos : 0 < size
 bpos : 0 < bytes
theorem SlTy.mk' {P : Program} {t e : TypeId} {z : Value} {size bytes : Nat} (hu : P.underlying t = some (.slice e)) (h : (P.info? e).map (fun i => (i.zero, i.size, i.bytes)) = some (some z, size, bytes)) (hz : z.cells.size = size) (h0 : 0 < size) (hb : 0 < bytes) : SlTy P t e size bytes := by
 obtain ⟨i, hi, h1, h2, h3⟩ := info_parts h
 exact ⟨hu, ⟨i, z, hi, h1, h2, h3, hz⟩, h0, hb⟩
def bP (xs : List Value) : Prop := ∀ u ∈ xs, u.oneCell' = true
theorem bP.map {α : Type} {f : α → Value} (hf : ∀ a, (f a).oneCell' = true) (l : List α) : bP (l.map f) := by
 intro u hu
 obtain ⟨a, _, rfl⟩ := List.mem_map.1 hu
 exact hf a
theorem bP.one {u : Value} (h : u.oneCell' = true) : bP [u] := by
 intro x hx; simp at hx; subst hx; exact h
theorem dB {w w' : World} {base : Nat} {e : TypeId} {size : Nat} {v : Value} {n : Nat} {xs : List Value} {S : Nat → Prop} (h : w.ownsRow base e size v n xs) (hc : Chg S w w') (hS : ∀ k, v.ownBlock = some k → ¬ S k) : w'.ownsRow base e size v n xs := by
 refine ⟨h.1, ?_⟩
 rcases h.2 with hn | ⟨g, cap, cur, rfl, hb, hgg, rest⟩
 ·exact .inl hn
 ·exact .inr ⟨g, cap, cur, rfl, hb, Chg.blk hc hgg (hS g rfl), rest⟩
theorem aQ {w w' : World} {base : Nat} {e : TypeId} {size : Nat} {v : Value} {n : Nat} {xs : List Value} (h : w.ownsRow base e size v n xs) (hc : Ext w w') : w'.ownsRow base e size v n xs := dB h hc (fun _ _ h => h)
theorem pU {g n c b : Nat} (h : g ≠ b) : ¬ (Value.slice (some ⟨g, 0, none⟩) n c).ownBlock = some b := by
 intro e
 simp only [Value.ownBlock, Option.some.injEq] at e
 exact h e
theorem vG (w : World) (B : Nat) (e : TypeId) (size : Nat) (hb : B ≤ w.heap.size) : (w.alloc (.cells #[] e)).ownsRow B e size (.slice (some ⟨w.heap.size, 0, none⟩) 0 0) 0 [] :=
 ⟨by simp, .inr ⟨w.heap.size, 0, #[], rfl, hb, heap_alloc_new w _, Nat.le_refl _, Nat.zero_le _, by simp, by simp⟩⟩
section
variable {P : Program} {w : World}
theorem aRa {B : Nat} {t ty e : TypeId} {size bytes : Nat} (T : SlTy P t e size bytes) {v : Value} {n : Nat} {xs : List Value} (hown : w.ownsRow B e size v n xs)
  {u : Value} {m : Nat} {news : List Value} (hr : Reads w size u m news) (h1 : bP news) (hbytes : (n + m) * bytes ≤ 140737488355328) (hbase : B ≤ w.heap.size) :
  ∃ v' w', (Builtin.append_ #[t, t] ty #[v, u]).run P w = .ok v' w' ∧ w'.ownsRow B e size v' (n + m) (xs ++ news) ∧ Chg (fun k => v.ownBlock = some k) w w' ∧
   (v'.ownBlock = v.ownBlock ∨ ∃ g, v'.ownBlock = some g ∧ w.heap.size ≤ g ∧ g < w'.heap.size) := by
 obtain ⟨ht, ⟨i, z, hi, hz, hsize, hby, hzs⟩, hsz, hbp⟩ := T
 obtain ⟨hl, A, c, rfl, hmc, hcm, hcell⟩ := hr
 have h63 : n + m ≤ maxLen := by
  have : (n + m) * 1 ≤ (n + m) * bytes := Nat.mul_le_mul_left _ hbp
  unfold maxLen; omega
 rcases A with _ | ad
 ·have hm : m = 0 := by
   rcases Nat.eq_zero_or_pos m with h0 | h0
   ·exact h0
   ·obtain ⟨b, o, h, _⟩ := hcell h0
    cases h
  subst hm
  have hn : news = [] := List.eq_nil_of_length_eq_zero (by simpa using hl)
  subst hn
  refine ⟨v, w, ?_, by simpa using hown, Chg.refl _ _, .inl rfl⟩
  rcases hown.2 with ⟨rfl, rfl⟩ | ⟨g, cap, cur, rfl, _, _, hnc, _⟩
  ·simp [Builtin.append_, run_underlying ht, sizeOf, typeInfo, hi, Builtin.lenOf, Builtin.firstCells]
  ·simp [Builtin.append_, run_underlying ht, sizeOf, typeInfo, hi, Builtin.lenOf, Builtin.firstCells, hnc, storeCells]
 ·have hcells : ∀ j u, news[j]? = some u → w.cell? (ad.add j) = some u := by
   intro j u hu
   rcases Nat.eq_zero_or_pos m with h0 | h0
   ·subst h0
    have hn : news = [] := List.eq_nil_of_length_eq_zero (by simpa using hl)
    subst hn
    simp at hu
   ·obtain ⟨b, o, h, hc⟩ := hcell h0
    injection h with h
    subst h
    rw [add_lit]
    exact hc j u hu
  obtain ⟨v', w', hrun, h2, h3, _, h5⟩ := run_append_own_at (P := P) w B t ty e i z size bytes ht hi hz hsize hby hzs hsz v n xs hown ad m c news hl hcells h1 h63 hbytes hbase
  refine ⟨v', w', hrun, h2, ⟨h3.os, h3.tape, h3.output, h3.size, fun k hk hn => h3.block k hk (fun e => hn e.symm)⟩, ?_⟩
  rcases h5 with h5 | h5
  ·exact .inl h5
  ·exact .inr ⟨_, h5, Nat.le_refl _, (h2.lt _ h5).2⟩
theorem iO {w : World} {B : Nat} {e : TypeId} {size : Nat} {v : Value} {n : Nat} {xs : List Value} (h : w.ownsRow B e size v n xs) : ∃ A c, v = .slice A n c := by
 rcases h.2 with ⟨rfl, rfl⟩ | ⟨g, cap, cur, rfl, _⟩
 ·exact ⟨_, _, rfl⟩
 ·exact ⟨_, _, rfl⟩
theorem aKo {o : Oper} {a : Act} {K : Act → World → Prop} {Q : Exit → Act → World → Prop} {s x : Operand} {t : TypeId}
  (ho : o.op = .call { callee := .builtin .append, args := #[s, x], argTypes := #[t, t] })
  {B : Nat} {e : TypeId} {size bytes : Nat} (T : SlTy P t e size bytes) {v : Value} (hs : a.eval s = v) {n : Nat} {xs : List Value} (hown : w.ownsRow B e size v n xs)
  {u : Value} (hx : a.eval x = u) {m : Nat} {news : List Value} (hr : Reads w size u m news) (h1 : bP news) (hbytes : (n + m) * bytes ≤ 140737488355328) (hbase : B ≤ w.heap.size)
  (h : ∀ (A' : Option Addr) (c' : Nat) w', w'.ownsRow B e size (.slice A' (n + m) c') (n + m) (xs ++ news) → Chg (fun k => v.ownBlock = some k) w w' → ((Value.slice A' (n + m) c').ownBlock = v.ownBlock ∨ ∃ g, (Value.slice A' (n + m) c').ownBlock = some g ∧ w.heap.size ≤ g ∧ g < w'.heap.size) → K (a.put o.dst (.slice A' (n + m) c')) w') : o.wp P a w K Q := by
 obtain ⟨v', w', hrun, h2, h3, h4⟩ := aRa (P := P) (ty := o.type) T hown hr h1 hbytes hbase
 unfold Oper.wp execOp
 simp only [ho, resolve, invoke, builtin, Sem.run_bind, Sem.run_pure, Result.andThen_ok, List.map_toArray, List.map_cons, List.map_nil, hs, hx, hrun]
 obtain ⟨A', c', rfl⟩ := iO h2
 exact h A' c' w' h2 h3 h4
theorem rV {ops : Array Oper} {o : Oper} {a : Act} {K : Act → World → Prop} {Q : Exit → Act → World → Prop} {E : Prop} (hgd : o.guard = none) {s x : Operand} {t : TypeId}
  (ho : o.op = .call { callee := .builtin .append, args := #[s, x], argTypes := #[t, t] })
  {B : Nat} {e : TypeId} {size bytes : Nat} (T : SlTy P t e size bytes) {v : Value} (hs : a.eval s = v) {n : Nat} {xs : List Value} (hown : w.ownsRow B e size v n xs)
  {u : Value} (hx : a.eval x = u) {m : Nat} {news : List Value} (hr : Reads w size u m news) (h1 : bP news) (hbytes : (n + m) * bytes ≤ 140737488355328) (hbase : B ≤ w.heap.size)
  (h : ∀ (A' : Option Addr) (c' : Nat) w', w'.ownsRow B e size (.slice A' (n + m) c') (n + m) (xs ++ news) → Chg (fun k => v.ownBlock = some k) w w' → ((Value.slice A' (n + m) c').ownBlock = v.ownBlock ∨ ∃ g, (Value.slice A' (n + m) c').ownBlock = some g ∧ w.heap.size ≤ g ∧ g < w'.heap.size) → K (a.put o.dst (.slice A' (n + m) c')) w') :
  if Region.wanted o (yielded ops a.tmps) = true then Oper.wp P o a w K Q else E := by
 have hw : Region.wanted o (yielded ops a.tmps) = true := by simp [Region.wanted, hgd]
 rw [if_pos hw]
 exact aKo ho T hs hown hx hr h1 hbytes hbase h
theorem aU {ops : Array Oper} {rest : List Oper} {o : Oper} {a : Act} {Q : Exit → Act → World → Prop} (hgd : o.guard = none) {s x : Operand} {t : TypeId}
  (ho : o.op = .call { callee := .builtin .append, args := #[s, x], argTypes := #[t, t] })
  {B : Nat} {e : TypeId} {size bytes : Nat} (T : SlTy P t e size bytes) {v : Value} (hs : a.eval s = v) {n : Nat} {xs : List Value} (hown : w.ownsRow B e size v n xs)
  {u : Value} (hx : a.eval x = u) {m : Nat} {news : List Value} (hr : Reads w size u m news) (h1 : bP news) (hbytes : (n + m) * bytes ≤ 140737488355328) (hbase : B ≤ w.heap.size)
  (h : ∀ (A' : Option Addr) (c' : Nat) w', w'.ownsRow B e size (.slice A' (n + m) c') (n + m) (xs ++ news) → Chg (fun k => v.ownBlock = some k) w w' → ((Value.slice A' (n + m) c').ownBlock = v.ownBlock ∨ ∃ g, (Value.slice A' (n + m) c').ownBlock = some g ∧ w.heap.size ≤ g ∧ g < w'.heap.size) → wpList P ops Q rest (a.put o.dst (.slice A' (n + m) c')) w') : wpList P ops Q (o :: rest) a w :=
 wpList_plain hgd fun _ hK => aKo ho T hs hown hx hr h1 hbytes hbase fun A' c' w' h2 h3 h4 => hK _ _ (h A' c' w' h2 h3 h4)
end
theorem aGl {w : World} {B : Nat} {e : TypeId} {v : Value} {n k : Nat} {xs : List Value} (h : w.ownsRow B e 1 v n xs) (hk : k < n) :
  ∃ g cap u, v = .slice (some ⟨g, 0, none⟩) n cap ∧ B ≤ g ∧ g < w.heap.size ∧ xs[k]? = some u ∧ w.cell? ⟨g, k, none⟩ = some u ∧ ∀ i, w.frozen? ⟨g, i, none⟩ = false := by
 have hl := h.1
 rcases h.2 with ⟨rfl, rfl⟩ | ⟨g, cap, cur, rfl, hb, hg, hnc, hcm, hcs, htake⟩
 ·omega
 ·have hc := h.cells (g := g) rfl k xs[k] (List.getElem?_eq_getElem (by omega))
  rw [add_lit, Nat.zero_add] at hc
  exact ⟨g, cap, xs[k], rfl, hb, lt_of_heap hg, List.getElem?_eq_getElem (by omega), hc, fun i => by simp [World.frozen?, hg]⟩
theorem own_set {w : World} {B : Nat} {e : TypeId} {g n cap : Nat} {xs : List Value} (h : w.ownsRow B e 1 (.slice (some ⟨g, 0, none⟩) n cap) n xs) (k : Nat) (_hk : k < n) (u : Value) :
  (w.setCell ⟨g, k, none⟩ u).ownsRow B e 1 (.slice (some ⟨g, 0, none⟩) n cap) n (xs.set k u) := by
 have hl := h.1
 refine ⟨by rw [List.length_set]; exact hl, ?_⟩
 rcases h.2 with ⟨e, _⟩ | ⟨g', cap', cur, hv, hb, hg, hnc, hcm, hcs, htake⟩
 ·cases e
 ·cases hv
  refine .inr ⟨g, cap, cur.setIfInBounds k u, rfl, hb, ?_, hnc, hcm, by simpa using hcs, ?_⟩
  ·simp [World.setCell, Array.getElem?_modify, hg]
  ·rw [← htake, Array.toList_setIfInBounds, List.take_set]
theorem own_ne {w : World} {B B' : Nat} {e e' : TypeId} {size size' n n' : Nat} {v v' : Value} {xs xs' : List Value} (h : w.ownsRow B e size v n xs) (h' : w.ownsRow B' e' size' v' n' xs') (hne : e ≠ e') {g : Nat} (hg : v.ownBlock = some g) : v'.ownBlock ≠ some g := by
 intro hg'
 rcases h.2 with ⟨rfl, _⟩ | ⟨g1, c1, u1, rfl, _, hh, _⟩
 ·simp [Value.ownBlock] at hg
 rcases h'.2 with ⟨rfl, _⟩ | ⟨g2, c2, u2, rfl, _, hh', _⟩
 ·simp [Value.ownBlock] at hg'
 simp [Value.ownBlock] at hg hg'
 subst hg hg'
 rw [hh] at hh'
 injection hh' with hh'
 injection hh' with _ ht
 exact hne ht
theorem oJ {w : World} {B : Nat} {e t : TypeId} {size n g : Nat} {v : Value} {xs : List Value} {cs : Array Value} (h : w.ownsRow B e size v n xs) (hg : Blk w g t cs) (hne : e ≠ t) : v.ownBlock ≠ some g := by
 rcases h.2 with ⟨rfl, _⟩ | ⟨g', cap, cur, rfl, _, hh, _⟩
 ·simp [Value.ownBlock]
 ·intro he
  have : g' = g := by simpa [Value.ownBlock] using he
  subst this
  unfold Blk at hg
  rw [hh] at hg
  injection hg with hg
  injection hg with _ ht
  exact hne ht
structure Acc where
 kind : Int
 bank : Int
 cell : Int
 bytes : ByteArray
structure Res where
 val : Int
 bytes : ByteArray
def Acc.v (a : Acc) : Value := .agg #[.int .i64 a.kind, .int .i64 a.bank, .int .i64 a.cell, .string a.bytes]
def Res.v (r : Res) : Value := .agg #[.int .i64 r.val, .string r.bytes]
def bF : ByteArray := { data := #[] }
inductive Prg (α : Type) : Type where
 | ret (a : α)
 | ask (a : Acc) (k : Res → Prg α)
def Prg.bind {α β : Type} : Prg α → (α → Prg β) → Prg β
 | .ret a, f => f a
 | .ask a k, f => .ask a fun r => (k r).bind f
theorem Prg.bind_assoc {α β γ : Type} (p : Prg α) (f : α → Prg β) (g : β → Prg γ) : (p.bind f).bind g = p.bind fun a => (f a).bind g := by
 induction p with
 | ret a => rfl
 | ask a k ih => simp only [Prg.bind]; congr 1; funext r; exact ih r
def Prg.run {α σ ε : Type} (d : Acc → σ → EStateM.Result ε σ Res) : Prg α → σ → EStateM.Result ε σ α
 | .ret a, s => .ok a s
 | .ask a k, s => match d a s with
  | .ok r s' => (k r).run d s'
  | .error e s' => .error e s'
def Prg.All {α : Type} (R : α → Prop) : Prg α → Prop
 | .ret a => R a
 | .ask _ k => ∀ r, Prg.All R (k r)
theorem Prg.All.triv {α : Type} (p : Prg α) : Prg.All (fun _ => True) p := by
 induction p with
 | ret a => trivial
 | ask a k ih => exact fun r => ih r
theorem Prg.All.mono {α : Type} {R R' : α → Prop} {p : Prg α} (h : Prg.All R p) (hr : ∀ a, R a → R' a) : Prg.All R' p := by
 induction p with
 | ret a => exact hr a h
 | ask a k ih => exact fun r => ih r (h r)
theorem Prg.All.bind {α β : Type} {R : α → Prop} {R' : β → Prop} {p : Prg α} {f : α → Prg β} (h : Prg.All R p) (hf : ∀ a, R a → Prg.All R' (f a)) : Prg.All R' (p.bind f) := by
 induction p with
 | ret a => exact hf a h
 | ask a k ih => exact fun r => ih r (h r)
def replay (log : List Res) (a : Acc) (i : Nat) : EStateM.Result Acc Nat Res :=
 match log[i]? with
 | some r => .ok r (i + 1)
 | none => .error a i
def Res.cells (r : Res) : List Value := [.int .i64 r.val, .string r.bytes]
def logCells (log : List Res) : List Value := log.flatMap Res.cells
theorem wU (log : List Res) : ∀ i, (logCells log)[i * 2]? = (log[i]?).map (fun r => Value.int .i64 r.val) ∧ (logCells log)[i * 2 + 1]? = (log[i]?).map (fun r => Value.string r.bytes) := by
 unfold logCells
 induction log with
 | nil => intro i; simp
 | cons r l ih =>
  intro i
  cases i with
  | zero => simp [Res.cells]
  | succ i =>
   have := ih i
   rw [List.flatMap_cons]
   simp only [Res.cells, List.getElem?_cons_succ]
   rw [show (i + 1) * 2 = i * 2 + 1 + 1 from by omega]
   simpa using this
def jX {α σ ε : Type} (Inv : σ → (Nat → Prop) → World → Prop) (S X : Nat → Prop) (pan : ε → Value) (w : World) (val : α → Value) (r : EStateM.Result ε σ α) (e : Ending) (w' : World) : Prop :=
 match r with
 | .ok a s => e = .returned (val a) ∧ Inv s X w' ∧ Chg S w w'
 | .error er s => e = .panicked [{ v := pan er, recovered := false }] ∧ Inv s X w' ∧ Chg S w w'
section
variable {α σ ε : Type} {Inv : σ → (Nat → Prop) → World → Prop} {S X : Nat → Prop} {pan : ε → Value} {w w' : World} {val : α → Value} {r : EStateM.Result ε σ α} {e : Ending} {a : α} {s : σ} {er : ε}
theorem jX.ok (hr : r = .ok a s) (he : e = .returned (val a)) (hi : Inv s X w') (hc : Chg S w w') : jX Inv S X pan w val r e w' := by subst hr; exact ⟨he, hi, hc⟩
theorem jX.err (hr : r = .error er s) (he : e = .panicked [{ v := pan er, recovered := false }]) (hi : Inv s X w') (hc : Chg S w w') : jX Inv S X pan w val r e w' := by subst hr; exact ⟨he, hi, hc⟩
theorem jX.of_ok (hr : r = .ok a s) (h : jX Inv S X pan w val r e w') : e = .returned (val a) ∧ Inv s X w' ∧ Chg S w w' := by subst hr; exact h
theorem jX.of_err (hr : r = .error er s) (h : jX Inv S X pan w val r e w') : e = .panicked [{ v := pan er, recovered := false }] ∧ Inv s X w' ∧ Chg S w w' := by subst hr; exact h
end
section
variable {P : Program} {F : FuncId} {caps : Array Value} {σ ε : Type} {d : Acc → σ → EStateM.Result ε σ Res} {pan : ε → Value} {Inv : σ → (Nat → Prop) → World → Prop} {S X : Nat → Prop}
 {B : Nat} {ty : TypeId} {size : Nat} {s : σ} {v : Value} {n : Nat} {xs : List Value} {w w' : World}
end
end Go.Proofs.YtihghljfmlbfhaaGreatDoor
namespace Go.Proofs.YtihghljfmlbfhaaGreatDoor
open Go.RowKit
structure Wide (P : Program) (ty : TypeId) (n : Nat) : Prop where
 und : ∃ d, P.underlying ty = some d ∧ d.isRow = true
 info : (P.info? ty).map (·.size) = some n
theorem Blk.range {w : World} {g : Nat} {t : TypeId} {cs : Array Value} (h : Blk w g t cs) : w.rangeAt g 0 cs.toList := fun j v hv => by
 rw [Nat.zero_add, h.cell]
 simpa using hv
theorem Blk.there_ {w : World} {g : Nat} {t : TypeId} {cs : Array Value} (h : Blk w g t cs) : w.there g 0 cs.size := fun j hj => by
 rw [Nat.zero_add, h.cell, h.frozen]
 simp [hj]
theorem dW (b : Nat) : ∀ (vs : List Value) (o : Nat) (w : World), Chg (fun k => k = b) w (w.setCells b o vs) ∧ (w.setCells b o vs).heap.size = w.heap.size := by
 intro vs
 induction vs with
 | nil => intro o w; exact ⟨Chg.refl _ _, rfl⟩
 | cons v vs ih =>
  intro o w
  have h := ih (o + 1) (w.setCell ⟨b, o, none⟩ v)
  refine ⟨(Chg.setCell (S := fun k => k = b) (p := ⟨b, o, none⟩) (Chg.refl _ _) (.inl rfl) v).trans h.1, ?_⟩
  show ((w.setCell ⟨b, o, none⟩ v).setCells b (o + 1) vs).heap.size = _
  rw [h.2]
  simp [World.setCell]
theorem aFn (b : Nat) (t : TypeId) : ∀ (vs : List Value) (pre : List Value) (old : List Value) (w : World), old.length = vs.length → Blk w b t (pre ++ old).toArray → Blk (w.setCells b pre.length vs) b t (pre ++ vs).toArray := by
 intro vs
 induction vs with
 | nil => intro pre old w hl h; cases old with | nil => exact h | cons => simp at hl
 | cons v vs ih =>
  intro pre old w hl h
  cases old with
  | nil => simp at hl
  | cons x old =>
   have h1 := h.set_ pre.length v
   have e : (pre ++ x :: old).toArray.setIfInBounds pre.length v = ((pre ++ [v]) ++ old).toArray := by simp
   rw [e] at h1
   have := ih (pre ++ [v]) old (w.setCell ⟨b, pre.length, none⟩ v) (by simpa using hl) h1
   simp only [List.length_append, List.length_cons, List.length_nil, Nat.zero_add, List.append_assoc, List.singleton_append] at this
   exact this
theorem yM {w : World} {g : Nat} {t : TypeId} {old cs : Array Value} (h : Blk w g t old) (hs : old.size = cs.size) : Blk (w.setCells g 0 cs.toList) g t cs := by
 have := aFn g t cs.toList [] old.toList w (by simpa using hs) (by simpa using h)
 simpa using this
section
variable {P : Program}
theorem aKn {o : Oper} {a : Act} {w : World} {K : Act → World → Prop} {Q : Exit → Act → World → Prop} {ty : TypeId} {x : Operand} (ho : o.op = .load ty x) {n : Nat} (W : Wide P ty n)
  {g : Nat} (hx : a.eval x = .pointer (some ⟨g, 0, none⟩)) {t : TypeId} {cs : Array Value} (hB : Blk w g t cs) (hn : cs.size = n) (h : K (a.put o.dst (.agg cs)) w) : o.wp P a w K Q := by
 obtain ⟨d, hu, hd⟩ := W.und
 refine wp_load_mid ty x ho g 0 hx cs.toList d hB.range hu hd (by rw [Array.length_toList, hn]; exact W.info) ?_
 rw [Array.toArray_toList]
 exact h
theorem aZ {ops : Array Oper} {rest : List Oper} {o : Oper} {a : Act} {w : World} {Q : Exit → Act → World → Prop} (hgd : o.guard = none) {ty : TypeId} {x : Operand} (ho : o.op = .load ty x) {n : Nat} (W : Wide P ty n)
  {g : Nat} (hx : a.eval x = .pointer (some ⟨g, 0, none⟩)) {t : TypeId} {cs : Array Value} (hB : Blk w g t cs) (hn : cs.size = n) (h : wpList P ops Q rest (a.put o.dst (.agg cs)) w) : wpList P ops Q (o :: rest) a w :=
 wpList_plain hgd fun _ hK => aKn ho W hx hB hn (hK _ _ h)
theorem oC {ops : Array Oper} {o : Oper} {a : Act} {w : World} {K : Act → World → Prop} {Q : Exit → Act → World → Prop} {E : Prop} (hgd : o.guard = none) {ty : TypeId} {x : Operand} (ho : o.op = .load ty x) {n : Nat} (W : Wide P ty n)
  {g : Nat} (hx : a.eval x = .pointer (some ⟨g, 0, none⟩)) {t : TypeId} {cs : Array Value} (hB : Blk w g t cs) (hn : cs.size = n) (h : K (a.put o.dst (.agg cs)) w) : if Region.wanted o (yielded ops a.tmps) = true then Oper.wp P o a w K Q else E := by
 have hw : Region.wanted o (yielded ops a.tmps) = true := by simp [Region.wanted, hgd]
 rw [if_pos hw]
 exact aKn ho W hx hB hn h
theorem aEv {o : Oper} {a : Act} {w : World} {K : Act → World → Prop} {Q : Exit → Act → World → Prop} {ty : TypeId} {x y : Operand} (ho : o.op = .store ty x y) {n : Nat} (W : Wide P ty n)
  {g : Nat} (hx : a.eval x = .pointer (some ⟨g, 0, none⟩)) {cs : Array Value} (hy : a.eval y = .agg cs) {t : TypeId} {old : Array Value} (hB : Blk w g t old) (ho2 : old.size = n) (hn : cs.size = n) (h1 : cs.all (·.oneCell') = true)
  (h : ∀ w', Blk w' g t cs → Chg (fun k => k = g) w w' → w'.heap.size = w.heap.size → K (a.put o.dst undef) w') : o.wp P a w K Q := by
 refine wp_store_mid ty x y ho g 0 cs hx hy (by rw [show cs.size = old.size from by omega]; exact hB.there_) (by rw [hn]; exact W.info) h1 ?_
 exact h _ (yM hB (by omega)) (dW g cs.toList 0 w).1 (dW g cs.toList 0 w).2
theorem aH {ops : Array Oper} {rest : List Oper} {o : Oper} {a : Act} {w : World} {Q : Exit → Act → World → Prop} (hgd : o.guard = none) {ty : TypeId} {x y : Operand} (ho : o.op = .store ty x y) {n : Nat} (W : Wide P ty n)
  {g : Nat} (hx : a.eval x = .pointer (some ⟨g, 0, none⟩)) {cs : Array Value} (hy : a.eval y = .agg cs) {t : TypeId} {old : Array Value} (hB : Blk w g t old) (ho2 : old.size = n) (hn : cs.size = n) (h1 : cs.all (·.oneCell') = true)
  (h : ∀ w', Blk w' g t cs → Chg (fun k => k = g) w w' → w'.heap.size = w.heap.size → wpList P ops Q rest (a.put o.dst undef) w') : wpList P ops Q (o :: rest) a w :=
 wpList_plain hgd fun _ hK => aEv ho W hx hy hB ho2 hn h1 fun w' h2 h3 h4 => hK _ _ (h w' h2 h3 h4)
theorem eP {ops : Array Oper} {o : Oper} {a : Act} {w : World} {K : Act → World → Prop} {Q : Exit → Act → World → Prop} {E : Prop} (hgd : o.guard = none) {ty : TypeId} {x y : Operand} (ho : o.op = .store ty x y) {n : Nat} (W : Wide P ty n)
  {g : Nat} (hx : a.eval x = .pointer (some ⟨g, 0, none⟩)) {cs : Array Value} (hy : a.eval y = .agg cs) {t : TypeId} {old : Array Value} (hB : Blk w g t old) (ho2 : old.size = n) (hn : cs.size = n) (h1 : cs.all (·.oneCell') = true)
  (h : ∀ w', Blk w' g t cs → Chg (fun k => k = g) w w' → w'.heap.size = w.heap.size → K (a.put o.dst undef) w') : if Region.wanted o (yielded ops a.tmps) = true then Oper.wp P o a w K Q else E := by
 have hw : Region.wanted o (yielded ops a.tmps) = true := by simp [Region.wanted, hgd]
 rw [if_pos hw]
 exact aEv ho W hx hy hB ho2 hn h1 h
end
end Go.Proofs.YtihghljfmlbfhaaGreatDoor
namespace Go.Proofs.YtihghljfmlbfhaaGreatDoor.Pv
open Go.RowKit
def u8w (b : UInt8) : Value := .int .u8 (b.toNat : Int)
inductive PC where
 | lit (v : Value)
 | bs (n : Nat) (l : List UInt8)
 | sl (n len : Nat) (f : Nat → List PC)
 | ow (x ver n off len : Nat)
 | ob (x ver off len : Nat)
 | pt (x ver off : Nat)
 | pk (x ver off k : Nat)
 | pe (x ver n i j : Nat)
 | pf (n len : Nat) (f : Nat → List PC) (i j : Nat)
 | fn (f : Fn) (first cap : List PC)
 | dv
 | any
 | pa (len : Nat) (f : Nat → List PC)
inductive PW where
 | one (c : PC)
 | agg (l : List PC)
inductive PV where
 | w (x : PW)
 | tup (l : List PW)
 | none
inductive AObj where
 | box (t : TypeId) (l : List PC)
 | arr (e n len : Nat) (f : Nat → List PC)
 | dead
 | dev (O : List Acc → Option Res) (stp : List Acc → Prop) (l : List Acc)
def dx : Nat := 900000
structure Ctx where
 w : World
 ok : Nat → Prop
 env : Nat → Option (Nat × Value)
def Ctx.cold (C : Ctx) : Ctx := { C with env := fun _ => none }
def At (C : Ctx) (x ver : Nat) (p : Value → Prop) : Prop := ∃ vr hd, C.env x = some (vr, hd) ∧ ver ≤ vr ∧ (ver = vr → p hd)
def kW (g : Nat) : Value := .pointer (some ⟨g, 0, none⟩)
def aWr (n off len : Nat) (v : Value) (hd : Value) : Prop := ∃ A n0 c0, hd = .slice A n0 c0 ∧ off + len ≤ n0 ∧ v = .slice (A.map (·.add (off * n))) len (c0 - off)
def aWs (off len : Nat) (v : Value) (hd : Value) : Prop := ∃ g c, hd = kW g ∧ len ≤ c ∧ c ≤ maxLen ∧ v = .slice (some ⟨g, off, none⟩) len c
def aEr (off : Nat) (v : Value) (hd : Value) : Prop := ∃ g, hd = kW g ∧ v = .pointer (some ⟨g, off, none⟩)
def aWq (n i j : Nat) (v : Value) (hd : Value) : Prop := ∃ g n0 c0, hd = .slice (some ⟨g, 0, none⟩) n0 c0 ∧ i < n0 ∧ v = .pointer (some ⟨g, i * n + j, none⟩)
def IsPt (v : Value) : Prop := ∃ b o, v = .pointer (some ⟨b, o, none⟩)
def IsSl (len : Nat) (v : Value) : Prop := ∃ A c, v = .slice A len c
mutual
inductive R : Ctx → PC → List Value → Prop where
 | lit {C : Ctx} {v : Value} (h : v.oneCell' = true) : R C (.lit v) [v]
 | bs {C : Ctx} {n : Nat} {l : List UInt8} (h : l.length = n) : R C (.bs n l) (l.map u8w)
 | sl {C : Ctx} {n len : Nat} {f : Nat → List PC} {v : Value} {vs : List Value} (hr : Reads C.w n v len vs)
   (hb : ∀ g, v.ownBlock = some g → 0 < len → C.ok g ∧ g < C.w.heap.size) (he : ∀ i, i < len → RL C.cold (f i) ((vs.drop (i * n)).take n)) : R C (.sl n len f) [v]
 | ow {C : Ctx} {x ver n off len : Nat} {v : Value} (h1 : IsSl len v) (h : At C x ver (aWr n off len v)) : R C (.ow x ver n off len) [v]
 | ob {C : Ctx} {x ver off len : Nat} {v : Value} (h1 : IsSl len v) (h : At C x ver (aWs off len v)) : R C (.ob x ver off len) [v]
 | pt {C : Ctx} {x ver off : Nat} {v : Value} (h1 : IsPt v) (h : At C x ver (aEr off v)) : R C (.pt x ver off) [v]
 | pk {C : Ctx} {x ver off k : Nat} {v : Value} (h1 : IsPt v) (h : At C x ver (aEr (off + k) v)) : R C (.pk x ver off k) [v]
 | pe {C : Ctx} {x ver n i j : Nat} {v : Value} (h1 : IsPt v) (h : At C x ver (aWq n i j v)) : R C (.pe x ver n i j) [v]
 | pf {C : Ctx} {n len : Nat} {f : Nat → List PC} {i j b o c : Nat} {vs : List Value} (hr : Reads C.w n (.slice (some ⟨b, o, none⟩) len c) len vs)
   (hb : C.ok b ∧ b < C.w.heap.size) (he : ∀ i, i < len → RL C.cold (f i) ((vs.drop (i * n)).take n)) (hi : i < len) : R C (.pf n len f i j) [.pointer (some ⟨b, o + (i * n + j), none⟩)]
 | fn {C : Ctx} {f : Fn} {first cap : List PC} {fs cs : List Value} (h1 : RL C first fs) (h2 : RL C cap cs) : R C (.fn f first cap) [.func f fs.toArray cs.toArray]
 | dv {C : Ctx} {v : Value} (h1 : v.oneCell' = true) (h : At C dx 0 (fun hd => v = hd)) : R C .dv [v]
 | any {C : Ctx} {v : Value} (h : v.oneCell' = true) : R C .any [v]
 | pa {C : Ctx} {len b o c : Nat} {f : Nat → List PC} {vs : List Value} (hr : Reads C.w 1 (.slice (some ⟨b, o, none⟩) len c) len vs)
   (hb : C.ok b ∧ b < C.w.heap.size) (he : ∀ i, i < len → RL C.cold (f i) ((vs.drop (i * 1)).take 1)) (hn : 0 < len) : R C (.pa len f) [.pointer (some ⟨b, o, none⟩)]
inductive RL : Ctx → List PC → List Value → Prop where
 | nil {C : Ctx} : RL C [] []
 | cons {C : Ctx} {c : PC} {l : List PC} {xs ys : List Value} (h : R C c xs) (hl : RL C l ys) : RL C (c :: l) (xs ++ ys)
end
inductive RW (C : Ctx) : PW → Value → Prop where
 | one {c : PC} {v : Value} (h : R C c [v]) : RW C (.one c) v
 | agg {l : List PC} {cs : Array Value} (h : RL C l cs.toList) : RW C (.agg l) (.agg cs)
inductive RV (C : Ctx) : PV → Value → Prop where
 | w {x : PW} {v : Value} (h : RW C x v) : RV C (.w x) v
 | tup {l : List PW} {vs : Array Value} (hl : l.length = vs.size) (h : ∀ (i : Nat) (x : PW), l[i]? = some x → ∃ v : Value, vs[i]? = some v ∧ RW C x v) : RV C (.tup l) (.tuple vs)
 | none {v : Value} : RV C .none v
structure Ctx.Le (C C' : Ctx) : Prop where
 size : C.w.heap.size ≤ C'.w.heap.size
 blk : ∀ b, b < C.w.heap.size → C.ok b → C'.ok b ∧ C'.w.heap[b]? = C.w.heap[b]?
 env : ∀ x ver hd, C.env x = some (ver, hd) → ∃ ver' hd', C'.env x = some (ver', hd') ∧ ver ≤ ver' ∧ (ver = ver' → hd' = hd)
theorem Ctx.Le.cold {C C' : Ctx} (h : C.Le C') : C.cold.Le C'.cold := ⟨h.size, h.blk, fun _ _ _ h => by cases h⟩
theorem Ctx.Le.cell {C C' : Ctx} (h : C.Le C') {b : Nat} (hb : b < C.w.heap.size) (ho : C.ok b) (o : Nat) : C'.w.cell? ⟨b, o, none⟩ = C.w.cell? ⟨b, o, none⟩ := World.cell?_of_block (w := C.w) (h.blk b hb ho).2
theorem At.mono {C : Ctx} {x ver : Nat} {p q : Value → Prop} (h : At C x ver p) (hq : ∀ hd, p hd → q hd) : At C x ver q := by
 obtain ⟨vr, hd, h1, h2, h3⟩ := h
 exact ⟨vr, hd, h1, h2, fun e => hq hd (h3 e)⟩
theorem At.le {C C' : Ctx} (h : C.Le C') {x ver : Nat} {p : Value → Prop} (ha : At C x ver p) : At C' x ver p := by
 obtain ⟨vr, hd, h1, h2, h3⟩ := ha
 obtain ⟨vr', hd', h4, h5, h6⟩ := h.env x vr hd h1
 exact ⟨vr', hd', h4, Nat.le_trans h2 h5, fun e => by
  have e1 : vr = vr' := by omega
  rw [h6 e1]
  exact h3 (by omega)⟩
theorem aDk {C C' : Ctx} (h : C.Le C') {n len : Nat} {v : Value} {vs : List Value} (hr : Reads C.w n v len vs) (hb : ∀ g, v.ownBlock = some g → 0 < len → C.ok g ∧ g < C.w.heap.size) : Reads C'.w n v len vs := by
 obtain ⟨h1, A, c, rfl, h2, h3, h4⟩ := hr
 refine ⟨h1, A, c, rfl, h2, h3, fun hn => ?_⟩
 obtain ⟨b, o, rfl, hc⟩ := h4 hn
 have hb' := hb b rfl hn
 exact ⟨b, o, rfl, fun j u hu => by rw [h.cell hb'.2 hb'.1]; exact hc j u hu⟩
theorem R.le {C C' : Ctx} {c : PC} {xs : List Value} (hr : R C c xs) (h : C.Le C') : R C' c xs := by
 refine R.rec (motive_1 := fun C c xs _ => ∀ C', C.Le C' → R C' c xs) (motive_2 := fun C l xs _ => ∀ C', C.Le C' → RL C' l xs) ?_ ?_ ?_ ?_ ?_ ?_ ?_ ?_ ?_ ?_ ?_ ?_ ?_ ?_ ?_ hr C' h
 ·intro C v h C' hl; exact .lit h
 ·intro C n l h C' hl; exact .bs h
 ·intro C n len f v vs hr hb he ih C' hl
  exact .sl (aDk hl hr hb) (fun g hg h0 => ⟨(hl.blk g (hb g hg h0).2 (hb g hg h0).1).1, Nat.lt_of_lt_of_le (hb g hg h0).2 hl.size⟩) (fun i hi => ih i hi _ hl.cold)
 ·intro C x ver n off len v h1 h C' hl; exact .ow h1 (h.le hl)
 ·intro C x ver off len v h1 h C' hl; exact .ob h1 (h.le hl)
 ·intro C x ver off v h1 h C' hl; exact .pt h1 (h.le hl)
 ·intro C x ver off k v h1 h C' hl; exact .pk h1 (h.le hl)
 ·intro C x ver n i j v h1 h C' hl; exact .pe h1 (h.le hl)
 ·intro C n len f i j b o c vs hr hb he hi ih C' hl
  exact .pf (aDk hl hr (fun g hg _ => by cases hg; exact hb)) ⟨(hl.blk b hb.2 hb.1).1, Nat.lt_of_lt_of_le hb.2 hl.size⟩ (fun i hi => ih i hi _ hl.cold) hi
 ·intro C f first cap fs cs h1 h2 ih1 ih2 C' hl; exact .fn (ih1 _ hl) (ih2 _ hl)
 ·intro C v h1 h2 C' hl; exact .dv h1 (h2.le hl)
 ·intro C v h C' hl; exact .any h
 ·intro C len b o c f vs hr hb he hn ih C' hl
  exact .pa (aDk hl hr (fun g hg _ => by cases hg; exact hb)) ⟨(hl.blk b hb.2 hb.1).1, Nat.lt_of_lt_of_le hb.2 hl.size⟩ (fun i hi => ih i hi _ hl.cold) hn
 ·intro C C' hl; exact .nil
 ·intro C c l xs ys h hl ih1 ih2 C' hle; exact .cons (ih1 _ hle) (ih2 _ hle)
theorem RL.le {C C' : Ctx} {l : List PC} {xs : List Value} (hr : RL C l xs) (h : C.Le C') : RL C' l xs := by
 induction l generalizing xs with
 | nil => cases hr; exact .nil
 | cons c l ih => cases hr with | cons h1 h2 => exact .cons (h1.le h) (ih h2)
theorem RW.le {C C' : Ctx} {x : PW} {v : Value} (hr : RW C x v) (h : C.Le C') : RW C' x v := by
 cases hr with
 | one h1 => exact .one (h1.le h)
 | agg h1 => exact .agg (h1.le h)
theorem RV.le {C C' : Ctx} {x : PV} {v : Value} (hr : RV C x v) (h : C.Le C') : RV C' x v := by
 cases hr with
 | w h1 => exact .w (h1.le h)
 | tup hl h1 => exact .tup hl (fun i x hx => let ⟨v, a, b⟩ := h1 i x hx; ⟨v, a, b.le h⟩)
 | none => exact .none
def PC.width : PC → Nat
 | .bs n _ => n
 | _ => 1
def widths : List PC → Nat
 | [] => 0
 | c :: l => c.width + widths l
theorem R.width {C : Ctx} {c : PC} {xs : List Value} (h : R C c xs) : xs.length = c.width := by cases h <;> simp_all [PC.width]
theorem RL.width {C : Ctx} {l : List PC} {xs : List Value} (h : RL C l xs) : xs.length = widths l := by
 induction l generalizing xs with
 | nil => cases h; rfl
 | cons c l ih => cases h with | cons h1 h2 => rw [List.length_append, h1.width, ih h2]; rfl
theorem R.ones {C : Ctx} {c : PC} {xs : List Value} (h : R C c xs) : ∀ u ∈ xs, u.oneCell' = true := by
 cases h with
 | lit h => intro u hu; simp at hu; subst hu; exact h
 | bs h => intro u hu; obtain ⟨b, _, rfl⟩ := List.mem_map.1 hu; rfl
 | sl hr hb he => intro u hu; simp at hu; subst hu; obtain ⟨_, A, c, rfl, _⟩ := hr; rfl
 | ow h1 _ => intro u hu; simp at hu; subst hu; obtain ⟨_, _, rfl⟩ := h1; rfl
 | ob h1 _ => intro u hu; simp at hu; subst hu; obtain ⟨_, _, rfl⟩ := h1; rfl
 | pt h1 _ => intro u hu; simp at hu; subst hu; obtain ⟨_, _, rfl⟩ := h1; rfl
 | pk h1 _ => intro u hu; simp at hu; subst hu; obtain ⟨_, _, rfl⟩ := h1; rfl
 | pe h1 _ => intro u hu; simp at hu; subst hu; obtain ⟨_, _, rfl⟩ := h1; rfl
 | pf _ _ _ _ => intro u hu; simp at hu; subst hu; rfl
 | fn _ _ => intro u hu; simp at hu; subst hu; rfl
 | dv h1 _ => intro u hu; simp at hu; subst hu; exact h1
 | any h1 => intro u hu; simp at hu; subst hu; exact h1
 | pa _ _ _ _ => intro u hu; simp at hu; subst hu; rfl
theorem RL.ones {C : Ctx} {l : List PC} {xs : List Value} (h : RL C l xs) : ∀ u ∈ xs, u.oneCell' = true := by
 induction l generalizing xs with
 | nil => cases h; intro u hu; cases hu
 | cons c l ih =>
  cases h with
  | cons h1 h2 =>
   intro u hu
   rcases List.mem_append.1 hu with hu | hu
   ·exact h1.ones u hu
   ·exact ih h2 u hu
theorem RL.append {C : Ctx} {l m : List PC} {xs ys : List Value} (h : RL C l xs) (k : RL C m ys) : RL C (l ++ m) (xs ++ ys) := by
 induction l generalizing xs with
 | nil => cases h; exact k
 | cons c l ih => cases h with | cons h1 h2 => rw [List.append_assoc]; exact .cons h1 (ih h2)
theorem RL.single {C : Ctx} {c : PC} {ys : List Value} (h : RL C [c] ys) : R C c ys := by
 cases h with
 | cons h1 h2 => cases h2; simpa using h1
def nR : List PC → Nat → Nat → Option (List PC)
 | [], 0, 0 => some []
 | [], _, _ => none
 | c :: l, 0, n => if n = 0 then some [] else if c.width ≤ n then (nR l 0 (n - c.width)).map (c :: ·) else none
 | c :: l, off + 1, n => if c.width ≤ off + 1 then nR l (off + 1 - c.width) n else none
theorem RL.sub {C : Ctx} : ∀ {l : List PC} {off n : Nat} {m : List PC} {xs : List Value}, RL C l xs → nR l off n = some m → RL C m ((xs.drop off).take n) ∧ off + n ≤ xs.length := by
 intro l
 induction l with
 | nil =>
  intro off n m xs h hs
  cases h
  match off, n with
  | 0, 0 => simp [nR] at hs; subst hs; exact ⟨by simpa using RL.nil, by simp⟩
  | 0, n + 1 => simp [nR] at hs
  | off + 1, n => simp [nR] at hs
 | cons c l ih =>
  intro off n m xs h hs
  cases h with
  | @cons _ _ _ xa xb h1 h2 =>
   have hw := h1.width
   match off with
   | 0 =>
    unfold nR at hs
    by_cases hn : n = 0
    ·subst hn; simp at hs; subst hs; exact ⟨by simpa using RL.nil, by simp⟩
    ·rw [if_neg hn] at hs
     by_cases hc : c.width ≤ n
     ·rw [if_pos hc] at hs
      cases hq : nR l 0 (n - c.width) with
      | none => rw [hq] at hs; cases hs
      | some m' =>
       rw [hq] at hs
       simp at hs
       subst hs
       obtain ⟨k1, k2⟩ := ih h2 hq
       refine ⟨?_, by rw [List.length_append]; omega⟩
       rw [List.drop_zero, List.take_append, List.take_of_length_le (by omega), hw]
       exact .cons h1 (by simpa using k1)
     ·rw [if_neg hc] at hs; cases hs
   | off + 1 =>
    unfold nR at hs
    by_cases hc : c.width ≤ off + 1
    ·rw [if_pos hc] at hs
     obtain ⟨k1, k2⟩ := ih h2 hs
     refine ⟨?_, by rw [List.length_append]; omega⟩
     rw [List.drop_append, List.drop_of_length_le (by omega), List.nil_append, hw]
     exact k1
    ·rw [if_neg hc] at hs; cases hs
structure St where
 t : List (Nat × Option Bool × PV)
 o : List (Nat × Option Bool × Nat × AObj)
def find {α : Type} : List (Nat × α) → Nat → Option α
 | [], _ => none
 | (k, x) :: r, t => match Nat.beq k t with
  | true => some x
  | false => find r t
theorem aP {α : Type} (k : Nat) (x : α) (r : List (Nat × α)) : find ((k, x) :: r) k = some x := by simp [find]
theorem aO {α : Type} {k t : Nat} (x : α) (r : List (Nat × α)) (h : k ≠ t) : find ((k, x) :: r) t = find r t := by
 have : Nat.beq k t = false := by
  cases hb : Nat.beq k t with
  | false => rfl
  | true => exact absurd (Nat.eq_of_beq_eq_true hb) h
 simp only [find, this]
theorem kV {α : Type} {t : Nat} : ∀ (l r : List (Nat × α)), (∀ p ∈ l, p.1 ≠ t) → find (l ++ r) t = find r t
 | [], _, _ => rfl
 | (k, x) :: l, r, h => by
  rw [List.cons_append, aO _ _ (h (k, x) List.mem_cons_self)]
  exact kV l r (fun p hp => h p (List.mem_cons_of_mem _ hp))
theorem oO {α : Type} {t : Nat} : ∀ (l r r' : List (Nat × α)), (find r t = find r' t ∨ ∃ p ∈ l, p.1 = t) → find (l ++ r) t = find (l ++ r') t
 | [], _, _, h => by
  rcases h with h | ⟨p, hp, _⟩
  ·exact h
  ·cases hp
 | (k, x) :: l, r, r', h => by
  by_cases hk : k = t
  ·subst hk; rw [List.cons_append, List.cons_append, aP, aP]
  ·rw [List.cons_append, List.cons_append, aO _ _ hk, aO _ _ hk]
   refine oO l r r' (h.imp id fun ⟨p, hp, he⟩ => ?_)
   rcases List.mem_cons.1 hp with rfl | hp
   ·exact absurd he hk
   ·exact ⟨p, hp, he⟩
inductive M where
 | ret (v : PV)
 | fail
 | need (p : Prop) (k : M)
 | tmp (t : Nat) (k : Option Bool → PV → M)
 | obj (x : Nat) (k : Option Bool → Nat → AObj → M)
 | new (x : Nat) (o : AObj) (k : Nat → M)
 | upd (x : Nat) (ver : Nat) (o : AObj) (k : M)
 | gate (b : Bool) (k : M)
abbrev Wr := List (Nat × Option Bool × Nat × AObj)
def fresh (s : St) (x : Nat) : Nat := match find s.o x with
 | some (_, vr, _) => vr + 1
 | none => 0
structure Out where
 g : Option Bool
 val : PV
 conds : List Prop
 rt : List Nat
 ro : List Nat
 wr : Wr
def hP (h : Option Bool) (p : Prop) : Prop := match h with
 | none => p
 | some b => b = true → p
def M.run : M → Option Bool → St → Option Out
 | .ret v, h, _ => some ⟨h, v, [], [], [], []⟩
 | .fail, _, _ => none
 | .need p k, h, s => match k.run h s with
  | some o => some { o with conds := hP h p :: o.conds }
  | none => none
 | .tmp t k, h, s => match find s.t t with
  | some (g, v) => (match (k g v).run h s with
   | some o => some { o with rt := t :: o.rt }
   | none => none)
  | none => none
 | .obj x k, h, s => match find s.o x with
  | some (g, vr, ob) => (match (k g vr ob).run h s with
   | some o => some { o with ro := x :: o.ro }
   | none => none)
  | none => none
 | .new x ob k, h, s => match (k (fresh s x)).run h s with
   | some o => some { o with ro := x :: o.ro, wr := (x, h, fresh s x, ob) :: o.wr }
   | none => none
 | .upd x vr ob k, h, s => match h with
  | none => (match k.run h s with
   | some o => some { o with wr := (x, none, vr, ob) :: o.wr }
   | none => none)
  | some _ => none
 | .gate b k, h, s => match h with
  | none => k.run (some b) s
  | some _ => none
theorem M.frame : ∀ (m : M) (h : Option Bool) (s s' : St) (o : Out), m.run h s = some o → (∀ t ∈ o.rt, find s'.t t = find s.t t) → (∀ x ∈ o.ro, find s'.o x = find s.o x) → m.run h s' = some o := by
 intro m
 induction m with
 | ret v => intro h0 s s' o h _ _; exact h
 | fail => intro h0 s s' o h; cases h
 | need p k ih =>
  intro h0 s s' o h h1 h2
  unfold M.run at h ⊢
  cases hk : k.run h0 s with
  | none => rw [hk] at h; cases h
  | some q => rw [hk] at h; cases h; rw [ih h0 s s' q hk h1 h2]
 | tmp t k ih =>
  intro h0 s s' o h h1 h2
  unfold M.run at h ⊢
  cases hf : find s.t t with
  | none => rw [hf] at h; cases h
  | some p =>
   obtain ⟨g, v⟩ := p
   rw [hf] at h
   dsimp only at h
   cases hk : (k g v).run h0 s with
   | none => rw [hk] at h; cases h
   | some q =>
    rw [hk] at h
    cases h
    rw [h1 t List.mem_cons_self, hf]
    dsimp only
    rw [ih g v h0 s s' q hk (fun t ht => h1 t (List.mem_cons_of_mem _ ht)) h2]
 | obj x k ih =>
  intro h0 s s' o h h1 h2
  unfold M.run at h ⊢
  cases hf : find s.o x with
  | none => rw [hf] at h; cases h
  | some p =>
   obtain ⟨g, vr, ob⟩ := p
   rw [hf] at h
   dsimp only at h
   cases hk : (k g vr ob).run h0 s with
   | none => rw [hk] at h; cases h
   | some q =>
    rw [hk] at h
    cases h
    rw [h2 x List.mem_cons_self, hf]
    dsimp only
    rw [ih g vr ob h0 s s' q hk h1 (fun t ht => h2 t (List.mem_cons_of_mem _ ht))]
 | new x ob k ih =>
  intro h0 s s' o h h1 h2
  unfold M.run at h ⊢
  cases hk : (k (fresh s x)).run h0 s with
  | none => rw [hk] at h; cases h
  | some q =>
   rw [hk] at h
   cases h
   have hx : fresh s' x = fresh s x := by unfold fresh; rw [h2 x List.mem_cons_self]
   rw [hx, ih _ h0 s s' q hk h1 (fun t ht => h2 t (List.mem_cons_of_mem _ ht))]
 | upd x vr ob k ih =>
  intro h0 s s' o h h1 h2
  unfold M.run at h ⊢
  cases h0 with
  | some b => cases h
  | none =>
   dsimp only at h ⊢
   cases hk : k.run none s with
   | none => rw [hk] at h; cases h
   | some q => rw [hk] at h; cases h; rw [ih none s s' q hk h1 h2]
 | gate b k ih =>
  intro h0 s s' o h h1 h2
  unfold M.run at h ⊢
  cases h0 with
  | some b => cases h
  | none => exact ih _ s s' o h h1 h2
def M.ok : M → Option Bool → St → (Option Bool → PV → Wr → Prop) → Prop
 | .ret v, h, _, F => F h v []
 | .fail, _, _, _ => False
 | .need p k, h, s, F => hP h p ∧ k.ok h s F
 | .tmp t k, h, s, F => ∃ g v, find s.t t = some (g, v) ∧ (k g v).ok h s F
 | .obj x k, h, s, F => ∃ g vr ob, find s.o x = some (g, vr, ob) ∧ (k g vr ob).ok h s F
 | .new x ob k, h, s, F => (k (fresh s x)).ok h s (fun g' v wr => F g' v ((x, h, fresh s x, ob) :: wr))
 | .upd x vr ob k, h, s, F => h = none ∧ k.ok h s (fun g' v wr => F g' v ((x, none, vr, ob) :: wr))
 | .gate b k, h, s, F => h = none ∧ k.ok (some b) s F
theorem M.ok_of_run : ∀ (m : M) (h0 : Option Bool) (s : St) (out : Out) (F : Option Bool → PV → Wr → Prop), m.run h0 s = some out → (∀ p ∈ out.conds, p) → F out.g out.val out.wr → m.ok h0 s F := by
 intro m
 induction m with
 | ret v => intro h0 s out F h _ hF; cases h; exact hF
 | fail => intro h0 s out F h; cases h
 | need p k ih =>
  intro h0 s out F h hc hF
  unfold M.run at h
  cases hk : k.run h0 s with
  | none => rw [hk] at h; cases h
  | some q => rw [hk] at h; cases h; exact ⟨hc _ List.mem_cons_self, ih h0 s q F hk (fun p' hp => hc p' (List.mem_cons_of_mem _ hp)) hF⟩
 | tmp t k ih =>
  intro h0 s out F h hc hF
  unfold M.run at h
  cases hf : find s.t t with
  | none => rw [hf] at h; cases h
  | some p =>
   obtain ⟨g, v⟩ := p
   rw [hf] at h
   dsimp only at h
   cases hk : (k g v).run h0 s with
   | none => rw [hk] at h; cases h
   | some q => rw [hk] at h; cases h; exact ⟨g, v, hf, ih g v h0 s q F hk hc hF⟩
 | obj x k ih =>
  intro h0 s out F h hc hF
  unfold M.run at h
  cases hf : find s.o x with
  | none => rw [hf] at h; cases h
  | some p =>
   obtain ⟨g, vr, ob⟩ := p
   rw [hf] at h
   dsimp only at h
   cases hk : (k g vr ob).run h0 s with
   | none => rw [hk] at h; cases h
   | some q => rw [hk] at h; cases h; exact ⟨g, vr, ob, hf, ih g vr ob h0 s q F hk hc hF⟩
 | new x ob k ih =>
  intro h0 s out F h hc hF
  unfold M.run at h
  cases hk : (k (fresh s x)).run h0 s with
  | none => rw [hk] at h; cases h
  | some q => rw [hk] at h; cases h; exact ih _ h0 s q _ hk hc hF
 | upd x vr ob k ih =>
  intro h0 s out F h hc hF
  unfold M.run at h
  cases h0 with
  | some b => cases h
  | none =>
   dsimp only at h
   cases hk : k.run none s with
   | none => rw [hk] at h; cases h
   | some q => rw [hk] at h; cases h; exact ⟨rfl, ih none s q _ hk hc hF⟩
 | gate b k ih =>
  intro h0 s out F h hc hF
  unfold M.run at h
  cases h0 with
  | some b => cases h
  | none => exact ⟨rfl, ih _ s out F h hc hF⟩
def app (d : Option Nat) (o : Out) (s : St) : St :=
 { t := (match d with
   | some d => (d, o.g, o.val) :: s.t
   | none => s.t), o := o.wr ++ s.o }
def oH (mop : Nat → Oper → M) : Nat → List Oper → St → Option (List (Option Nat × Out) × St)
 | _, [], s => some ([], s)
 | i, o :: l, s => match (mop i o).run none s with
  | some out => (match oH mop (i + 1) l (app o.dst out s) with
   | some (outs, s') => some ((o.dst, out) :: outs, s')
   | none => none)
  | none => none
def merge (L : Nat → Bool) : Nat → List (Option Nat × Out) → St → St
 | _, [], s => s
 | i, (d, o) :: l, s => merge L (i + 1) l (if L i = true then app d o s else s)
def wrT (d : Option Nat) (t : Nat) : Prop := d = some t
def wrO (o : Out) (x : Nat) : Prop := ∃ p ∈ o.wr, p.1 = x
theorem aHs {d : Option Nat} {o : Out} {s : St} {t : Nat} (h : ¬ wrT d t) : find (app d o s).t t = find s.t t := by
 cases d with
 | none => rfl
 | some d => unfold app; dsimp only; rw [aO _ _ (fun e => h (by rw [e]; rfl))]
theorem aHr {d : Option Nat} {o : Out} {s s' : St} {t : Nat} (h : wrT d t) : find (app d o s).t t = find (app d o s').t t := by
 unfold wrT at h
 subst h
 unfold app
 dsimp only
 rw [aP, aP]
theorem aHu {d : Option Nat} {o : Out} {s : St} {x : Nat} (h : ¬ wrO o x) : find (app d o s).o x = find s.o x := kV _ _ (fun p hp e => h ⟨p, hp, e⟩)
theorem aHt {d : Option Nat} {o : Out} {s s' : St} {x : Nat} (h : wrO o x) : find (app d o s).o x = find (app d o s').o x := oO _ _ _ (.inr h)
theorem zU {t : Nat} {L L' : Nat → Bool} : ∀ (l : List (Option Nat × Out)) (i : Nat) (s s' : St), find s.t t = find s'.t t → (∀ j p, l[j]? = some p → wrT p.1 t → L (i + j) = L' (i + j)) → find (merge L i l s).t t = find (merge L' i l s').t t
 | [], _, _, _, h, _ => h
 | (d, o) :: l, i, s, s', h, ha => by
  refine zU l (i + 1) _ _ ?_ (fun j p hj hw => by rw [Nat.add_assoc, Nat.add_comm 1]; exact ha (j + 1) p (by simpa using hj) hw)
  by_cases hw : wrT d t
  ·have := ha 0 (d, o) rfl hw
   rw [Nat.add_zero] at this
   rw [this]
   by_cases hl : L' i = true
   ·rw [if_pos hl, if_pos hl]; exact aHr hw
   ·rw [if_neg hl, if_neg hl]; exact h
  ·have e1 : ∀ (b : Bool) (z : St), find (if b = true then app d o z else z).t t = find z.t t := fun b z => by
    cases b
    ·rfl
    ·exact aHs hw
   rw [e1, e1]; exact h
theorem zX {x : Nat} {L L' : Nat → Bool} : ∀ (l : List (Option Nat × Out)) (i : Nat) (s s' : St), find s.o x = find s'.o x → (∀ j p, l[j]? = some p → wrO p.2 x → L (i + j) = L' (i + j)) → find (merge L i l s).o x = find (merge L' i l s').o x
 | [], _, _, _, h, _ => h
 | (d, o) :: l, i, s, s', h, ha => by
  refine zX l (i + 1) _ _ ?_ (fun j p hj hw => by rw [Nat.add_assoc, Nat.add_comm 1]; exact ha (j + 1) p (by simpa using hj) hw)
  by_cases hw : wrO o x
  ·have := ha 0 (d, o) rfl hw
   rw [Nat.add_zero] at this
   rw [this]
   by_cases hl : L' i = true
   ·rw [if_pos hl, if_pos hl]; exact aHt hw
   ·rw [if_neg hl, if_neg hl]; exact h
  ·have e1 : ∀ (b : Bool) (z : St), find (if b = true then app d o z else z).o x = find z.o x := fun b z => by
    cases b
    ·rfl
    ·exact aHu hw
   rw [e1, e1]; exact h
theorem oK : ∀ (l : List (Option Nat × Out)) (i : Nat) (s : St) (L : Nat → Bool), (∀ j, j < l.length → L (i + j) = false) → merge L i l s = s
 | [], _, _, _, _ => rfl
 | (d, o) :: l, i, s, L, h => by
  have h0 := h 0 (by simp)
  rw [Nat.add_zero] at h0
  rw [merge, h0]
  exact oK l (i + 1) s L (fun j hj => by have := h (j + 1) (by simpa using hj); rwa [Nat.add_assoc, Nat.add_comm 1])
theorem zV {t : Nat} {L : Nat → Bool} : ∀ (l : List (Option Nat × Out)) (i k : Nat) (s : St) (d : Option Nat) (o : Out), l[k]? = some (d, o) → wrT d t → (∀ j p, l[j]? = some p → k < j → wrT p.1 t → L (i + j) = false) →
  find (app d o (merge L i l s)).t t = find (merge (fun j => if j = i + k then true else L j) i l s).t t
 | [], _, _, _, _, _, h, _, _ => by simp at h
 | (d', o') :: l, i, 0, s, d, o, h, hw, ha => by
  obtain ⟨rfl, rfl⟩ : d' = d ∧ o' = o := by simpa using h
  rw [merge, merge, show (if i = i + 0 then true else L i) = true from if_pos rfl, if_pos rfl, aHr (s' := s) hw]
  have h1 : merge (fun j => if j = i + 0 then true else L j) (i + 1) l (app d' o' s) = merge L (i + 1) l (app d' o' s) := by
   have : ∀ (l : List (Option Nat × Out)) (i' : Nat) (s : St), i < i' → merge (fun j => if j = i + 0 then true else L j) i' l s = merge L i' l s := by
    intro l
    induction l with
    | nil => intro i' s _; rfl
    | cons p l ih =>
     intro i' s hi
     obtain ⟨d, o⟩ := p
     rw [merge, merge]
     rw [if_neg (show ¬ i' = i + 0 by omega)]
     exact ih (i' + 1) _ (by omega)
   exact this l (i + 1) _ (by omega)
  rw [h1]
  refine Eq.trans ?_ (zU (L := fun _ => false) l (i + 1) (app d' o' s) _ rfl (fun j p hj hwp => ?_))
  ·rw [oK l (i + 1) _ _ (fun _ _ => rfl)]
  ·have := ha (j + 1) p (by simpa using hj) (by omega) hwp
   rw [Nat.add_assoc, Nat.add_comm 1, this]
 | (d', o') :: l, i, k + 1, s, d, o, h, hw, ha => by
  rw [merge, merge]
  rw [if_neg (show ¬ i = i + (k + 1) by omega)]
  have := zV (t := t) (L := L) l (i + 1) k (if L i = true then app d' o' s else s) d o (by simpa using h) hw (fun j p hj hk hwp => by
   have := ha (j + 1) p (by simpa using hj) (by omega) hwp
   rwa [Nat.add_assoc, Nat.add_comm 1])
  rw [this, show i + 1 + k = i + (k + 1) from by omega]
theorem zW {x : Nat} {L : Nat → Bool} : ∀ (l : List (Option Nat × Out)) (i k : Nat) (s : St) (d : Option Nat) (o : Out), l[k]? = some (d, o) → wrO o x → (∀ j p, l[j]? = some p → k < j → wrO p.2 x → L (i + j) = false) →
  find (app d o (merge L i l s)).o x = find (merge (fun j => if j = i + k then true else L j) i l s).o x
 | [], _, _, _, _, _, h, _, _ => by simp at h
 | (d', o') :: l, i, 0, s, d, o, h, hw, ha => by
  obtain ⟨rfl, rfl⟩ : d' = d ∧ o' = o := by simpa using h
  rw [merge, merge, show (if i = i + 0 then true else L i) = true from if_pos rfl, if_pos rfl, aHt (s' := s) hw]
  have h1 : merge (fun j => if j = i + 0 then true else L j) (i + 1) l (app d' o' s) = merge L (i + 1) l (app d' o' s) := by
   have : ∀ (l : List (Option Nat × Out)) (i' : Nat) (s : St), i < i' → merge (fun j => if j = i + 0 then true else L j) i' l s = merge L i' l s := by
    intro l
    induction l with
    | nil => intro i' s _; rfl
    | cons p l ih =>
     intro i' s hi
     obtain ⟨d, o⟩ := p
     rw [merge, merge]
     rw [if_neg (show ¬ i' = i + 0 by omega)]
     exact ih (i' + 1) _ (by omega)
   exact this l (i + 1) _ (by omega)
  rw [h1]
  refine Eq.trans ?_ (zX (L := fun _ => false) l (i + 1) (app d' o' s) _ rfl (fun j p hj hwp => ?_))
  ·rw [oK l (i + 1) _ _ (fun _ _ => rfl)]
  ·have := ha (j + 1) p (by simpa using hj) (by omega) hwp
   rw [Nat.add_assoc, Nat.add_comm 1, this]
 | (d', o') :: l, i, k + 1, s, d, o, h, hw, ha => by
  rw [merge, merge]
  rw [if_neg (show ¬ i = i + (k + 1) by omega)]
  have := zW (x := x) (L := L) l (i + 1) k (if L i = true then app d' o' s else s) d o (by simpa using h) hw (fun j p hj hk hwp => by
   have := ha (j + 1) p (by simpa using hj) (by omega) hwp
   rwa [Nat.add_assoc, Nat.add_comm 1])
  rw [this, show i + 1 + k = i + (k + 1) from by omega]
theorem aFs {mop : Nat → Oper → M} : ∀ (l : List Oper) (i : Nat) (s s' : St) (outs : List (Option Nat × Out)), oH mop i l s = some (outs, s') →
  outs.length = l.length ∧ s' = merge (fun _ => true) i outs s ∧ ∀ k o, l[k]? = some o → ∃ out, outs[k]? = some (o.dst, out) ∧ (mop (i + k) o).run none (merge (fun j => decide (j < i + k)) i outs s) = some out
 | [], i, s, s', outs, h => by
  obtain ⟨rfl, rfl⟩ : [] = outs ∧ s = s' := by simpa [oH] using h
  exact ⟨rfl, rfl, fun k o hk => by simp at hk⟩
 | o :: l, i, s, s', outs, h => by
  unfold oH at h
  cases hr : (mop i o).run none s with
  | none => rw [hr] at h; cases h
  | some out =>
   rw [hr] at h
   dsimp only at h
   cases hq : oH mop (i + 1) l (app o.dst out s) with
   | none => rw [hq] at h; cases h
   | some p =>
    obtain ⟨outs2, s2⟩ := p
    rw [hq] at h
    cases h
    obtain ⟨h1, h2, h3⟩ := aFs l (i + 1) _ _ _ hq
    refine ⟨by simp [h1], by rw [merge, if_pos rfl]; exact h2, fun k o' hk => ?_⟩
    match k with
    | 0 =>
     obtain rfl : o = o' := by simpa using hk
     refine ⟨out, rfl, ?_⟩
     rw [Nat.add_zero, oK _ i s _ (fun j _ => by simp)]
     exact hr
    | k + 1 =>
     obtain ⟨out', h4, h5⟩ := h3 k o' (by simpa using hk)
     refine ⟨out', by simpa using h4, ?_⟩
     rw [merge, if_pos (by simp), show i + (k + 1) = i + 1 + k from by omega]
     exact h5
def masks (md : Region.Mode) : List Oper → List Nat → List Nat
 | [], acc => acc
 | o :: l, acc => masks md l (acc ++ [o.after.toList.foldl (fun m e => match Region.binds md e with
   | true => Nat.lor m (Nat.lor (Nat.shiftLeft 1 e.on) (acc.getD e.on 0))
   | false => m) 0])
inductive Anc (md : Region.Mode) (ops : Array Oper) : Nat → Nat → Prop where
 | edge {i : Nat} {o : Oper} {e : Edge} (ho : ops[i]? = some o) (he : e ∈ o.after) (hb : Region.binds md e = true) : Anc md ops i e.on
 | trans {i j k : Nat} (h : Anc md ops i j) (h' : Anc md ops j k) : Anc md ops i k
def aWt (md : Region.Mode) (ops : Array Oper) (acc : List Nat) : Prop := ∀ i m, acc[i]? = some m → ∀ k, m.testBit k = true → Anc md ops i k
theorem aCh {md : Region.Mode} {ops : Array Oper} {acc : List Nat} (hacc : aWt md ops acc) {i : Nat} {o : Oper} (ho : ops[i]? = some o) :
  ∀ (es : List Edge) (m : Nat), (∀ e ∈ es, e ∈ o.after) → (∀ k, m.testBit k = true → Anc md ops i k) →
   ∀ k, (es.foldl (fun m e => match Region.binds md e with | true => Nat.lor m (Nat.lor (Nat.shiftLeft 1 e.on) (acc.getD e.on 0)) | false => m) m).testBit k = true → Anc md ops i k
 | [], m, _, hm, k, h => hm k h
 | e :: es, m, hes, hm, k, h => by
  rw [List.foldl_cons] at h
  refine aCh hacc ho es _ (fun e' h' => hes e' (List.mem_cons_of_mem _ h')) (fun k' h' => ?_) k h
  have hmem := hes e List.mem_cons_self
  cases hb : Region.binds md e with
  | false => rw [hb] at h'; exact hm k' h'
  | true =>
   rw [hb] at h'
   dsimp only at h'
   change (m ||| (1 <<< e.on ||| acc.getD e.on 0)).testBit k' = true at h'
   rw [Nat.testBit_or, Nat.testBit_or, Bool.or_eq_true, Bool.or_eq_true] at h'
   rcases h' with h' | h' | h'
   ·exact hm k' h'
   ·have hk : k' = e.on := by
     rw [Nat.testBit_shiftLeft, Bool.and_eq_true] at h'
     have h2 := h'.2
     have h1 : e.on ≤ k' := by simpa using h'.1
     rcases Nat.eq_zero_or_pos (k' - e.on) with h0 | h0
     ·omega
     ·rw [Nat.testBit_lt_two_pow (Nat.one_lt_two_pow (by omega))] at h2
      cases h2
    subst hk
    exact .edge ho hmem hb
   ·cases hg : acc[e.on]? with
    | none => rw [zG, hg] at h'; simp at h'
    | some m2 =>
     rw [zG, hg] at h'
     exact .trans (.edge ho hmem hb) (hacc e.on m2 hg k' h')
theorem aLg {md : Region.Mode} {ops : Array Oper} : ∀ (l : List Oper) (acc : List Nat), aWt md ops acc → (∀ k o, l[k]? = some o → ops[acc.length + k]? = some o) → aWt md ops (masks md l acc)
 | [], _, h, _ => h
 | o :: l, acc, h, hl => by
  refine aLg l _ (fun i m hi k hk => ?_) (fun k o' hk => ?_)
  ·rcases Nat.lt_trichotomy i acc.length with hlt | heq | hgt
   ·rw [List.getElem?_append_left hlt] at hi; exact h i m hi k hk
   ·subst heq
    rw [List.getElem?_append_right (Nat.le_refl _), Nat.sub_self] at hi
    rw [List.getElem?_cons_zero, Option.some.injEq] at hi
    subst hi
    exact aCh h (by simpa using hl 0 o rfl) _ 0 (fun e he => Array.mem_toList_iff.1 he) (fun k hk => by simp at hk) k hk
   ·rw [List.getElem?_append_right (by omega)] at hi
    have : i - acc.length ≠ 0 := by omega
    cases hq : i - acc.length with
    | zero => omega
    | succ n => rw [hq] at hi; simp at hi
  ·rw [List.length_append]
   have := hl (k + 1) o' (by simpa using hk)
   simpa [Nat.add_assoc, Nat.add_comm 1] using this
def meet (a b : List Nat) : Bool := a.any fun x => b.any fun y => Nat.beq x y
theorem vY {a b : List Nat} {x : Nat} (h : x ∈ a) (k : x ∈ b) : meet a b = true := List.any_eq_true.2 ⟨x, h, List.any_eq_true.2 ⟨x, k, by simp⟩⟩
def clash (p q : Option Nat × Out) : Bool :=
 let wt (p : Option Nat × Out) := p.1.toList
 let wo (p : Option Nat × Out) := p.2.wr.map (·.1)
 meet (wt p) (wt q) || meet (wt p) q.2.rt || meet p.2.rt (wt q) || meet (wo p) (wo q) || meet (wo p) q.2.ro || meet p.2.ro (wo q)
def aAk : List (Option Nat × Out) → List (Nat × Option Nat × Out) → List Nat → Bool
 | [], _, _ => true
 | _ :: _, _, [] => false
 | p :: l, seen, m :: ms => (seen.all fun q => !(clash q.2 p) || m.testBit q.1) && aAk l (seen ++ [(seen.length, p)]) ms
theorem wY : ∀ (l : List (Option Nat × Out)) (seen : List (Nat × Option Nat × Out)) (ms : List Nat), aAk l seen ms = true → (∀ (j : Nat) (q : Nat × Option Nat × Out), seen[j]? = some q → q.1 = j) →
  ∀ j k p q, j < k → ((seen.map (·.2)) ++ l)[j]? = some q → l[k - seen.length]? = some p → seen.length ≤ k → clash q p = true → ∃ m, ms[k - seen.length]? = some m ∧ m.testBit j = true
 | [], _, _, _, _, j, k, p, q, _, _, hp, _, _ => by simp at hp
 | p0 :: l, seen, [], h, _, _, _, _, _, _, _, _, _, _ => by cases h
 | p0 :: l, seen, m :: ms, h, hs, j, k, p, q, hjk, hq, hp, hk, hc => by
  rw [aAk, Bool.and_eq_true] at h
  rcases Nat.eq_or_lt_of_le hk with heq | hlt
  ·rw [← heq, Nat.sub_self] at hp ⊢
   obtain rfl : p0 = p := by simpa using hp
   refine ⟨m, rfl, ?_⟩
   rw [List.getElem?_append_left (by rw [List.length_map]; omega), List.getElem?_map] at hq
   cases hsj : seen[j]? with
   | none => rw [hsj] at hq; cases hq
   | some z =>
    rw [hsj] at hq
    obtain rfl : z.2 = q := by simpa using hq
    have h1 := List.all_eq_true.1 h.1 z (List.mem_of_getElem? hsj)
    rw [hc, hs j z hsj] at h1
    simpa using h1
  ·have hsl : (seen ++ [(seen.length, p0)]).length = seen.length + 1 := by simp
   have := wY l (seen ++ [(seen.length, p0)]) ms h.2 (fun j q hj => by
    rcases Nat.lt_trichotomy j seen.length with h1 | h1 | h1
    ·rw [List.getElem?_append_left h1] at hj; exact hs j q hj
    ·subst h1
     rw [List.getElem?_append_right (Nat.le_refl _), Nat.sub_self] at hj
     obtain rfl : _ = q := by simpa using hj
     rfl
    ·rw [List.getElem?_append_right (by omega)] at hj
     cases hz : j - seen.length with
     | zero => omega
     | succ n => rw [hz] at hj; simp at hj) j k p q hjk (by simpa using hq) (by
      rw [hsl]
      rw [show k - seen.length = (k - (seen.length + 1)) + 1 from by omega] at hp
      simpa using hp) (by omega) hc
   rw [hsl] at this
   obtain ⟨m', h1, h2⟩ := this
   exact ⟨m', by rw [show k - seen.length = (k - (seen.length + 1)) + 1 from by omega]; simpa using h1, h2⟩
def aWe (md : Region.Mode) : List Oper → Nat → Bool
 | [], _ => true
 | o :: l, i => (o.after.toList.all fun e => match Region.binds md e with | true => Nat.blt e.on i | false => true) && aWe md l (i + 1)
theorem aCq {md : Region.Mode} : ∀ (l : List Oper) (i : Nat), aWe md l i = true → ∀ k o, l[k]? = some o → ∀ e ∈ o.after, Region.binds md e = true → e.on < i + k
 | [], _, _, k, o, hk => by simp at hk
 | o0 :: l, i, h, k, o, hk => by
  rw [aWe, Bool.and_eq_true] at h
  intro e he hb
  match k with
  | 0 =>
   obtain rfl : o0 = o := by simpa using hk
   have := List.all_eq_true.1 h.1 e (Array.mem_toList_iff.2 he)
   rw [hb] at this
   have h2 : Nat.blt e.on i = true := this
   have h3 : e.on + 1 ≤ i := by simpa [Nat.blt] using h2
   omega
  | k + 1 =>
   have := aCq l (i + 1) h.2 k o (by simpa using hk) e he hb
   omega
section
variable {P : Program} {ops : Array Oper} {Q : Exit → Act → World → Prop}
def OpsOk (P : Program) (ops : Array Oper) (Q : Exit → Act → World → Prop) (G : St → Act → World → Prop) (mop : Nat → Oper → M) : Prop :=
 ∀ i o s a w out, ops[i]? = some o → G s a w → (mop i o).run none s = some out → (∀ p ∈ out.conds, p) →
  ∀ K : Act → World → Prop, (∀ a' w', G (app o.dst out s) a' w' → K a' w') → wpOp P ops Q i K a w
def Finds (G : St → Act → World → Prop) : Prop := ∀ s s' a w, (∀ t, find s.t t = find s'.t t) → (∀ x, find s.o x = find s'.o x) → G s a w → G s' a w
theorem qJ {G : St → Act → World → Prop} {mop : Nat → Oper → M} (hok : OpsOk P ops Q G mop) :
  ∀ (l : List Oper) (i : Nat) (s s' : St) (outs : List (Option Nat × Out)) (a : Act) (w : World), (∀ k o, l[k]? = some o → ops[i + k]? = some o) → oH mop i l s = some (outs, s') → (∀ q ∈ outs, ∀ p ∈ q.2.conds, p) → G s a w →
   (∀ a' w', G s' a' w' → Q .normal a' w') → wpOps P ops Q (List.range' i l.length) a w
 | [], i, s, s', outs, a, w, _, h, _, hg, hQ => by
  obtain ⟨rfl, rfl⟩ : [] = outs ∧ s = s' := by simpa [oH] using h
  exact hQ a w hg
 | o :: l, i, s, s', outs, a, w, hl, h, hc, hg, hQ => by
  unfold oH at h
  cases hr : (mop i o).run none s with
  | none => rw [hr] at h; cases h
  | some out =>
   rw [hr] at h
   dsimp only at h
   cases hq : oH mop (i + 1) l (app o.dst out s) with
   | none => rw [hq] at h; cases h
   | some p =>
    obtain ⟨outs2, s2⟩ := p
    rw [hq] at h
    cases h
    rw [List.length_cons, List.range'_succ, wpOps_cons]
    refine hok i o s a w out (by simpa using hl 0 o rfl) hg hr (fun p hp => hc _ List.mem_cons_self p hp) _ (fun a' w' hg' => ?_)
    exact qJ hok l (i + 1) _ s' outs2 a' w' (fun k o' hk => by rw [Nat.add_assoc, Nat.add_comm 1]; exact hl (k + 1) o' (by simpa using hk)) hq (fun q hq' => hc q (List.mem_cons_of_mem _ hq')) hg' hQ
theorem aIb {G : St → Act → World → Prop} {mop : Nat → Oper → M} (hok : OpsOk P ops Q G mop) (hfind : Finds G) {s0 s' : St} {outs : List (Option Nat × Out)}
  (hrun : oH mop 0 ops.toList s0 = some (outs, s')) (hc : ∀ q ∈ outs, ∀ p ∈ q.2.conds, p) (hb : aWe .any ops.toList 0 = true) (hcl : aAk outs [] (masks .any ops.toList []) = true)
  (hQ : ∀ a' w', G s' a' w' → Q .normal a' w') :
  ∀ (fuel : Nat) (listed : Array Bool) (a : Act) (w : World), listed.size = ops.size → (listed.toList.countP (· == false)) ≤ fuel →
   (∀ i o, ops[i]? = some o → listed.getD i false = true → ∀ e ∈ o.after, Region.binds .any e = true → listed.getD e.on false = true) →
   G (merge (fun i => listed.getD i false) 0 outs s0) a w → wpAny P .any ops Q fuel listed a w := by
 obtain ⟨hlen, hs', hat⟩ := aFs _ _ _ _ _ hrun
 have hlen' : outs.length = ops.size := by simpa using hlen
 have hmask := aLg (md := .any) (ops := ops) ops.toList [] (fun i m hi => by simp at hi) (fun k o hk => by simpa using hk)
 have hanc : ∀ (listed : Array Bool), (∀ i o, ops[i]? = some o → listed.getD i false = true → ∀ e ∈ o.after, Region.binds .any e = true → listed.getD e.on false = true) → ∀ i k, Anc .any ops i k → listed.getD i false = true → listed.getD k false = true := by
  intro listed hcl2 i k h
  induction h with
  | edge ho he hb => intro hi; exact hcl2 _ _ ho hi _ he hb
  | trans _ _ ih1 ih2 => intro hi; exact ih2 (ih1 hi)
 have hanc' : ∀ (listed : Array Bool) (i : Nat), (∀ i o, ops[i]? = some o → listed.getD i false = true → ∀ e ∈ o.after, Region.binds .any e = true → listed.getD e.on false = true) → (∀ o, ops[i]? = some o → ∀ e ∈ o.after, Region.binds .any e = true → listed.getD e.on false = true) → ∀ k, Anc .any ops i k → listed.getD k false = true := by
  intro listed i hcl2 hi k h
  induction h with
  | edge ho he hb => exact hi _ ho _ he hb
  | trans h1 h2 ih1 _ => exact hanc listed hcl2 _ _ h2 (ih1 hi)
 have hclash : ∀ j k q p, j < k → outs[j]? = some q → outs[k]? = some p → clash q p = true → Anc .any ops k j := by
  intro j k q p hjk hq hp h
  obtain ⟨m, h1, h2⟩ := wY outs [] _ hcl (fun j q hj => by simp at hj) j k p q hjk (by simpa using hq) (by simpa using hp) (by simp) h
  exact hmask k m (by simpa using h1) j h2
 have hdone : ∀ (listed : Array Bool) (a : Act) (w : World), listed.size = ops.size → Region.ready .any ops listed = [] → G (merge (fun i => listed.getD i false) 0 outs s0) a w → Q .normal a w := by
  intro listed a w hsz hr hg
  have hall : ∀ n i, i < n → i < ops.size → listed.getD i false = true := by
   intro n
   induction n with
   | zero => intro i hi; omega
   | succ n ih =>
    intro i hi hi2
    cases hl : listed.getD i false with
    | true => rfl
    | false =>
     have : i ∈ Region.ready .any ops listed := mem_ready.2 ⟨by
      rw [Array.getD_eq_getD_getElem?] at hl ⊢
      rw [Array.getElem?_eq_getElem (by omega)] at hl ⊢
      exact hl, ops[i], Array.getElem?_eq_getElem hi2, fun e he hbd => ?_⟩
     ·rw [hr] at this; cases this
     ·have := aCq ops.toList 0 hb i ops[i] (by simp [hi2]) e he hbd
      exact ih e.on (by omega) (by omega)
  refine hQ a w (hfind _ _ a w (fun t => ?_) (fun x => ?_) hg)
  ·rw [hs']
   exact zU outs 0 s0 s0 rfl (fun j p hj _ => by
    have : j < outs.length := (List.getElem?_eq_some_iff.1 hj).1
    exact hall (0 + j + 1) (0 + j) (by omega) (by omega))
  ·rw [hs']
   exact zX outs 0 s0 s0 rfl (fun j p hj _ => by
    have : j < outs.length := (List.getElem?_eq_some_iff.1 hj).1
    exact hall (0 + j + 1) (0 + j) (by omega) (by omega))
 intro fuel
 induction fuel with
 | zero =>
  intro listed a w hsz hcnt hclosed hg
  have hr : Region.ready .any ops listed = [] := by
   cases hrd : Region.ready .any ops listed with
   | nil => rfl
   | cons i l =>
    have hi : i ∈ Region.ready .any ops listed := by rw [hrd]; exact List.mem_cons_self
    obtain ⟨h1, o, ho, _⟩ := mem_ready.1 hi
    have hlt : i < listed.size := by rw [hsz]; exact (Array.getElem?_eq_some_iff.1 ho).1
    have : false ∈ listed.toList := by
     rw [Array.getD_eq_getD_getElem?, Array.getElem?_eq_getElem hlt] at h1
     have h1' : listed[i] = false := h1
     rw [← h1']
     simp
    have := (List.countP_pos_iff (p := (· == false))).2 ⟨false, this, rfl⟩
    omega
  exact ⟨hr, hdone listed a w hsz hr hg⟩
 | succ fuel ih =>
  intro listed a w hsz hcnt hclosed hg
  refine ⟨fun hr => hdone listed a w hsz hr hg, fun i hi => ?_⟩
  obtain ⟨h1, o, ho, hpre⟩ := mem_ready.1 hi
  have hlt : i < listed.size := by rw [hsz]; exact (Array.getElem?_eq_some_iff.1 ho).1
  have hfalse : listed.getD i false = false := by
   rw [Array.getD_eq_getD_getElem?] at h1 ⊢
   rw [Array.getElem?_eq_getElem hlt] at h1 ⊢
   exact h1
  obtain ⟨out, hout, hrn⟩ := hat i o (by simpa using ho)
  rw [Nat.zero_add] at hrn
  have hpreA := hanc' listed i hclosed (fun o' ho' => by rw [ho] at ho'; cases ho'; exact hpre)
  have hbefore : ∀ j q, outs[j]? = some q → clash q (o.dst, out) = true → j < i → listed.getD j false = true := fun j q hj hc hji => hpreA j (hclash j i q _ hji hj hout hc)
  have hafter : ∀ j q, outs[j]? = some q → clash (o.dst, out) q = true → i < j → listed.getD j false = false := fun j q hj hc hij => by
   cases hl : listed.getD j false with
   | false => rfl
   | true =>
    have := hanc listed hclosed j i (hclash i j _ q hij hout hj hc) hl
    rw [hfalse] at this
    cases this
  have hrun2 : (mop i o).run none (merge (fun j => listed.getD j false) 0 outs s0) = some out := by
   refine M.frame _ _ _ _ _ hrn (fun t ht => ?_) (fun x hx => ?_)
   ·refine zU outs 0 s0 s0 rfl (fun j q hj hw => ?_)
    rw [Nat.zero_add]
    have hw' : t ∈ q.1.toList := by unfold wrT at hw; rw [hw]; simp
    rcases Nat.lt_trichotomy j i with h | h | h
    ·rw [decide_eq_true h]
     exact hbefore j q hj (by unfold clash; simp [vY hw' ht]) h
    ·subst h; rw [hfalse]; simp
    ·rw [decide_eq_false (by omega)]
     exact hafter j q hj (by unfold clash; simp [vY ht hw']) h
   ·refine zX outs 0 s0 s0 rfl (fun j q hj hw => ?_)
    rw [Nat.zero_add]
    obtain ⟨pw, hpw, rfl⟩ := hw
    have hw' : pw.1 ∈ q.2.wr.map (·.1) := List.mem_map.2 ⟨pw, hpw, rfl⟩
    rcases Nat.lt_trichotomy j i with h | h | h
    ·rw [decide_eq_true h]
     exact hbefore j q hj (by unfold clash; simp [vY hw' hx]) h
    ·subst h; rw [hfalse]; simp
    ·rw [decide_eq_false (by omega)]
     exact hafter j q hj (by unfold clash; simp [vY hx hw']) h
  refine hok i o _ a w out ho hg hrun2 (hc _ (List.mem_of_getElem? hout)) _ (fun a' w' hg' => ?_)
  have hget : ∀ j, (listed.setIfInBounds i true).getD j false = (if j = i then true else listed.getD j false) := fun j => by
   rw [Array.getD_eq_getD_getElem?, Array.getD_eq_getD_getElem?, Array.getElem?_setIfInBounds]
   by_cases hij : i = j
   ·subst hij; simp [hlt]
   ·rw [if_neg hij, if_neg (fun e => hij e.symm)]
  refine ih _ a' w' (by simpa using hsz) ?_ (fun j oj hj hl e he hbd => ?_) ?_
  ·have : listed.toList.countP (· == false) = (listed.setIfInBounds i true).toList.countP (· == false) + 1 := by
    have hl : listed.toList = listed.toList.take i ++ (false :: listed.toList.drop (i + 1)) := by
     have hx : listed.toList[i]'(by simpa using hlt) = false := by
      rw [Array.getD_eq_getD_getElem?, Array.getElem?_eq_getElem hlt] at hfalse
      simpa using hfalse
     rw [← hx, List.getElem_cons_drop, List.take_append_drop]
    have hl2 : (listed.setIfInBounds i true).toList = listed.toList.take i ++ (true :: listed.toList.drop (i + 1)) := by
     rw [Array.toList_setIfInBounds, List.set_eq_take_append_cons_drop, if_pos (by simpa using hlt)]
    rw [hl2]
    conv => lhs; rw [hl]
    simp only [List.countP_append, List.countP_cons]
    simp
    omega
   omega
  ·rw [hget] at hl ⊢
   by_cases hei : e.on = i
   ·rw [if_pos hei]
   ·rw [if_neg hei]
    by_cases hji : j = i
    ·subst hji; rw [ho] at hj; cases hj; exact hpre e he hbd
    ·rw [if_neg hji] at hl; exact hclosed j oj hj hl e he hbd
  ·have hfun : (fun j => (listed.setIfInBounds i true).getD j false) = fun j => if j = 0 + i then true else listed.getD j false := funext fun j => by rw [hget, Nat.zero_add]
   rw [hfun]
   refine hfind _ _ a' w' (fun t => ?_) (fun x => ?_) hg'
   ·by_cases hw : wrT o.dst t
    ·refine zV outs 0 i s0 o.dst out hout hw (fun j q hj hij hwq => ?_)
     rw [Nat.zero_add]
     have m1 : t ∈ o.dst.toList := by unfold wrT at hw; rw [hw]; simp
     have m2 : t ∈ q.1.toList := by unfold wrT at hwq; rw [hwq]; simp
     exact hafter j q hj (by unfold clash; simp [vY m1 m2]) hij
    ·rw [aHs hw]
     refine zU outs 0 s0 s0 rfl (fun j q hj hwq => ?_)
     rw [Nat.zero_add, Nat.zero_add]
     by_cases hji : j = i
     ·subst hji
      rw [hout] at hj
      cases hj
      exact absurd hwq hw
     ·rw [if_neg hji]
   ·by_cases hw : wrO out x
    ·refine zW outs 0 i s0 o.dst out hout hw (fun j q hj hij hwq => ?_)
     rw [Nat.zero_add]
     obtain ⟨p1, hp1, e1⟩ := hw
     obtain ⟨p2, hp2, e2⟩ := hwq
     have m1 : x ∈ out.wr.map (·.1) := List.mem_map.2 ⟨p1, hp1, e1⟩
     have m2 : x ∈ q.2.wr.map (·.1) := List.mem_map.2 ⟨p2, hp2, e2⟩
     exact hafter j q hj (by unfold clash; simp [vY m1 m2]) hij
    ·rw [aHu hw]
     refine zX outs 0 s0 s0 rfl (fun j q hj hwq => ?_)
     rw [Nat.zero_add, Nat.zero_add]
     by_cases hji : j = i
     ·subst hji
      rw [hout] at hj
      cases hj
      exact absurd hwq hw
     ·rw [if_neg hji]
def vN (draw : Bool) (l : List Oper) (outs : List (Option Nat × Out)) : Bool := match draw with
 | true => aWe .any l 0 && aAk outs [] (masks .any l [])
 | false => true
theorem aEw {G : St → Act → World → Prop} {mop : Nat → Oper → M} (hok : OpsOk P ops Q G mop) (hfind : Finds G) (hdrew : ∀ s a w, G s a w → G s a w.drew) (hmx : P.follows .mixedOrders = true)
  {id : Nat} {draw : Bool} {s0 s' : St} {outs : List (Option Nat × Out)} (hrun : oH mop 0 ops.toList s0 = some (outs, s')) (hc : ∀ q ∈ outs, ∀ p ∈ q.2.conds, p) (hcl : vN draw ops.toList outs = true)
  {a : Act} {w : World} (hg : G s0 a w) (hQ : ∀ a' w', G s' a' w' → Q .normal a' w') : (Code.region id ops draw).wp P Q a w := by
 cases draw with
 | false =>
  refine wp_region ?_
  have := qJ hok ops.toList 0 s0 s' outs a w (fun k o hk => by simpa using hk) hrun hc hg hQ
  rwa [← List.range_eq_range', Array.length_toList] at this
 | true =>
  unfold vN at hcl
  rw [Bool.and_eq_true] at hcl
  refine wp_region_any hmx ?_
  refine aIb hok hfind hrun hc hcl.1 hcl.2 hQ ops.size _ a _ (by simp) (by simp; exact Nat.le_trans List.countP_le_length (by simp)) (fun i o hi hl => ?_) ?_
  ·rw [Array.getD_eq_getD_getElem?, Array.getElem?_replicate] at hl
   split at hl <;> cases hl
  ·rw [oK _ _ _ _ (fun j _ => by
    rw [Array.getD_eq_getD_getElem?, Array.getElem?_replicate]
    split <;> rfl)]
   exact hdrew _ _ _ hg
end
end Go.Proofs.YtihghljfmlbfhaaGreatDoor.Pv
