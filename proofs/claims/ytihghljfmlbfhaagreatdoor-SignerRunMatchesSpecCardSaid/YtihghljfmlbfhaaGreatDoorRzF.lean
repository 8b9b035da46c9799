/-
  Several texts in one file: each has its own heading below.
-/
import Derived.Test.YtihghljfmlbfhaaGreatDoorRzE
import Derived.Test.YtihghljfmlbfhaaGreatDoorRzA
import Derived.ChangeKeysEq
import Derived.DeepKeys
import Derived.Deep.RegionHeld3
import Derived.Deep.DeepCutAuto
import Derived.Outline
import Derived.OwnWalkIn
import Derived.RangeFuncNested
import Derived.RangeFuncBound
import Derived.RangeFuncCalls
import Derived.RangeFuncLeaves
import Derived.Laws.IdiomStrings
import Derived.Laws.BytesArg
import Derived.Lib.AppendStr
import Derived.Scope
import Derived.WalkMore
set_option maxRecDepth 100000
set_option maxHeartbeats 4000000
namespace Go.Proofs.YtihghljfmlbfhaaGreatDoor
open Go.RowKit
theorem bP.u8 (l : List UInt8) : bP (l.map u8v) := bP.map (fun _ => rfl) l
theorem clone_any (v : Value) (l : List UInt8) (w : World) (h : Reads w 1 v l.length (l.map u8v)) (hn : l.length ≤ 1000000000) :
  Calls Tryz.prog 106 #[v] w fun e w' => ∃ v', e = .returned v' ∧ w'.ownsRow w.heap.size 5 1 v' l.length (l.map u8v) ∧ Ext w w' := by
 have HH := hide h
 obtain ⟨hl, A, c, rfl, _, _, hp⟩ := h
 rcases A with _ | a
 ·have h0 : l = [] := by
   cases l with
   | nil => rfl
   | cons x l =>
    obtain ⟨b, o, e, _⟩ := hp (by simp)
    cases e
  subst h0
  clear hl hp
  simp only [List.length_nil]
  have hnil := fun w => Lib.run_eql_slice_nil (P := Tryz.prog) w 40 5 none 0 c 0 0 Tryz.underlying40
  go_enter Tryz.func106, Tryz.ntmps106
  go_wp2
  go_ret
  exact ⟨_, rfl, World.ownsRow_nil _ _ _ _, Ext.refl _⟩
 ·clear hl hp
  have hnil := fun w => Lib.run_eql_slice_nil (P := Tryz.prog) w 40 5 (some a) l.length c 0 0 Tryz.underlying40
  go_enter Tryz.func106, Tryz.ntmps106
  go_wp2_with (at_builtin; refine aU rfl rfl eG rfl (vG _ w.heap.size _ _ (Nat.le_refl _)) rfl ((aA HH).ext ((Ext.refl w).alloc _)) (bP.u8 l) (by omega) (by simp) ?_; intro A' c' w2 ho hc hv)
  have HQ := hide (And.intro ho (And.intro hc hv))
  clear ho hc hv
  go_wp2
  go_ret
  obtain ⟨ho, hc, hv⟩ := aA HQ
  refine ⟨_, rfl, by simpa using ho, ?_⟩
  exact ((Ext.refl w).alloc (.cells #[] 5)).trans' hc (fun _ _ h => h) (fun i hi e => by cases e; exact absurd hi (Nat.lt_irrefl _))
theorem Blk.far' {w : World} {g : Nat} {t : TypeId} {cs : Array Value} (h : Blk w g t cs) {b : Nat} (hn : ¬ g = b) (i : Nat) (u : Value) : Blk (w.setCell ⟨b, i, none⟩ u) g t cs := h.far hn u
theorem fE (W : World) (t : TypeId) (cs : Array Value) {g : Nat} (hg : g = W.heap.size) {i : Nat} {v : Value} (hv : cs[i]? = some v) : (W.alloc (.cells cs t)).cell? ⟨g, i, none⟩ = some v := by
 rw [(Blk.new' W t cs hg).cell]; exact hv
theorem dS (W : World) (o : Obj) {p : Addr} {v : Value} (h : W.cell? p = some v) : (W.alloc o).cell? p = some v := Ext.cellv ((Ext.refl W).alloc o) h
theorem keep5 {W : World} (o : Obj) {p q r s u : Addr} {a b c d e : Value} (h : W.cell? p = some a ∧ W.cell? q = some b ∧ W.cell? r = some c ∧ W.cell? s = some d ∧ W.cell? u = some e) : (W.alloc o).cell? p = some a ∧ (W.alloc o).cell? q = some b ∧ (W.alloc o).cell? r = some c ∧ (W.alloc o).cell? s = some d ∧ (W.alloc o).cell? u = some e :=
 ⟨dS _ _ h.1, dS _ _ h.2.1, dS _ _ h.2.2.1, dS _ _ h.2.2.2.1, dS _ _ h.2.2.2.2⟩
theorem keepc3 {W : World} (o : Obj) {p q r : Addr} {a b c : Value} (h : W.cell? p = some a ∧ W.cell? q = some b ∧ W.cell? r = some c) : (W.alloc o).cell? p = some a ∧ (W.alloc o).cell? q = some b ∧ (W.alloc o).cell? r = some c :=
 ⟨dS _ _ h.1, dS _ _ h.2.1, dS _ _ h.2.2⟩
theorem keepS {W : World} (o : Obj) {p q r : Addr} {a b : Value} (h : W.cell? p = some a ∧ W.cell? q = some b ∧ W.cell? r = some (held W r) ∧ W.frozen? r = false) : (W.alloc o).cell? p = some a ∧ (W.alloc o).cell? q = some b ∧ (W.alloc o).cell? r = some (held (W.alloc o) r) ∧ (W.alloc o).frozen? r = false :=
 ⟨dS _ _ h.1, dS _ _ h.2.1, aAl (dS _ _ h.2.2.1), Ext.frozenv ((Ext.refl W).alloc o) h.2.2.2 (lt_of_cell h.2.2.1)⟩
theorem zZ {W : World} (u : Value) {g i j k : Nat} {a b : Value} (hi : i ≠ k) (hj : j ≠ k) (h : W.cell? ⟨g, i, none⟩ = some a ∧ W.cell? ⟨g, j, none⟩ = some b ∧ W.cell? ⟨g, k, none⟩ = some (held W ⟨g, k, none⟩) ∧ W.frozen? ⟨g, k, none⟩ = false) :
  (W.setCell ⟨g, k, none⟩ u).cell? ⟨g, i, none⟩ = some a ∧ (W.setCell ⟨g, k, none⟩ u).cell? ⟨g, j, none⟩ = some b ∧ (W.setCell ⟨g, k, none⟩ u).cell? ⟨g, k, none⟩ = some (held (W.setCell ⟨g, k, none⟩ u) ⟨g, k, none⟩) ∧ (W.setCell ⟨g, k, none⟩ u).frozen? ⟨g, k, none⟩ = false := by
 refine ⟨?_, ?_, aAl (World.cell?_setCell_same' _ _ _ (by rw [h.2.2.1]; rfl)), by rw [World.frozen?_setCell]; exact h.2.2.2⟩
 ·rw [World.cell?_setCell_other (h := by intro e; cases e; exact hi rfl)]; exact h.1
 ·rw [World.cell?_setCell_other (h := by intro e; cases e; exact hj rfl)]; exact h.2.1
section
variable {P : Program}
theorem uU {T elem : TypeId} {len : Nat} (hu : P.underlying T = some (.array len elem)) (hp : P.plainKey elem = true) {inf : TypeInfo} (hi : P.info? elem = some inf) (h1 : P.cellsOf elem = 1)
  {cs : Array Value} {k : Nat} (hk : k < len) {v : Value} (hv : cs[k]? = some v) (w : World) : (Instr.index T (.agg cs) (.int .i64 (k : Int))).run P w = .ok v w := by
 have h2 : (0 : Int) ≤ (k : Int) ∧ (k : Int) < (len : Int) := by omega
 simp [Instr.index, asIntOf, run_underlying hu, run_sizeOf (w := w) hi, h1, hk, run_part_plain w hp hv]
theorem mW {ops : Array Oper} {rest : List Oper} {o : Oper} {a : Act} {w : World} {Q : Exit → Act → World → Prop} (hgd : o.guard = none) {ty : TypeId} {x : Operand} (ho : o.op = .load ty x) {n : Nat} (W : Wide P ty n)
  {g : Nat} (hx : a.eval x = .pointer (some ⟨g, 0, none⟩)) {cs : List Value} {arr : Array Value} (hB : w.rangeAt g 0 cs) (hn : cs.length = n) (ha : cs.toArray = arr) (h : wpList P ops Q rest (a.put o.dst (.agg arr)) w) : wpList P ops Q (o :: rest) a w :=
 wpList_plain hgd fun _ hK => by
  obtain ⟨d, hu, hd⟩ := W.und
  refine wp_load_mid ty x ho g 0 hx cs d hB hu hd (by rw [hn]; exact W.info) ?_
  rw [ha]
  exact hK _ _ h
theorem kD {w : World} {b : Nat} {t : TypeId} {cs : Array Value} (hB : Blk w b t cs) {T : TypeId} {n : Nat} (W : Wide P T n) (hn : cs.size = n) : (loadVar T ⟨b, 0, none⟩).run P w = .ok (.agg cs) w := by
 obtain ⟨d, hu, hd⟩ := W.und
 have := run_loadVar_mid (P := P) w b 0 T cs.toList d hB.range hu hd (by rw [Array.length_toList, hn]; exact W.info)
 rw [Array.toArray_toList] at this
 exact this
theorem aX {fn : Func} {i : Tmp} {T : TypeId} {n : Nat} (W : Wide P T n) (hf : fn.results = #[.cell i T]) {tmps : Array Value} {w : World} {b : Nat} {t : TypeId} {cs : Array Value} (hB : Blk w b t cs) (hn : cs.size = n) (ei : tmps.getD i undef = .pointer (some ⟨b, 0, none⟩)) :
  (results fn tmps).run P w = .ok (.agg cs) w := by
 have h1 := kD hB W hn
 simp only [Array.getD_eq_getD_getElem?] at ei
 simp [results, hf, ei, asAddr, h1]
theorem Reads.sub {w : World} {v : Value} {n : Nat} {xs : List Value} (h : Reads w 1 v n xs) (i m : Nat) (hi : i + m ≤ n) (hm : 0 < m) :
  ∃ b o c, v = .slice (some ⟨b, o, none⟩) n c ∧ n ≤ c ∧ c ≤ maxLen ∧ b < w.heap.size ∧ Reads w 1 (.slice (some ⟨b, o + i, none⟩) m (c - i)) m ((xs.drop i).take m) := by
 obtain ⟨b, o, c, u, rfl, h1, h2, h3, _, _⟩ := h.at1 (k := 0) (by omega)
 have hl := h.1
 refine ⟨b, o, c, rfl, h1, h2, h3, by simp; omega, _, _, rfl, by omega, by omega, fun _ => ⟨b, o + i, rfl, fun j u hu => ?_⟩⟩
 have hj : j < m := by
  rcases Nat.lt_or_ge j m with h | h
  ·exact h
  ·rw [List.getElem?_eq_none (by simp; omega)] at hu; cases hu
 rw [List.getElem?_take, if_pos hj, List.getElem?_drop] at hu
 obtain ⟨_, A, c', e, _, _, h4⟩ := h
 cases e
 obtain ⟨b', o', e, hc⟩ := h4 (by omega)
 cases e
 rw [Nat.add_assoc]
 exact hc _ _ hu
theorem Reads.cap {w : World} {A : Option Addr} {n c c' : Nat} {xs : List Value} (h : Reads w 1 (.slice A n c) n xs) (h1 : n ≤ c') (h2 : c' ≤ maxLen) : Reads w 1 (.slice A n c') n xs := by
 obtain ⟨hl, A', c'', e, _, _, h4⟩ := h
 cases e
 exact ⟨hl, A, c', rfl, h1, h2, h4⟩
theorem Reads.of_blk {w : World} {g : Nat} {t : TypeId} {cs : Array Value} (h : Blk w g t cs) {i n c : Nat} (hi : i + n ≤ cs.size) (hc : n ≤ c) (hm : c ≤ maxLen) :
  Reads w 1 (.slice (some ⟨g, i, none⟩) n c) n ((cs.toList.drop i).take n) := by
 refine ⟨by simp; omega, _, _, rfl, hc, hm, fun _ => ⟨g, i, rfl, fun j u hu => ?_⟩⟩
 have hj : j < n := by
  rcases Nat.lt_or_ge j n with h | h
  ·exact h
  ·rw [List.getElem?_eq_none (by simp; omega)] at hu; cases hu
 rw [List.getElem?_take, if_pos hj, List.getElem?_drop] at hu
 rw [h.cell, ← hu]
 simp
end
end Go.Proofs.YtihghljfmlbfhaaGreatDoor
namespace Go.Proofs.YtihghljfmlbfhaaGreatDoor
open Go.RowKit
def dN (n : Nat) (l : List UInt32) : Array Value := (l.map w32 ++ List.replicate (n - l.length) (Value.int .u32 0)).toArray
theorem iK {n : Nat} {l : List UInt32} {i : Nat} (h : i < l.length) : (dN n l)[i]? = some (.int .u32 ((l.getD i 0).toNat : Int)) := by
 unfold dN
 rw [List.getElem?_toArray, List.getElem?_append_left (by simpa using h), List.getElem?_map, zG, zH h]
 rfl
theorem aIc {n : Nat} {l : List UInt32} (x : UInt32) (h : l.length < n) : (dN n l).setIfInBounds l.length (.int .u32 (x.toNat : Int)) = dN n (l ++ [x]) := by
 unfold dN
 rw [show n - l.length = (n - (l ++ [x]).length) + 1 from by simp; omega, List.replicate_succ]
 simp [w32]
theorem qM {n k : Nat} {l : List UInt32} (x : UInt32) (hl : l.length = k) (h : k < n) : (dN n l).setIfInBounds k (.int .u32 (x.toNat : Int)) = dN n (l ++ [x]) := by subst hl; exact aIc x h
theorem aFa (n : Nat) : dN n [] = Array.replicate n (Value.int .u32 0) := by
 unfold dN
 simp
theorem wM {n : Nat} {l : List UInt32} (h : l.length ≤ n) : (dN n l).size = n := by
 unfold dN
 simp
 omega
theorem aPz : Wide Tryz.prog 180 64 := ⟨⟨_, Tryz.underlying180, rfl⟩, by kernel_rfl⟩
theorem gZ : Wide Tryz.prog 174 8 := ⟨⟨_, Tryz.underlying174, rfl⟩, by kernel_rfl⟩
structure ShaMem (w : World) : Prop where
 k : w.rangeAt 1 0 (shaK.map w32)
 h : w.rangeAt 0 0 (kM.map w32)
theorem lY {S : Nat → Prop} {w w' : World} {b : Nat} {cs : List Value} (h : w.rangeAt b 0 cs) (hc : Chg S w w') (hn : ¬ S b) : w'.rangeAt b 0 cs := fun j v hj => Chg.cellv hc (h j v hj) hn
theorem ShaMem.chg {S : Nat → Prop} {w w' : World} (h : ShaMem w) (hc : Chg S w w') (h1 : ¬ S 1) (h2 : ¬ S 0) : ShaMem w' := ⟨lY h.k hc h1, lY h.h hc h2⟩
theorem ShaMem.ext {w w' : World} (h : ShaMem w) (hc : Ext w w') : ShaMem w' := h.chg hc (fun h => h) (fun h => h)
theorem rotr2 (x : UInt32) (n0 n1 : Nat) (g : Nat) (w : World) (h0 : w.cell? ⟨g, 0, none⟩ = some (.int .i64 (n0 : Int))) (h1 : w.cell? ⟨g, 1, none⟩ = some (.int .i64 (n1 : Int))) (hn : (0 < n0 ∧ n0 < 32) ∧ 0 < n1 ∧ n1 < 32) :
  Calls Tryz.prog 135 #[.int .u32 (x.toNat : Int), .slice (some ⟨g, 0, none⟩) 2 2] w fun e w' => e = .returned (.int .u32 ((dM x (UInt32.ofNat n0) ^^^ dM x (UInt32.ofNat n1)).toNat : Int)) ∧ w = w' := by
 have := aKz x [n0, n1] (.slice (some ⟨g, 0, none⟩) 2 2) w ⟨rfl, _, _, rfl, Nat.le_refl _, by unfold maxLen; omega, fun _ => ⟨g, 0, rfl, fun j u hu => ?_⟩⟩ (by simp; omega)
 ·simpa [qV] using this
 ·match j, hu with
  | 0, hu => cases hu; exact h0
  | 1, hu => cases hu; exact h1
theorem rotr3 (x : UInt32) (n0 n1 n2 : Nat) (g : Nat) (w : World) (h0 : w.cell? ⟨g, 0, none⟩ = some (.int .i64 (n0 : Int))) (h1 : w.cell? ⟨g, 1, none⟩ = some (.int .i64 (n1 : Int))) (h2 : w.cell? ⟨g, 2, none⟩ = some (.int .i64 (n2 : Int))) (hn : (0 < n0 ∧ n0 < 32) ∧ (0 < n1 ∧ n1 < 32) ∧ 0 < n2 ∧ n2 < 32) :
  Calls Tryz.prog 135 #[.int .u32 (x.toNat : Int), .slice (some ⟨g, 0, none⟩) 3 3] w fun e w' => e = .returned (.int .u32 ((dM x (UInt32.ofNat n0) ^^^ dM x (UInt32.ofNat n1) ^^^ dM x (UInt32.ofNat n2)).toNat : Int)) ∧ w = w' := by
 have := aKz x [n0, n1, n2] (.slice (some ⟨g, 0, none⟩) 3 3) w ⟨rfl, _, _, rfl, Nat.le_refl _, by unfold maxLen; omega, fun _ => ⟨g, 0, rfl, fun j u hu => ?_⟩⟩ (by simp; omega)
 ·simpa [qV] using this
 ·match j, hu with
  | 0, hu => cases hu; exact h0
  | 1, hu => cases hu; exact h1
  | 2, hu => cases hu; exact h2
def rr2 (x a b : UInt32) : UInt32 := dM x a ^^^ dM x b
def rr3 (x a b c : UInt32) : UInt32 := dM x a ^^^ dM x b ^^^ dM x c
theorem aRi (x : UInt32) (g : Nat) (w : World) (h0 : w.cell? ⟨g, 0, none⟩ = some (.int .i64 7)) (h1 : w.cell? ⟨g, 1, none⟩ = some (.int .i64 18)) :
  Calls Tryz.prog 135 #[.int .u32 (x.toNat : Int), .slice (some ⟨g, 0, none⟩) 2 2] w fun e w' => e = .returned (.int .u32 ((rr2 x 7 18).toNat : Int)) ∧ w = w' :=
 rotr2 x 7 18 g w h0 h1 (by omega)
theorem aNs (x : UInt32) (g : Nat) (w : World) (h0 : w.cell? ⟨g, 0, none⟩ = some (.int .i64 17)) (h1 : w.cell? ⟨g, 1, none⟩ = some (.int .i64 19)) :
  Calls Tryz.prog 135 #[.int .u32 (x.toNat : Int), .slice (some ⟨g, 0, none⟩) 2 2] w fun e w' => e = .returned (.int .u32 ((rr2 x 17 19).toNat : Int)) ∧ w = w' :=
 rotr2 x 17 19 g w h0 h1 (by omega)
theorem aFy (x : UInt32) (g : Nat) (w : World) (h0 : w.cell? ⟨g, 0, none⟩ = some (.int .i64 6)) (h1 : w.cell? ⟨g, 1, none⟩ = some (.int .i64 11)) (h2 : w.cell? ⟨g, 2, none⟩ = some (.int .i64 25)) :
  Calls Tryz.prog 135 #[.int .u32 (x.toNat : Int), .slice (some ⟨g, 0, none⟩) 3 3] w fun e w' => e = .returned (.int .u32 ((rr3 x 6 11 25).toNat : Int)) ∧ w = w' :=
 rotr3 x 6 11 25 g w h0 h1 h2 (by omega)
theorem aFz (x : UInt32) (g : Nat) (w : World) (h0 : w.cell? ⟨g, 0, none⟩ = some (.int .i64 2)) (h1 : w.cell? ⟨g, 1, none⟩ = some (.int .i64 13)) (h2 : w.cell? ⟨g, 2, none⟩ = some (.int .i64 22)) :
  Calls Tryz.prog 135 #[.int .u32 (x.toNat : Int), .slice (some ⟨g, 0, none⟩) 3 3] w fun e w' => e = .returned (.int .u32 ((rr3 x 2 13 22).toNat : Int)) ∧ w = w' :=
 rotr3 x 2 13 22 g w h0 h1 h2 (by omega)
theorem aQw (x0 r1 x1 x9 r14 x14 : UInt32) : ((((x0.toNat : Int) + bits BinOp.xor IntKind.u32 (r1.toNat : Int) ((x1.toNat : Int) / (8 : Int))) % (4294967296 : Int) + (x9.toNat : Int)) % (4294967296 : Int) + bits BinOp.xor IntKind.u32 (r14.toNat : Int) ((x14.toNat : Int) / (1024 : Int))) % (4294967296 : Int) =
  ((x0 + (r1 ^^^ (x1 >>> 3)) + x9 + (r14 ^^^ (x14 >>> 10))).toNat : Int) := by
 have h3 := aQv x1 3 (by omega)
 have h10 := aQv x14 10 (by omega)
 rw [show (8 : Int) = 2 ^ 3 from rfl, show (1024 : Int) = 2 ^ 10 from rfl, h3, h10, sH, sH, add32, add32, add32]
 rfl
theorem t_val (x7 r x4 x5 x6 xk xw : UInt32) : IntKind.u32.wrap (IntKind.u32.wrap (IntKind.u32.wrap (IntKind.u32.wrap ((x7.toNat : Int) + (r.toNat : Int)) + bits BinOp.xor IntKind.u32 (bits BinOp.and IntKind.u32 (x4.toNat : Int) (x5.toNat : Int)) (bits BinOp.and IntKind.u32 (bits BinOp.xor IntKind.u32 IntKind.u32.max (x4.toNat : Int)) (x6.toNat : Int))) + (xk.toNat : Int)) + (xw.toNat : Int)) =
  ((x7 + r + ((x4 &&& x5) ^^^ (~~~x4 &&& x6)) + xk + xw).toNat : Int) := by
 rw [not32, aBf, aBf, sH, addW, addW, addW, addW]
theorem u_val (r x0 x1 x2 : UInt32) : IntKind.u32.wrap ((r.toNat : Int) + bits BinOp.xor IntKind.u32 (bits BinOp.xor IntKind.u32 (bits BinOp.and IntKind.u32 (x0.toNat : Int) (x1.toNat : Int)) (bits BinOp.and IntKind.u32 (x0.toNat : Int) (x2.toNat : Int))) (bits BinOp.and IntKind.u32 (x1.toNat : Int) (x2.toNat : Int))) =
  ((r + (((x0 &&& x1) ^^^ (x0 &&& x2)) ^^^ (x1 &&& x2))).toNat : Int) := by
 rw [aBf, aBf, aBf, sH, sH, addW]
def aMn (w : World) (hc : Array Value) (bs : List UInt8) (k : Nat) (wr : World) : Prop :=
 Blk wr w.heap.size 174 hc ∧ (∃ o8, Blk wr (w.heap.size + 1) 174 o8 ∧ o8.size = 8) ∧ Blk wr (w.heap.size + 1 + 1) 180 (dN 64 (bU bs k)) ∧ Ext w wr
theorem aMn.step {w wr wr' : World} {hc : Array Value} {bs : List UInt8} {k : Nat} (h : aMn w hc bs k wr) (hE : Ext wr wr') (hk : k < 64) {x : UInt32} (hx : (if k < 16 then nN ((bs.drop (4 * k)).take 4) else qQ (bU bs k)) = x) :
  aMn w hc bs (k + 1) (wr'.setCell ⟨w.heap.size + 1 + 1, k, none⟩ (.int .u32 (x.toNat : Int))) := by
 obtain ⟨q1, ⟨o8, q5, q6⟩, q3, q4⟩ := h
 refine ⟨(q1.ext hE).far' (by omega) _ _, ⟨o8, (q5.ext hE).far' (by omega) _ _, q6⟩, ?_, (q4.trans hE).setCell (by simp; omega) _⟩
 have := (q3.ext hE).set_ k (.int .u32 (x.toNat : Int))
 rw [qM x (fC bs k) hk] at this
 rw [bU, hx]
 exact this
def aWp (w : World) (hc : Array Value) (h : List UInt32) (bs : List UInt8) (g k : Nat) (wr : World) : Prop :=
 Blk wr w.heap.size 174 hc ∧ (∃ o8, Blk wr (w.heap.size + 1) 174 o8 ∧ o8.size = 8) ∧ Blk wr (w.heap.size + 1 + 1) 180 (dN 64 (sched bs)) ∧ Blk wr g 174 (dN 8 (bH bs h k)) ∧ Ext w wr ∧ w.heap.size + 1 + 1 < g
theorem jH {n : Nat} {l : List UInt32} (h : l.length = n) : dN n l = (l.map w32).toArray := by
 unfold dN
 rw [h, Nat.sub_self]
 simp
theorem wordsK {k : Nat} (h : k < 64) : ((shaK.map w32).toArray)[k]? = some (.int .u32 ((shaK.getD k 0).toNat : Int)) := by
 have := iK (n := 64) (l := shaK) (i := k) h
 rwa [jH (show shaK.length = 64 from rfl)] at this
theorem uJ (l : List UInt32) : ((l.map w32).toArray).all (·.oneCell') = true := by
 rw [← Array.all_toList]
 simp [w32]
 intro x _
 rfl
def sO (R h : List UInt32) (k : Nat) : List UInt32 := (List.zipWith (· + ·) R h).take k ++ R.drop k
def nP (w : World) (hc : Array Value) (h R : List UInt32) (g k : Nat) (wr : World) : Prop :=
 Blk wr w.heap.size 174 hc ∧ (∃ o8, Blk wr (w.heap.size + 1) 174 o8 ∧ o8.size = 8) ∧ Blk wr g 174 (dN 8 (sO R h k)) ∧ Ext w wr ∧ w.heap.size + 1 + 1 < g
theorem rG {R h : List UInt32} (hR : R.length = 8) (hh : h.length = 8) {k : Nat} (hk : k ≤ 8) : (sO R h k).length = 8 := by
 unfold sO; simp; omega
theorem nP.start {w wr : World} {hc : Array Value} {h : List UInt32} {bs : List UInt8} {g : Nat} (hi : aWp w hc h bs g 64 wr) : nP w hc h (bH bs h 64) g 0 wr := by
 obtain ⟨q1, q2, _, q4, q5, q6⟩ := hi
 exact ⟨q1, q2, q4, q5, q6⟩
section
variable {w wr : World} {hc : Array Value} {h R : List UInt32} {g k : Nat}
theorem nP.new (hi : nP w hc h R g k wr) (hR : R.length = 8) (hh : h.length = 8) (hk : k < 8) : wr.cell? ⟨g, k, none⟩ = some (.int .u32 ((R.getD k 0).toNat : Int)) := by
 rw [hi.2.2.1.cell, iK (by rw [rG hR hh (by omega)]; exact hk)]
 have : (sO R h k).getD k 0 = R.getD k 0 := by
  unfold sO
  rw [zG, zG, List.getElem?_append_right (by simp; omega)]
  simp
  rw [show k + (k - min k (min R.length h.length)) = k from by omega]
 rw [this]
theorem nP.old (hi : nP w hc h R g k wr) (hC : (h.map w32).toArray = hc) (hh : h.length = 8) (hk : k < 8) : wr.cell? ⟨w.heap.size, k, none⟩ = some (.int .u32 ((h.getD k 0).toNat : Int)) := by
 rw [hi.1.cell, ← hC, ← jH hh, iK (by omega)]
theorem nP.step (hi : nP w hc h R g k wr) {wr' : World} (hE : Ext wr wr') (hR : R.length = 8) (hh : h.length = 8) (hk : k < 8) : nP w hc h R g (k + 1) (wr'.setCell ⟨g, k, none⟩ (.int .u32 ((R.getD k 0 + h.getD k 0).toNat : Int))) := by
 obtain ⟨q1, ⟨o8, q5, q6⟩, q3, q4, q7⟩ := hi
 refine ⟨(q1.ext hE).far' (by omega) _ _, ⟨o8, (q5.ext hE).far' (by omega) _ _, q6⟩, ?_, (q4.trans hE).setCell (by simp; omega) _, q7⟩
 have := (q3.ext hE).set_ k (.int .u32 ((R.getD k 0 + h.getD k 0).toNat : Int))
 have e : (dN 8 (sO R h k)).setIfInBounds k (.int .u32 ((R.getD k 0 + h.getD k 0).toNat : Int)) = dN 8 (sO R h (k + 1)) := by
  rw [jH (rG hR hh (by omega)), jH (rG hR hh (by omega))]
  apply Array.ext'
  rw [Array.toList_setIfInBounds]
  dsimp only
  have e1 : sO R h (k + 1) = (sO R h k).set k (R.getD k 0 + h.getD k 0) := by
   unfold sO
   rw [jB _ k (by simp; omega), List.set_append_right _ _ (by simp; omega)]
   rw [show k - ((List.zipWith (· + ·) R h).take k).length = 0 from by simp; omega]
   rw [List.drop_eq_getElem_cons (show k < R.length by omega)]
   rw [List.set_cons_zero, List.append_assoc, zG, zG, zH (show k < R.length by omega), zH (show k < h.length by omega), List.getElem_zipWith]
   rfl
  rw [e1, List.map_set]
  rfl
 rw [e] at this
 exact this
theorem nP.drew (hi : nP w hc h R g k wr) : nP w hc h R g k wr.drew := by
 obtain ⟨q1, ⟨o8, q5, q6⟩, q3, q4, q7⟩ := hi
 exact ⟨q1.drew, ⟨o8, q5.drew, q6⟩, q3.drew, q4.drew, q7⟩
theorem aUl (hR : R.length = 8) (hh : h.length = 8) : sO R h 8 = List.zipWith (· + ·) R h := by
 unfold sO
 rw [List.take_of_length_le (by simp; omega), List.drop_of_length_le (by omega), List.append_nil]
end
end Go.Proofs.YtihghljfmlbfhaaGreatDoor
namespace Go.Proofs.YtihghljfmlbfhaaGreatDoor
open Go.RowKit
theorem run_arrayAt {P : Program} {T e : TypeId} {n : Nat} (hu : P.underlying T = some (.array n e)) {ad : Option Addr} {len c : Nat} (hl : n ≤ len) (w : World) : (Instr.arrayAt T (.slice ad len c)).run P w = .ok (.pointer ad) w := by
 have h : ¬ len < n := by omega
 simp [Instr.arrayAt, run_underlying hu, h]
def rQ (S : Nat → Prop) (w w' : World) : Prop := ∀ p v, ¬ S p.block → w.cell? p = some v → w'.cell? p = some v
theorem rQ.trans {S : Nat → Prop} {a b c : World} (h : rQ S a b) (k : rQ S b c) : rQ S a c := fun p v hn hc => k p v hn (h p v hn hc)
theorem rQ.of_chg {S : Nat → Prop} {a b : World} (h : Chg S a b) : rQ S a b := fun _ _ hn hc => Chg.cellv h hc hn
def qI (w w' : World) : Prop := ∀ (k : Nat) (o : Obj), w.heap[k]? = some o → o.isCells = true → w'.heap[k]? = some o
theorem cells_of_cell {w : World} {p : Addr} {v : Value} (h : w.cell? p = some v) : ∃ o, w.heap[p.block]? = some o ∧ o.isCells = true := by
 have hl := lt_of_cell h
 refine ⟨_, Array.getElem?_eq_getElem hl, ?_⟩
 unfold World.cell? at h
 rw [Array.getElem?_eq_getElem hl] at h
 cases ho : w.heap[p.block] <;> simp_all [Obj.isCells]
theorem rQ.putObj {S : Nat → Prop} (W : World) (l : Nat) {o : Obj} (o' : Obj) (h : W.heap[l]? = some o) (ho : o.isCells = false) : rQ S W (W.putObj l o') := fun p v _ hc => by
 obtain ⟨q, hq, hqc⟩ := cells_of_cell hc
 have hne : p.block ≠ l := fun e => by
  rw [e, h] at hq
  cases hq
  rw [ho] at hqc
  cases hqc
 rw [World.cell?_of_block (w := W) (World.putObj_heap_other hne)]
 exact hc
theorem qI.cell {w w' : World} (h : qI w w') {p : Addr} {v : Value} (hc : w.cell? p = some v) : w'.cell? p = some v := by
 obtain ⟨o, ho, hoc⟩ := cells_of_cell hc
 rw [World.cell?_of_block (w := w) ((h _ _ ho hoc).trans ho.symm)]
 exact hc
theorem qI.blk {w w' : World} (h : qI w w') {g : Nat} {t : TypeId} {cs : Array Value} (hb : Blk w g t cs) : Blk w' g t cs := h _ _ hb rfl
theorem aF {P : Program} {f : FuncId} {fn : Func} {c : Code} (hf : P.funcs[f]? = some fn) (hname : (fn.name == "runtime.NumGoroutine") = false) (hb : fn.body = some c) (args : Array Value) (w : World) : (callFunc f args).run P w = .ok (.enter f args) w := by
 have h1 : fn.name ≠ "runtime.NumGoroutine" := by simpa using hname
 simp [callFunc, hf, h1, hb, mark]
theorem wp_range {α : Type} {P : Program} {g : Operand} {ps : Array Tmp} {assign body : Code} {Q : Exit → Act → World → Prop} {a : Act} {w : World}
  {gf : Nat} {lb : Array Value} (hg : a.eval g = .func (.func gf) #[] lb) (eg : ∀ args w, (callFunc gf args).run P w = .ok (.enter gf args) w)
  {encs : α → Array Value} {S : Nat → Prop} {all : List α} {N : Nat} (hS : ∀ k, S k → k < w.heap.size)
  (hseq : SeqStopsK Fence.wide 2 P gf lb encs (rQ S) (fun ys => ys = all) (fun _ => True) N w) (hps : ∀ x, (encs x).size = ps.size)
  (J : List α → World → Prop) (hJ : ∀ pre W W', J pre W → qI W W' → J pre W') (h0 : J [] w) (a₁ : α → Act)
  (hassign : ∀ (l : Nat) (x : α) (W : World) (K : Act → World → Prop), K (a₁ x) W →
   assign.wpIn (Fence.wide.inRound l) 1 P (Exit.then K (fun _ _ _ => False)) { tmps := (ps.zip (encs x)).foldl (fun t (p, v) => t.setIfInBounds p v) a.tmps, defers := [] } W)
  (hbody : ∀ (l : Nat) (pre : List α) (x : α) (W : World), Chg S w W → J pre W → pre.length < N →
   body.wpIn (Fence.wide.inRound l) 1 P (Exit.then (fun _ W' => Chg S W W' ∧ J (pre ++ [x]) W') (fun _ _ _ => False)) (a₁ x) W)
  (hdone : ∀ (D : Nat) (W : World), w.heap.size ≤ D → Chg S w W → J all W → W.heap[D]? = some (.deferred (some [])) → Q .normal { a with defers := { target := .collected D, args := #[] } :: a.defers } W) :
  (Code.rangeFunc g ps assign body).wp P Q a w := by
 refine (wpIn_wide (n := 3)).1 ?_
 refine wpIn_rangeFunc_ownG (n := 3) (N := N) (w0 := w) rfl (by omega) hg trivial eg hseq (fun h k => h.trans k) (fun W l o o' _ h ho _ => rQ.putObj W l o' h ho) (Below.refl _ _) hps
  (fun pre W => Chg S w W ∧ J pre W) (fun _ _ _ => False) ?hI (fun _ _ _ _ _ h _ _ => h) ⟨Chg.refl _ _, h0⟩ a₁ hassign ?hbody ?hdone (fun _ _ _ _ _ _ h _ => h.elim)
 case hI =>
  rintro pre W W' row ⟨hc, hj⟩ hgr hrow
  refine ⟨hc.grown hgr fun k e => .inr (hrow k e).1, hJ _ _ _ hj (show qI W W' from fun k o hk ho => ?_)⟩
  rw [hgr.block k (lt_of_heap hk) (fun e => ?_)]
  ·exact hk
  ·obtain ⟨_, q, hq, hqc⟩ := hrow k e.symm
   rw [hk] at hq
   cases hq
   rw [ho] at hqc
   cases hqc
 case hbody =>
  rintro l pre x W ⟨hc, hj⟩ hl
  refine wpIn_mono (hbody l pre x W hc hj hl) ?_
  rintro e b W' h
  cases e with
  | normal =>
   obtain ⟨h1, h2⟩ := h
   refine ⟨⟨h1.size, fun k o hk ho _ => h1.blk ho (fun hs => ?_)⟩, rQ.of_chg h1, hc.trans h1, h2⟩
   have := hS k hs
   omega
  | _ => exact h.elim
 case hdone =>
  rintro D xs W hD rfl ⟨hc, hj⟩ hd
  exact hdone D W hD hc hj hd
section
variable {P : Program} {F : Fence} {n0 : Nat}
theorem sS {ops : Array Oper} {rest : List Oper} {o : Oper} {a : Act} {w : World} {Q : Exit → Act → World → Prop} (hgd : o.guard = none) {ty : TypeId} {x : Operand} (ho : o.op = .load ty x) {n : Nat} (W : Wide P ty n)
  {g : Nat} (hx : a.eval x = .pointer (some ⟨g, 0, none⟩)) {t : TypeId} {cs : Array Value} (hB : Blk w g t cs) (hn : cs.size = n) (h : wpListIn F n0 P ops Q rest (a.put o.dst (.agg cs)) w) : wpListIn F n0 P ops Q (o :: rest) a w :=
 wpListIn_plain hgd fun _ hK => by
  obtain ⟨d, hu, hd⟩ := W.und
  unfold Oper.wpIn
  refine ⟨by simp [Oper.about, ho], ?_⟩
  rw [Oper.semAt_plain F _ _ (by rw [ho]; intro c h; cases h)]
  unfold execOp
  have hr := run_loadVar_mid (P := P) w g 0 ty cs.toList d hB.range hu hd (by rw [Array.length_toList, hn]; exact W.info)
  rw [Array.toArray_toList] at hr
  simp only [ho, hx, Instr.loadAt, Instr.sureAddr, Sem.run_bind, Sem.run_pure, Result.andThen_ok, hr]
  exact hK _ _ h
theorem qL {ops : Array Oper} {rest : List Oper} {o : Oper} {a : Act} {w : World} {Q : Exit → Act → World → Prop} (hgd : o.guard = none) {ty : TypeId} {x y : Operand} (ho : o.op = .store ty x y) {n : Nat} (W : Wide P ty n)
  {g : Nat} (hx : a.eval x = .pointer (some ⟨g, 0, none⟩)) {cs : Array Value} (hy : a.eval y = .agg cs) {t : TypeId} {old : Array Value} (hB : Blk w g t old) (ho2 : old.size = n) (hn : cs.size = n) (h1 : cs.all (·.oneCell') = true)
  (h : ∀ w', Blk w' g t cs → Chg (fun k => k = g) w w' → w'.heap.size = w.heap.size → wpListIn F n0 P ops Q rest (a.put o.dst undef) w') : wpListIn F n0 P ops Q (o :: rest) a w :=
 wpListIn_plain hgd fun _ hK => by
  unfold Oper.wpIn
  refine ⟨by simp [Oper.about, ho], ?_⟩
  rw [Oper.semAt_plain F _ _ (by rw [ho]; intro c h; cases h)]
  unfold execOp
  have hr := run_storeAt_mid (P := P) w g 0 ty cs (by rw [show cs.size = old.size from by omega]; exact hB.there_) (by rw [hn]; exact W.info) h1
  simp only [ho, hx, hy, Sem.run_bind, Sem.run_pure, hr, Result.andThen_ok]
  exact hK _ _ (h _ (yM hB (by omega)) (dW g cs.toList 0 w).1 (dW g cs.toList 0 w).2)
end
theorem aCb {P : Program} {fn : Func} {R : Ending → World → Prop} {n : Nat} {a : Act} {W : World} {D : Nat} {v : Value} (hd : a.defers = [{ target := .collected D, args := #[] }]) (hD : W.heap[D]? = some (.deferred (some [])))
  (hr : (results fn a.tmps).run P (W.putObj D (.deferred none)) = .ok v (W.putObj D (.deferred none))) (h : R (.returned v) (W.putObj D (.deferred none))) : bodyPostM Fence.wide n P fn R .ret a W := by
 show LeavesInM Fence.wide n P fn a.tmps R a.defers .returning W
 rw [hd]
 refine ⟨by simp, .inl ⟨_, _, rfl, run_takeDeferred hD, ?_⟩⟩
 exact ⟨_, hr, h⟩
theorem vU {w W : World} {D : Nat} (o : Obj) (h : Ext w W) (hD : w.heap.size ≤ D) : Ext w (W.putObj D o) :=
 h.grown (grownBy_putObj' W D o) (fun k e => by cases e; exact hD)
end Go.Proofs.YtihghljfmlbfhaaGreatDoor
namespace Go.Proofs.YtihghljfmlbfhaaGreatDoor.Pv
open Go.RowKit
theorem dD {P : Program} {I : World → Prop} {l : List (Nat × Spec)} (h : ∀ p ∈ l, SpecOk P I p.1 p.2) : aAp P I (find l) := by
 intro f sp hf
 induction l with
 | nil => cases hf
 | cons p l ih =>
  by_cases hp : p.1 = f
  ·obtain ⟨f', sp'⟩ := p
   subst hp
   rw [aP] at hf
   cases hf
   exact h _ List.mem_cons_self
  ·obtain ⟨f', sp'⟩ := p
   rw [aO _ _ hp] at hf
   exact ih (fun q hq => h q (List.mem_cons_of_mem _ hq)) hf
theorem iE : Tryz.prog.follows .mixedOrders = true := by kernel_rfl
theorem fJ : ∀ w w', Ext w w' → ShaMem w → ShaMem w' := fun _ _ h hi => hi.ext h
theorem iQ {α : Type} [Inhabited α] (n i : Nat) (g : Nat → α) (h : i < n) (d : α) : ((List.range n).map g).getD i d = g i := by
 rw [zG, List.getElem?_map, List.getElem?_range h]; rfl
def intF (l : List Int) : Nat → List PC := fun i => [.lit (.int .i64 (l.getD i 0))]
def intOf : List PC → Int
 | [.lit (.int _ n)] => n
 | _ => 0
def isInt : List PC → Bool
 | [.lit (.int .i64 _)] => true
 | _ => false
def wQ (n : Nat) (f : Nat → List PC) : List Int := (List.range n).map fun i => intOf (f i)
def aEt (n : Nat) (f : Nat → List PC) : Prop := ∀ i, i < n → isInt (f i) = true
theorem isInt_ok {l : List PC} (h : isInt l = true) : l = [.lit (.int .i64 (intOf l))] := by
 unfold isInt at h
 split at h
 ·rfl
 ·cases h
@[simp] theorem uY (n : Nat) (f : Nat → List PC) : (wQ n f).length = n := by simp [wQ]
theorem intF_row {n : Nat} {f : Nat → List PC} (h : aEt n f) : ∀ i, i < n → f i = intF (wQ n f) i := fun i hi => by
 unfold intF wQ
 rw [iQ n i _ hi]
 exact isInt_ok (h i hi)
@[simp] theorem isIntRow_intF (n : Nat) (l : List Int) : aEt n (intF l) := fun _ _ => rfl
@[simp] theorem aIs (l : List Int) : wQ l.length (intF l) = l := by
 apply List.ext_getElem (by simp)
 intro i h1 h2
 simp only [wQ, List.getElem_map, List.getElem_range, intF, intOf]
 rw [zG, zH h2]
 rfl
theorem R.sl_ext {C : Ctx} {n len : Nat} {f f' : Nat → List PC} {xs : List Value} (h : R C (.sl n len f) xs) (he : ∀ i, i < len → f i = f' i) : R C (.sl n len f') xs := by
 cases h with
 | sl h1 h2 h3 => exact .sl h1 h2 (fun i hi => by rw [← he i hi]; exact h3 i hi)
theorem iW.args {P : Program} {I : World → Prop} {f : Nat} {new : Bool} {args args' : List PV} {res : PV} (h : iW P I f new args' res) (hv : ∀ C vs, Vals C args vs → Vals C args' vs) : iW P I f new args res :=
 fun w ok0 vs hI hV => h w ok0 vs hI (hv _ vs hV)
theorem bZ (k : Nat) (h : k < 9223372036854775807) : IntKind.i64.wrap ((k : Int) + 1) = ((k + 1 : Nat) : Int) := by
 rw [IntKind.wrap_i64]; omega
theorem getD_mem {α : Type} {l : List α} {i : Nat} (h : i < l.length) (d : α) : l.getD i d ∈ l := by
 rw [zG, zH h]; exact List.getElem_mem h
theorem aEq {l : List PC} (h : l.all (dY false) = true) : ∀ x ∈ l, dY false x = true := fun x hx => List.all_eq_true.1 h x hx
structure Ob where
 x : Nat
 t : TypeId
 l : List PC
 l' : List PC
def wC (os : List Ob) (x : Nat) : Bool := os.any fun o => Nat.beq o.x x
theorem fU {os : List Ob} {x : Nat} (h : wC os x = true) : ∃ o ∈ os, o.x = x := by
 obtain ⟨o, h1, h2⟩ := List.any_eq_true.1 h
 exact ⟨o, h1, beqT h2⟩
theorem vI {os : List Ob} {o : Ob} (h : o ∈ os) : wC os o.x = true := List.any_eq_true.2 ⟨o, h, Nat.beq_refl _⟩
def extX (os : List Ob) (bl : Nat → Nat) (dev : Option (List Acc × List Acc)) (hd : Value) : Nat → Option Value := fun x => match wC os x, dev, Nat.beq x dx with
 | true, _, _ => some (kW (bl x))
 | false, some _, true => some hd
 | false, _, _ => none
def envX (os : List Ob) (bl : Nat → Nat) (dev : Option (List Acc × List Acc)) (hd : Value) : Env := fun x => (extX os bl dev hd x).map fun h => (0, h)
def SX (os : List Ob) (bl : Nat → Nat) (D : Dv) : Nat → Prop := fun b => D.S b ∨ ∃ o ∈ os, b = bl o.x
def FunX (P : Program) (I : World → Prop) (f : Nat) (new : Bool) (os : List Ob) (O : List Acc → Option Res) (dev : Option (List Acc × List Acc)) (stp : List Acc → Prop) (args : List PV) (res : PV) : Prop :=
 ∀ (w : World) (ok0 : Nat → Prop) (vs : List Value) (bl : Nat → Nat) (D : Dv) (X0 : Nat → Prop),
  (∀ w', Chg (SX os bl D) w w' → I w') → (∀ b, SX os bl D b → b < w.heap.size ∧ ¬ ok0 b) → oP P D stp → (∀ l X Y w w' chain, D.pan l X w chain → Chg X w w' → (∀ b, Y b → X b) → D.pan l Y w' chain) → D.O = O →
  (∀ p, dev = some p → D.inv p.1 X0 w) → (dev = none → (∀ b, ¬ D.S b) ∧ ∀ l X w, ¬ D.inv l X w) →
  (∀ o ∈ os, X0 (bl o.x) ∧ ∃ cs, Blk w (bl o.x) o.t cs ∧ RL { w, ok := ok0, env := fun _ => none } o.l cs.toList) → (∀ o ∈ os, ∀ o' ∈ os, bl o.x = bl o'.x → o.x = o'.x) →
  Vals { w, ok := ok0, env := envX os bl dev D.hd } args vs →
  Calls P f vs.toArray w fun e w' => Chg (SX os bl D) w w' ∧
   ((∃ val, e = .returned val ∧ RV { w := w', ok := qG w ok0 new, env := fun _ => none } res val ∧ (∀ o ∈ os, ∃ cs, Blk w' (bl o.x) o.t cs ∧ RL { w := w', ok := qG w ok0 new, env := fun _ => none } o.l' cs.toList) ∧ (∀ p, dev = some p → D.inv p.2 X0 w'))
   ∨ (∃ chain l, e = .panicked chain ∧ stp l ∧ O l = none ∧ D.pan l X0 w' chain))
def EndX (new : Bool) (os : List Ob) (O : List Acc → Option Res) (dev : Option (List Acc × List Acc)) (stp : List Acc → Prop) (s : St) : Prop :=
 (∀ o ∈ os, ∃ l, find s.o o.x = some (none, 0, .box o.t l) ∧ ExL s new l o.l') ∧ (∀ p, dev = some p → find s.o dx = some (none, 0, .dev O stp p.2))
def RQX (P : Program) (A : Amb) (fn : Func) (new : Bool) (os : List Ob) (O : List Acc → Option Res) (dev : Option (List Acc × List Acc)) (stp : List Acc → Prop) (res : PV) : Exit → Act → World → Prop
 | .panic chain, a, w => a.defers = [] ∧ PanG A chain w
 | e, a, w => (e = .normal ∨ e = .ret) ∧ ∃ s, (aKl P fn new res s ∧ EndX new os O dev stp s) ∧ Gam A s a w
def xB (os : List Ob) (O : List Acc → Option Res) (dev : Option (List Acc × List Acc)) (stp : List Acc → Prop) : Wr := match dev with
 | some p => (dx, none, 0, .dev O stp p.1) :: os.map (fun o => (o.x, none, 0, .box o.t o.l))
 | none => os.map (fun o => (o.x, none, 0, .box o.t o.l))
theorem xX {os : List Ob} {x : Nat} {p : Option Bool × Nat × AObj} : find (os.map (fun o => (o.x, none, 0, AObj.box o.t o.l))) x = some p → ∃ o ∈ os, o.x = x ∧ p = (none, 0, .box o.t o.l) := by
 intro h
 obtain ⟨o, h1, h2⟩ := List.mem_map.1 (aEc h)
 cases h2
 exact ⟨o, h1, rfl, rfl⟩
theorem lI {os : List Ob} {x : Nat} (h : find (os.map (fun o => (o.x, (none : Option Bool), 0, AObj.box o.t o.l))) x = none) : wC os x = false := by
 induction os with
 | nil => rfl
 | cons o os ih =>
  by_cases hx : o.x = x
  ·rw [List.map_cons, ← hx, aP] at h; cases h
  ·rw [List.map_cons, aO _ _ hx] at h
   have hb : Nat.beq o.x x = false := by
    cases hb : Nat.beq o.x x with
    | false => rfl
    | true => exact absurd (beqT hb) hx
   have := ih h
   unfold wC at this ⊢
   rw [List.any_cons, hb, Bool.false_or]
   exact this
theorem gJ {g b : Nat} (h : hblk (kW g) = some b) : b = g := by cases h; rfl
theorem iF {P : Program} {I : World → Prop} {f : Nat} {fn : Func} {c : Code} {new : Bool} {os : List Ob} {O : List Acc → Option Res} {dev : Option (List Acc × List Acc)} {stp : List Acc → Prop} {args : List PV} {res : PV} (hf : P.funcs[f]? = some fn) (hb : fn.body = some c) (hnb : Nat.ble args.length fn.ntmps = true)
  (hos : (os.all fun o => Nat.blt dx o.x) = true)
  (hT : ∀ A : Amb, A.nt = fn.ntmps → AmbOk P I A → Tri P A ⟨slots 0 args, xB os O dev stp⟩ c (RQX P A fn new os O dev stp res)) : FunX P I f new os O dev stp args res := by
 intro w ok0 vs bl D X0 hM hold hst hpW hO hdv hnd hob hinj hv
 have hlen := hv.length
 have hn := Nat.le_of_ble_eq_true hnb
 have hgt : ∀ o ∈ os, dx < o.x := fun o ho => by
  have := List.all_eq_true.1 hos o ho
  have h3 : dx + 1 ≤ o.x := by simpa [Nat.blt] using this
  exact h3
 have hdxo : wC os dx = false := by
  cases h : wC os dx with
  | false => rfl
  | true =>
   obtain ⟨o, h1, h2⟩ := fU h
   have := hgt o h1; omega
 subst hO
 let A : Amb := ⟨w, SX os bl D, ok0, fn.ntmps, extX os bl dev D.hd, D, stp, X0⟩
 have hext : ∀ x hd, extX os bl dev D.hd x = some hd → (wC os x = true ∧ hd = kW (bl x)) ∨ (x = dx ∧ hd = D.hd ∧ dev.isSome = true) := by
  intro x hd h
  unfold extX at h
  split at h
  ·rename_i h1; cases h; exact .inl ⟨h1, rfl⟩
  ·rename_i h1 h2 h3; cases h; exact .inr ⟨beqT h3, rfl, rfl⟩
  ·cases h
 have hA : AmbOk P I A := ⟨hM, fun b h => .inl h, hold, hst, fun l X w' hi => by
  cases hd : dev with
  | none => exact ((hnd hd).2 l X w' hi).elim
  | some p => show extX os bl dev D.hd dx = _; unfold extX; rw [hdxo, hd]; rfl, hpW⟩
 have hown : ∀ b, ownB A (envX os bl dev D.hd) b → X0 b := by
  rintro b (h | ⟨x, ver, hd, h1, h2⟩)
  ·exact h
  ·unfold envX at h1
   cases hx : extX os bl dev D.hd x with
   | none => rw [hx] at h1; cases h1
   | some h =>
    rw [hx] at h1
    cases h1
    rcases hext x _ hx with ⟨h3, rfl⟩ | ⟨_, rfl, _⟩
    ·obtain ⟨o, h4, rfl⟩ := fU h3
     rw [gJ h2]
     exact (hob o h4).1
    ·rw [D.noBlk] at h2; cases h2
 have hhead : ∀ x p, find (xB os D.O dev stp) x = some p → (∃ o ∈ os, o.x = x ∧ p = (none, 0, .box o.t o.l)) ∨ (x = dx ∧ ∃ q, dev = some q ∧ p = (none, 0, .dev D.O stp q.1)) := by
  intro x p h
  unfold xB at h
  cases hd : dev with
  | none => rw [hd] at h; exact .inl (xX h)
  | some q =>
   rw [hd] at h
   by_cases hx : dx = x
   ·subst hx; rw [aP] at h; cases h; exact .inr ⟨rfl, q, rfl, rfl⟩
   ·rw [aO _ _ hx] at h; exact .inl (xX h)
 have henv : ∀ o ∈ os, envX os bl dev D.hd o.x = some (0, kW (bl o.x)) := fun o ho => by
  unfold envX extX
  rw [vI ho]
  rfl
 have hle0 : ∀ {pv : PV} {v : Value}, RV { w, ok := ok0, env := envX os bl dev D.hd } pv v → RV (aY A w (envX os bl dev D.hd)) pv v := fun h => h.le ⟨Nat.le_refl _, fun b hlt ho => ⟨⟨.inl ho, fun x ver hd hx hb => by
   unfold envX at hx
   cases hx2 : extX os bl dev D.hd x with
   | none => rw [hx2] at hx; cases hx
   | some h =>
    rw [hx2] at hx
    cases hx
    rcases hext x _ hx2 with ⟨h3, rfl⟩ | ⟨_, rfl, _⟩
    ·obtain ⟨o, h4, rfl⟩ := fU h3
     have := gJ hb
     subst this
     exact (hold _ (.inr ⟨o, h4, rfl⟩)).2 ho
    ·rw [D.noBlk] at hb; cases hb⟩, rfl⟩, fun x ver hd h => ⟨ver, hd, h, Nat.le_refl _, fun _ => rfl⟩⟩
 have hg : Gam A ⟨slots 0 args, xB os D.O dev stp⟩ { tmps := vs.toArray ++ Array.replicate (fn.ntmps - vs.toArray.size) undef, defers := [] } w := by
  refine ⟨envX os bl dev D.hd, { chg := Chg.refl _ _, size := ?_, dom := fun x hx => ?_, objs := fun x g ver o h => ?_, live := fun x ver hd b h hb => ?_, inj := fun x y v1 h1 v2 h2 b hx hy hb1 hb2 => ?_, tmps := fun t g pv h hgt => ?_, defers := rfl, und := fun t pv h => (by obtain ⟨k, _, h2⟩ := kH h; cases h2), exts := fun x hd hx => ?_, dev := fun g ver O stp' l h _ => ?_ }⟩
  ·simp [A]; omega
  ·unfold envX extX
   have h1 : wC os x = false := by
    unfold xB at hx
    cases hd : dev with
    | none => rw [hd] at hx; exact lI hx
    | some q =>
     rw [hd] at hx
     by_cases hdx : dx = x
     ·subst hdx; exact hdxo
     ·rw [aO _ _ hdx] at hx; exact lI hx
   rw [h1]
   cases hd : dev with
   | none => rfl
   | some q =>
    have : Nat.beq x dx = false := by
     cases hb : Nat.beq x dx with
     | false => rfl
     | true =>
      obtain rfl := beqT hb
      unfold xB at hx
      rw [hd, aP] at hx
      cases hx
    rw [this]
    rfl
  ·rcases hhead x _ h with ⟨ob, h1, rfl, h2⟩ | ⟨rfl, q, h1, h2⟩
   ·cases h2
    obtain ⟨_, cs, h3, h4⟩ := hob ob h1
    refine ⟨kW (bl ob.x), henv ob h1, fun _ => ⟨_, cs, rfl, h3, ?_⟩⟩
    refine h4.le ⟨Nat.le_refl _, fun b hlt hok => ⟨⟨.inl hok, fun x ver hd hx hb => ?_⟩, rfl⟩, fun _ _ _ h => by cases h⟩
    have hx' : envX os bl dev D.hd x = some (ver, hd) := hx
    unfold envX at hx'
    cases hx2 : extX os bl dev D.hd x with
    | none => rw [hx2] at hx'; cases hx'
    | some h =>
     rw [hx2] at hx'
     cases hx'
     rcases hext x _ hx2 with ⟨h5, rfl⟩ | ⟨_, rfl, _⟩
     ·obtain ⟨o, h6, rfl⟩ := fU h5
      have := gJ hb
      subst this
      exact (hold _ (.inr ⟨o, h6, rfl⟩)).2 hok
     ·rw [D.noBlk] at hb; cases hb
   ·cases h2
    refine ⟨D.hd, ?_, fun _ => trivial⟩
    unfold envX extX
    rw [hdxo, h1]
    rfl
  ·unfold envX at h
   cases hx2 : extX os bl dev D.hd x with
   | none => rw [hx2] at h; cases h
   | some h' =>
    rw [hx2] at h
    cases h
    rcases hext x _ hx2 with ⟨h3, rfl⟩ | ⟨_, rfl, _⟩
    ·obtain ⟨o, h4, rfl⟩ := fU h3
     have := gJ hb
     subst this
     exact ⟨(hold _ (.inr ⟨o, h4, rfl⟩)).1, .inr ⟨.inr ⟨o, h4, rfl⟩, Nat.ble_eq_true_of_le (Nat.le_of_lt (hgt o h4))⟩⟩
    ·rw [D.noBlk] at hb; cases hb
  ·unfold envX at hx hy
   cases hx2 : extX os bl dev D.hd x with
   | none => rw [hx2] at hx; cases hx
   | some hx3 =>
    cases hy2 : extX os bl dev D.hd y with
    | none => rw [hy2] at hy; cases hy
    | some hy3 =>
     rw [hx2] at hx
     rw [hy2] at hy
     cases hx
     cases hy
     rcases hext x _ hx2 with ⟨h3, rfl⟩ | ⟨_, rfl, _⟩
     ·rcases hext y _ hy2 with ⟨h4, rfl⟩ | ⟨_, rfl, _⟩
      ·obtain ⟨o, h5, rfl⟩ := fU h3
       obtain ⟨o', h6, rfl⟩ := fU h4
       refine hinj o h5 o' h6 ?_
       rw [← gJ hb1, ← gJ hb2]
      ·rw [D.noBlk] at hb2; cases hb2
     ·rw [D.noBlk] at hb1; cases hb1
  ·obtain ⟨k, h1, h2⟩ := lM h
   obtain ⟨v, h3, h4⟩ := hv.at h2
   rw [Nat.zero_add] at h1
   subst h1
   have hk : t < vs.length := (List.getElem?_eq_some_iff.1 h3).1
   refine ⟨v, ?_, hle0 h4⟩
   rw [Array.getElem?_append_left (by simpa using hk)]
   simpa using h3
  ·refine ⟨?_, 0, hd, ?_, Nat.le_refl _, fun _ => rfl⟩
   ·rcases hext x hd hx with ⟨h3, _⟩ | ⟨rfl, _, _⟩
    ·obtain ⟨o, h4, rfl⟩ := fU h3
     exact Nat.ble_eq_true_of_le (Nat.le_of_lt (hgt o h4))
    ·exact Nat.ble_eq_true_of_le (Nat.le_refl _)
   ·show envX os bl dev D.hd x = some (0, hd)
    unfold envX
    have : extX os bl dev D.hd x = some hd := hx
    rw [this]
    rfl
  ·rcases hhead dx _ h with ⟨ob, h1, h2, _⟩ | ⟨_, q, h1, h2⟩
   ·have := hgt ob h1; omega
   ·cases h2
    exact ⟨rfl, rfl, D.grow _ _ _ _ _ (hdv q h1) (Chg.refl _ _) (fun b hb => .inl (hown b hb))⟩
 refine calls_of_wp hf hb (wp_mono (hT A rfl hA _ w hg (fun _ _ _ hd h => ⟨hd, h⟩)) (fun e a' w' he => ?_))
 cases e with
 | panic chain =>
  obtain ⟨hd, l, h1, h2, h3, h4⟩ := he
  exact ⟨hd, h4, .inr ⟨chain, l, rfl, h1, h2, h3⟩⟩
 | exit id => obtain ⟨h1 | h1, _⟩ := he <;> cases h1
 | goto _ => obtain ⟨h1 | h1, _⟩ := he <;> cases h1
 | outgrown => obtain ⟨h1 | h1, _⟩ := he <;> cases h1
 | normal | ret =>
  obtain ⟨_, s, ⟨⟨v, h2, h3⟩, hE1, hE2⟩, env, hE⟩ := he
  obtain ⟨v', val, h5, h6, h7, _⟩ := zI hE h2
  subst h7
  have hbox : ∀ o ∈ os, env o.x = some (0, kW (bl o.x)) := fun o ho => by
   obtain ⟨l, hf', _⟩ := hE1 o ho
   obtain ⟨hd, h8, _⟩ := hE.objs o.x none 0 _ hf'
   have h9 : extX os bl dev D.hd o.x = some (kW (bl o.x)) := by unfold extX; rw [vI ho]
   have := (hE.exts o.x _ h9).2.now h8
   rw [h8, this]
  have hS : OwnS A s env := by
   intro x g ver e n len f0 hd b hfx hex hbx hs
   rcases hs with hs | ⟨o, ho, rfl⟩
   ·cases hd2 : dev with
    | none => exact (hnd hd2).1 b hs
    | some q =>
     obtain ⟨_, _, hi⟩ := hE.dev none 0 _ _ _ (hE2 q hd2) trivial
     exact D.notS _ _ _ _ hi (.inr ⟨x, ver, hd, hex, hbx⟩) hs
   ·obtain ⟨l, hf', _⟩ := hE1 o ho
    have := hE.inj x o.x ver hd 0 _ (bl o.x) hex (hbox o ho) hbx rfl
    subst this
    rw [hf'] at hfx
    cases hfx
  have hres := aUq hE hS h3 h6
  have this : a'.defers = [] ∧ ∃ v, (results fn a'.tmps).run P w' = .ok v w' ∧ (Chg (SX os bl D) w w' ∧
   ((∃ val, Ending.returned v = .returned val ∧ RV { w := w', ok := qG w ok0 new, env := fun _ => none } res val ∧ (∀ o ∈ os, ∃ cs, Blk w' (bl o.x) o.t cs ∧ RL { w := w', ok := qG w ok0 new, env := fun _ => none } o.l' cs.toList) ∧ (∀ p, dev = some p → D.inv p.2 X0 w'))
   ∨ (∃ chain l, Ending.returned v = .panicked chain ∧ stp l ∧ D.O l = none ∧ D.pan l X0 w' chain))) := by
   refine ⟨hE.defers, val, h5, hE.chg, .inl ⟨val, rfl, hres, fun o ho => ?_, fun p hp => ?_⟩⟩
   ·obtain ⟨l, hf', hx⟩ := hE1 o ho
    obtain ⟨hd, h8, h9⟩ := hE.objs o.x none 0 _ hf'
    obtain ⟨g, cs, e1, h10, h11⟩ := h9 trivial
    rw [hbox o ho] at h8
    cases h8
    cases e1
    exact ⟨cs, h10, aLz hE hS hx h11⟩
   ·obtain ⟨_, _, hi⟩ := hE.dev none 0 _ _ _ (hE2 p hp) trivial
    exact D.grow _ _ _ _ _ hi (Chg.refl _ _) (fun b hb => .inl (.inl hb))
  exact this
def px : Nat := 900001
def anyL (l : List PC) : Option (List PC) := match l.all (fun c => Nat.beq c.width 1) with
 | true => some (l.map fun _ => .any)
 | false => none
def argC : PC → Option PC
 | .lit v => some (.lit v)
 | .bs n l => some (.bs n l)
 | .sl n len f => some (.sl n len f)
 | .fn f first cap => match anyL first, anyL cap with
  | some a, some b => some (.fn f a b)
  | _, _ => none
 | .pt _ _ _ => some .any
 | .any => some .any
 | _ => none
def argL : List PC → Option (List PC)
 | [] => some []
 | c :: l => match argC c, argL l with
  | some c, some l => some (c :: l)
  | _, _ => none
def argV : PV → Option PV
 | .w (.one c) => match argC c with
  | some c => some (.w (.one c))
  | none => none
 | .w (.agg l) => match argL l with
  | some l => some (.w (.agg l))
  | none => none
 | _ => none
def aEp : List PV → Option (List PV)
 | [] => some []
 | v :: l => match argV v, aEp l with
  | some v, some l => some (v :: l)
  | _, _ => none
theorem aKk {C C' : Ctx} : ∀ {l : List PC} {xs : List Value}, RL C l xs → (l.all fun c => Nat.beq c.width 1) = true → RL C' (l.map fun _ => .any) xs
 | [], _, h, _ => by cases h; exact .nil
 | c :: l, _, h, hc => by
  rw [List.all_cons, Bool.and_eq_true] at hc
  cases h with
  | @cons _ _ _ xs ys h1 h2 =>
   have hw := h1.width
   rw [beqT hc.1] at hw
   match xs, hw, h1 with
   | [v], _, h1 => exact .cons (xs := [v]) (.any (h1.ones v (by simp))) (aKk h2 hc.2)
theorem aWg {C C' : Ctx} (hle : C.cold.Le C') {c c' : PC} {xs : List Value} (h : argC c = some c') (hr : R C c xs) : R C' c' xs := by
 unfold argC at h
 split at h
 ·cases h; cases hr; exact .lit (by assumption)
 ·cases h; cases hr; exact .bs (by assumption)
 ·cases h
  exact (aAj hr rfl).le hle
 ·rename_i f first cap
  unfold anyL at h
  cases h1 : first.all fun c => Nat.beq c.width 1 <;> cases h2 : cap.all fun c => Nat.beq c.width 1 <;> simp only [h1, h2] at h <;> try (cases h; done)
  cases h
  cases hr with
  | fn h3 h4 => exact .fn (aKk h3 h1) (aKk h4 h2)
 ·cases h
  cases hr with
  | pt h1 _ => obtain ⟨b, o, rfl⟩ := h1; exact .any rfl
 ·cases h; cases hr; exact .any (by assumption)
 ·cases h
theorem aWf {C C' : Ctx} (hle : C.cold.Le C') : ∀ {l l' : List PC} {xs : List Value}, argL l = some l' → RL C l xs → RL C' l' xs
 | [], _, _, h, hr => by simp only [argL, Option.some.injEq] at h; subst h; cases hr; exact .nil
 | c :: l, _, _, h, hr => by
  unfold argL at h
  cases h1 : argC c <;> cases h2 : argL l <;> simp only [h1, h2] at h <;> try (cases h; done)
  cases h
  cases hr with
  | cons h3 h4 => exact .cons (aWg hle h1 h3) (aWf hle h2 h4)
theorem argV_ok {C C' : Ctx} (hle : C.cold.Le C') {v v' : PV} {x : Value} (h : argV v = some v') (hr : RV C v x) : RV C' v' x := by
 unfold argV at h
 split at h
 ·rename_i c
  cases h1 : argC c <;> simp only [h1] at h <;> try (cases h; done)
  cases h
  exact .w (.one (aWg hle h1 hr.inv))
 ·rename_i l
  cases h1 : argL l <;> simp only [h1] at h <;> try (cases h; done)
  cases h
  cases hr with
  | w hr => cases hr with
   | agg hr => exact .w (.agg (aWf hle h1 hr))
 ·cases h
theorem aEo {C C' : Ctx} (hle : C.cold.Le C') : ∀ {vs vs' : List PV} {l : List Value}, aEp vs = some vs' → Vals C vs l → Vals C' vs' l
 | [], _, [], h, _ => by simp only [aEp, Option.some.injEq] at h; subst h; exact trivial
 | [], _, _ :: _, _, h => h.elim
 | _ :: _, _, [], _, h => h.elim
 | v :: vs, _, x :: l, h, ⟨h1, h2⟩ => by
  unfold aEp at h
  cases h3 : argV v <;> cases h4 : aEp vs <;> simp only [h3, h4] at h <;> try (cases h; done)
  cases h
  exact ⟨argV_ok hle h3 h1, aEo hle h4 h2⟩
section
variable {P : Program} {I : World → Prop} {A : Amb} {s : St} {a : Act} {w : World} {env : Env} {F : Option Bool → PV → Wr → Prop}
theorem aVq {e : Env} : (aY A w env).cold.Le { w, ok := (aY A w env).ok, env := e } := ⟨Nat.le_refl _, fun b _ hb => ⟨hb, rfl⟩, fun _ _ _ h => by cases h⟩
theorem aIv (h : GamE A s a w env) {w' : World} (_ : w.heap.size ≤ w'.heap.size) {new : Bool} : ({ w := w', ok := qG w (aY A w env).ok new, env := fun _ => none } : Ctx).Le (aY A w' env) :=
 ⟨Nat.le_refl _, fun b _ hb => ⟨(by
  rcases hb with ⟨_, hb⟩ | hb
  ·exact hb
  ·exact ⟨.inr (Nat.le_trans h.chg.size hb), fun x ver hd he hbl => by have := (h.live x ver hd b he hbl).1; omega⟩), rfl⟩, fun _ _ _ h => by cases h⟩
def iM (t : TypeId) (g : List PC → List PV → Option (Prop × List PC × PV)) : Spec := fun _ xs => match xs with
 | .w (.one (.pt x ver off)) :: rest => (match Nat.beq off 0, aEp rest with
  | true, some ys => .obj x fun gd vr ob => jE gd (match Nat.beq ver vr, ob with
   | true, .box t' l => (match Nat.beq t t', l.all (dY false), g l ys with
    | true, true, some (p, l', r) => .need p (.upd x vr (.box t l') (.ret r))
    | _, _, _ => .fail)
   | _, _ => .fail)
  | _, _ => .fail)
 | _ => .fail
theorem zO {f : Nat} {t : TypeId} {g : List PC → List PV → Option (Prop × List PC × PV)} (hent : ∀ args w, (callFunc f args).run P w = .ok (.enter f args) w)
  (hg : ∀ l ys p l' r, g l ys = some (p, l', r) → p → FunX P I f false [⟨px, t, l, l'⟩] (fun _ => none) none (fun _ => False) (.w (.one (.pt px 0 0)) :: ys) r) : SpecOk P I f (iM t g) := by
 refine ⟨hent, fun A s a w env nm pvs vs F h hI hv hk => ?_⟩
 unfold iM at hk
 split at hk
 ·rename_i x ver off rest
  cases hb : Nat.beq off 0 <;> cases hr : aEp rest <;> simp only [hb, hr] at hk <;> try exact hk.elim
  rename_i ys
  obtain rfl := beqT hb
  obtain ⟨gd, vr, ob, hfo, hk⟩ := hk
  have hk2 := dL hk
  clear hk
  obtain ⟨hgt, hk⟩ := hk2
  obtain ⟨hd, he, hob⟩ := jC h hfo hgt
  cases hb2 : Nat.beq ver vr <;> cases ob <;> simp only [hb2] at hk <;> try exact hk.elim
  rename_i t' l
  obtain rfl := beqT hb2
  cases hb3 : Nat.beq t t' <;> cases hc : l.all (dY false) <;> cases hq : g l ys <;> simp only [hb3, hc, hq] at hk <;> try exact hk.elim
  rename_i q
  obtain ⟨p, l', r⟩ := q
  obtain rfl := beqT hb3
  obtain ⟨hp, _, hF⟩ := hk
  match vs, hv with
  | v :: vs, ⟨hv1, hv2⟩ =>
   obtain ⟨g0, rfl, rfl⟩ := hv1.pt_inv he
   obtain ⟨g1, cs, e1, hB, hR⟩ := hob
   cases e1
   have hlt : g0 < w.heap.size := hB.lt
   have hSX : ∀ b, SX [⟨px, t, l, l'⟩] (fun _ => g0) Dv.non b → b = g0 := by
    rintro b (h | ⟨o, ho, rfl⟩)
    ·exact h.elim
    ·rfl
   have hSA : ∀ b, SX [⟨px, t, l, l'⟩] (fun _ => g0) Dv.non b → b < A.w0.heap.size → A.S b := fun b hb hlt0 => by
    rw [hSX b hb] at hlt0 ⊢
    rcases (h.live x ver _ g0 he rfl).2 with h1 | h1
    ·omega
    ·exact h1.1
   have hSg : SX [⟨px, t, l, l'⟩] (fun _ => g0) Dv.non g0 := .inr ⟨_, List.mem_cons_self, rfl⟩
   have hnok : ¬ (aY A w env).ok g0 := fun hok => hok.2 x ver _ he rfl
   refine (hg l ys p l' r hq hp w (aY A w env).ok (kW g0 :: vs) (fun _ => g0) Dv.non (fun b => b = g0)
    (fun w' hw => hI.mem w' (h.chg.trans' hw (fun _ _ h => h) (fun b hlt0 hb => hSA b hb hlt0)))
    (fun b hb => by rw [hSX b hb]; exact ⟨hlt, hnok⟩) (oP.non P) (fun _ _ _ _ _ _ h => h.elim) rfl (fun p hp => by cases hp) (fun _ => ⟨fun _ h => h, fun _ _ _ h => h⟩)
    (fun o ho => by
     obtain rfl : o = ⟨px, t, l, l'⟩ := by simpa using ho
     exact ⟨rfl, cs, hB, kR hR hc⟩)
    (fun o ho o' ho' _ => by
     obtain rfl : o = ⟨px, t, l, l'⟩ := by simpa using ho
     obtain rfl : o' = ⟨px, t, l, l'⟩ := by simpa using ho'
     rfl)
    ⟨.w (.one (.pt ⟨g0, 0, rfl⟩ ⟨0, kW g0, rfl, Nat.le_refl _, fun _ => ⟨g0, rfl, rfl⟩⟩)), aEo aVq hr hv2⟩).mono ?_
   rintro e w' ⟨hw, ⟨val, rfl, hres, hbx, _⟩ | ⟨chain, l2, rfl, h1, _⟩⟩
   ·obtain ⟨cs', hB', hR'⟩ := hbx _ List.mem_cons_self
    obtain ⟨h1, h2⟩ := h.upd (w' := w') x none ver (kW g0) (.box t l') (hw.mono fun b _ hb => ⟨ver, _, he, by rw [hSX b hb]; rfl⟩) (fun v hd e => by rw [he] at e; cases e; exact .inr ⟨rfl, rfl⟩)
     (fun b hb => by cases hb; exact ⟨Nat.lt_of_lt_of_le hlt hw.size, .inr ⟨ver, _, he, rfl⟩⟩)
     (fun hle _ => ⟨g0, cs', rfl, hB', (hR'.le (aIv h hw.size)).le ⟨Nat.le_refl _, fun b _ hb => ⟨⟨hb.1, fun y v2 hd2 hy => by
      by_cases hyx : y = x
      ·subst hyx
       have hy' : updE env y ver (kW g0) y = some (v2, hd2) := hy
       rw [gU] at hy'
       cases hy'
       exact hb.2 y ver _ he
      ·have hy' : updE env x ver (kW g0) y = some (v2, hd2) := hy
       rw [jI hyx] at hy'
       exact hb.2 y v2 hd2 hy'⟩, rfl⟩, fun y v2 hd2 hy => by
      by_cases hyx : y = x
      ·subst hyx
       have hy' : env y = some (v2, hd2) := hy
       rw [he] at hy'
       cases hy'
       exact ⟨ver, _, gU _ _ _ _, Nat.le_refl _, fun _ => rfl⟩
      ·exact ⟨v2, hd2, (jI hyx).trans hy, Nat.le_refl _, fun _ => rfl⟩⟩⟩)
    exact .inl ⟨r, _, val, _, rfl, hF, h1, (hres.le (aIv h hw.size)).le ⟨Nat.le_refl _, fun b _ hb => ⟨⟨hb.1, fun y v2 hd2 hy => by
      by_cases hyx : y = x
      ·subst hyx
       have hy' : updE env y ver (kW g0) y = some (v2, hd2) := hy
       rw [gU] at hy'
       cases hy'
       exact hb.2 y ver _ he
      ·have hy' : updE env x ver (kW g0) y = some (v2, hd2) := hy
       rw [jI hyx] at hy'
       exact hb.2 y v2 hd2 hy'⟩, rfl⟩, fun y v2 hd2 hy => by
      by_cases hyx : y = x
      ·subst hyx
       have hy' : env y = some (v2, hd2) := hy
       rw [he] at hy'
       cases hy'
       exact ⟨ver, _, gU _ _ _ _, Nat.le_refl _, fun _ => rfl⟩
      ·exact ⟨v2, hd2, (jI hyx).trans hy, Nat.le_refl _, fun _ => rfl⟩⟩⟩
   ·exact h1.elim
 ·exact hk.elim
def aKa (hist : (List Acc → Option Res) → List Acc → List PV → List Acc) (res : (List Acc → Option Res) → List Acc → List PV → Option (Prop × PV)) : Spec := fun _ xs => match xs with
 | .w (.one .dv) :: rest => (match aEp rest with
  | some ys => .obj dx fun g vr ob => jE g (match Nat.beq vr 0, ob with
   | true, .dev O stp l => (match res O l ys with
    | some (p, r) => .need p (.need (∀ h, l <+: h → h <+: hist O l ys → O h = none → stp h) (.upd dx 0 (.dev O stp (hist O l ys)) (.ret r)))
    | none => .fail)
   | _, _ => .fail)
  | none => .fail)
 | _ => .fail
theorem aPp {f : Nat} {hist : (List Acc → Option Res) → List Acc → List PV → List Acc} {res : (List Acc → Option Res) → List Acc → List PV → Option (Prop × PV)} (hent : ∀ args w, (callFunc f args).run P w = .ok (.enter f args) w)
  (hg : ∀ O l ys p r, res O l ys = some (p, r) → p → FunX P I f false [] O (some (l, hist O l ys)) (fun h => l <+: h ∧ h <+: hist O l ys) (.w (.one .dv) :: ys) r) : SpecOk P I f (aKa hist res) := by
 refine ⟨hent, fun A s a w env nm pvs vs F h hI hv hk => ?_⟩
 unfold aKa at hk
 split at hk
 ·rename_i rest
  cases hr : aEp rest with
  | none => rw [hr] at hk; exact hk.elim
  | some ys =>
   rw [hr] at hk
   obtain ⟨gd, vr, ob, hfo, hk⟩ := hk
   have hk2 := dL hk
   clear hk
   obtain ⟨hgt, hk⟩ := hk2
   cases hb2 : Nat.beq vr 0 <;> cases ob <;> simp only [hb2] at hk <;> try exact hk.elim
   rename_i O stp l
   obtain rfl := beqT hb2
   cases hq : res O l ys with
   | none => rw [hq] at hk; exact hk.elim
   | some q =>
    obtain ⟨p, r⟩ := q
    rw [hq] at hk
    obtain ⟨hp, hst, _, hF⟩ := hk
    obtain ⟨hO, hstp, hinv⟩ := h.dev gd 0 O stp l hfo hgt
    subst hO hstp
    have hext := hI.dvh _ _ _ hinv
    obtain ⟨hd, he, _⟩ := h.objs dx gd 0 _ hfo
    obtain rfl := (h.exts dx _ hext).2.now he
    match vs, hv with
    | v :: vs, ⟨hv1, hv2⟩ =>
     have hva : v = A.dv.hd := hv1.dv_inv.now he
     have hSX : ∀ b, SX [] (fun _ => 0) A.dv b → A.dv.S b := by
      rintro b (h | ⟨o, ho, rfl⟩)
      ·exact h
      ·cases ho
     refine (hg A.dv.O l ys p r hq hp w (aY A w env).ok (v :: vs) (fun _ => 0) A.dv (ownB A env)
      (fun w' hw => hI.mem w' (h.chg.trans' hw (fun _ _ h => h) (fun b _ hb => hI.sub b (hSX b hb))))
      (fun b hb => by
       have h1 := hI.old b (hI.sub b (hSX b hb))
       refine ⟨Nat.lt_of_lt_of_le h1.1 h.chg.size, fun hok => ?_⟩
       rcases hok.1 with h2 | h2
       ·exact h1.2 h2
       ·omega)
      (hI.step.mono fun l2 h1 h2 => hst l2 h1.1 h1.2 h2) hI.panW rfl (fun p hp => by cases hp; exact hinv) (fun h => by cases h) (fun o ho => by cases ho) (fun o ho => by cases ho)
      ⟨.w (.one (.dv (by rw [hva]; exact A.dv.one) ⟨0, A.dv.hd, rfl, Nat.le_refl _, fun _ => hva⟩)), aEo aVq hr hv2⟩).mono ?_
     rintro e w' ⟨hw, ⟨val, rfl, hres, _, hdv⟩ | ⟨chain, l2, rfl, h1, h2, h3⟩⟩
     ·obtain ⟨h4, h5⟩ := h.asked (w' := w') hfo hgt hI.sub (fun b hb => hI.old b (hI.sub b hb)) (hw.mono fun b _ hb => hSX b hb) (hdv _ rfl)
      exact .inl ⟨r, _, val, env, rfl, hF, h4, hres.le (aIv h hw.size)⟩
     ·exact .inr ⟨chain, rfl, l2, hst l2 h1.1 h1.2 h2, h2, hI.panW _ _ _ _ _ _ h3 (Chg.refl _ _) (fun b hb => .inl hb), h.chg.trans (hw.mono fun b _ hb => hI.sub b (hSX b hb))⟩
 ·exact hk.elim
end
end Go.Proofs.YtihghljfmlbfhaaGreatDoor.Pv
namespace Go.Proofs.YtihghljfmlbfhaaGreatDoor.Pv
open Go.RowKit
theorem aJw {α : Type} (g : α → List Value) (k : Nat) : ∀ (l : List α) (vs : List Value), (∀ a ∈ l, (g a).length = k) → vs.length = l.length * k → (∀ (i : Nat) (hi : i < l.length), (vs.drop (i * k)).take k = g l[i]) → vs = l.flatMap g
 | [], vs, _, hl, _ => by
  have : vs.length = 0 := by simpa using hl
  rw [List.eq_nil_of_length_eq_zero this]; rfl
 | a :: l, vs, hg, hl, h => by
  have h0 : vs.take k = g a := by
   have := h 0 (by simp)
   rw [Nat.zero_mul, List.drop_zero] at this
   exact this
  have ih := aJw g k l (vs.drop k) (fun b hb => hg b (List.mem_cons_of_mem _ hb)) (by rw [List.length_drop, hl, List.length_cons, Nat.succ_mul]; omega) (fun i hi => by
   have := h (i + 1) (by simpa using hi)
   rw [Nat.succ_mul] at this
   rw [List.drop_drop, Nat.add_comm]
   exact this)
  rw [List.flatMap_cons, ← ih, ← h0]
  exact (List.take_append_drop k vs).symm
def iT (r : Res) : List PC := [.lit (.int .i64 r.val), .lit (.string r.bytes)]
def resF (l : List Res) : Nat → List PC := fun i => iT (l.getD i ⟨0, bF⟩)
def resOf : List PC → Res
 | [.lit (.int _ n), .lit (.string s)] => ⟨n, s⟩
 | _ => ⟨0, bF⟩
def isRes : List PC → Bool
 | [.lit (.int .i64 _), .lit (.string _)] => true
 | _ => false
theorem isRes_ok {l : List PC} (h : isRes l = true) : l = iT (resOf l) := by
 unfold isRes at h
 split at h
 ·rfl
 ·cases h
def jR (n : Nat) (f : Nat → List PC) : List Res := (List.range n).map fun i => resOf (f i)
def yA (n : Nat) (f : Nat → List PC) : Prop := ∀ i, i < n → isRes (f i) = true
@[simp] theorem jQ (n : Nat) (f : Nat → List PC) : (jR n f).length = n := by simp [jR]
theorem resF_row {n : Nat} {f : Nat → List PC} (h : yA n f) : ∀ i, i < n → f i = resF (jR n f) i := fun i hi => by
 unfold resF jR
 rw [zG, List.getElem?_map, List.getElem?_range hi]
 exact isRes_ok (h i hi)
@[simp] theorem isResRow_resF (n : Nat) (l : List Res) : yA n (resF l) := fun _ _ => rfl
@[simp] theorem aIr (l : List Res) : jR l.length (resF l) = l := by
 apply List.ext_getElem (by simp)
 intro i h1 h2
 simp only [jR, List.getElem_map, List.getElem_range, resF, iT, resOf]
 rw [zG, zH h2]
 rfl
theorem aRu {C : Ctx} {n : Nat} {f : Nat → List PC} {v : Value} (h : R C (.sl 2 n f) [v]) (hf : yA n f) : Reads C.w 2 v (jR n f).length (logCells (jR n f)) := by
 cases h with
 | sl hr hb he =>
  rename_i vs
  have : vs = logCells (jR n f) := by
   refine aJw Res.cells 2 (jR n f) vs (fun a _ => rfl) (by rw [jQ]; exact hr.1) (fun i hi => ?_)
   rw [jQ] at hi
   have h1 := he i hi
   rw [resF_row hf i hi] at h1
   unfold resF at h1
   rw [zG, zH (by rw [jQ]; exact hi)] at h1
   generalize (jR n f)[i]'(by rw [jQ]; exact hi) = r at h1 ⊢
   generalize (vs.drop (i * 2)).take 2 = xs at h1 ⊢
   cases h1 with
   | cons k1 h1 => cases h1 with
    | cons k2 h1 =>
     cases h1
     cases k1
     cases k2
     rfl
  rw [← this, jQ]
  exact hr
def rsOf : PC → Option (Prop × List Res)
 | .sl 2 n f => some (yA n f, jR n f)
 | .lit (.slice none 0 0) => some (True, [])
 | _ => none
theorem rsOf_ok {C : Ctx} {c : PC} {v : Value} {p : Prop} {l : List Res} (h : rsOf c = some (p, l)) (hp : p) (hr : R C c [v]) : Reads C.w 2 v l.length (logCells l) := by
 unfold rsOf at h
 split at h
 ·cases h; exact aRu hr hp
 ·cases h
  cases hr
  exact Reads.nil _ 2
 ·cases h
def nZ (a : Acc) : List PC := [.lit (.int .i64 a.kind), .lit (.int .i64 a.bank), .lit (.int .i64 a.cell), .lit (.string a.bytes)]
def u8F (l : List Int) : Nat → List PC := fun i => [.lit (.int .u8 (l.getD i 0))]
def u8Of : List PC → Int
 | [.lit (.int _ n)] => n
 | _ => 0
def aTp : List PC → Bool
 | [.lit (.int .u8 _)] => true
 | _ => false
theorem aDx {l : List PC} (h : aTp l = true) : l = [.lit (.int .u8 (u8Of l))] := by
 unfold aTp at h
 split at h
 ·rfl
 ·cases h
def bkPC (l : List Int) : List PC := [.sl 1 l.length (u8F l)]
def bT (b : List (List Int)) : Nat → List PC := fun i => bkPC (b.getD i [])
def bkOf : List PC → List Int
 | [.sl 1 k g] => (List.range k).map fun j => u8Of (g j)
 | _ => []
def aWu : List PC → Prop
 | [.sl 1 k g] => ∀ j, j < k → aTp (g j) = true
 | _ => False
def bJ (n : Nat) (f : Nat → List PC) : List (List Int) := (List.range n).map fun i => bkOf (f i)
def gW (n : Nat) (f : Nat → List PC) : Prop := ∀ i, i < n → aWu (f i)
@[simp] theorem dH (n : Nat) (f : Nat → List PC) : (bJ n f).length = n := by simp [bJ]
theorem aHp (l : List Int) : bkOf (bkPC l) = l := by
 apply List.ext_getElem (by simp [bkOf, bkPC])
 intro i h1 h2
 simp only [bkOf, bkPC, List.getElem_map, List.getElem_range, u8F, u8Of]
 rw [zG, zH h2]
 rfl
@[simp] theorem jV (n : Nat) (b : List (List Int)) : gW n (bT b) := fun _ _ => fun _ _ => rfl
@[simp] theorem aT (b : List (List Int)) : bJ b.length (bT b) = b := by
 apply List.ext_getElem (by simp)
 intro i h1 h2
 simp only [bJ, List.getElem_map, List.getElem_range, bT]
 rw [aHp, zG, zH h2]
 rfl
theorem mM {n : Nat} {f : Nat → List PC} {C : Ctx} {fv : Value} (hf : gW n f) (h : R C (.sl 1 n f) [fv]) : R C (.sl 1 (bJ n f).length (bT (bJ n f))) [fv] := by
 rw [dH]
 cases h with
 | sl hr hb he =>
  refine .sl hr hb (fun i hi => ?_)
  have h3 := he i hi
  have h4 := hf i hi
  have e2 : bT (bJ n f) i = bkPC (bkOf (f i)) := by
   unfold bT bJ
   rw [iQ n i (fun i => bkOf (f i)) hi]
  rw [e2]
  generalize f i = c at h3 h4 ⊢
  unfold aWu at h4
  split at h4
  ·rename_i kk g
   generalize (List.take 1 _) = xs at h3 ⊢
   cases h3 with
   | cons k1 k2 =>
    cases k2
    refine .cons ?_ .nil
    show R _ (.sl 1 ((List.range kk).map fun j => u8Of (g j)).length (u8F ((List.range kk).map fun j => u8Of (g j)))) _
    rw [List.length_map, List.length_range]
    have hx := k1
    cases hx
    refine k1.sl_ext (fun j hj => ?_)
    unfold u8F
    rw [iQ kk j (fun j => u8Of (g j)) hj]
    exact aDx (h4 j hj)
  ·exact h4.elim
def fuPC (b : List (List Int)) : List PC := [.sl 1 b.length (bT b)]
theorem aAc {C : Ctx} {n : Nat} {f : Nat → List PC} {v : Value} (hf : gW n f) (h : RV C (.w (.agg [.sl 1 n f])) v) : RV C (.w (.agg (fuPC (bJ n f)))) v := by
 cases h with
 | w h => cases h with
  | agg h =>
   refine .w (.agg ?_)
   generalize Array.toList _ = xs at h ⊢
   cases h with
   | cons k1 h => cases h; cases k1 with
    | sl h1 h2 h3 => exact .cons (xs := [_]) (mM hf (.sl h1 h2 h3)) .nil
end Go.Proofs.YtihghljfmlbfhaaGreatDoor.Pv
namespace Go.Proofs.YtihghljfmlbfhaaGreatDoor
open Go.RowKit
def strOf (l : List UInt8) : ByteArray := ⟨l.toArray⟩
theorem vP (l : List UInt8) : (strOf l).data.toList = l := by simp [strOf]
theorem rU (l : List UInt8) : (strOf l).size = l.length := by simp [strOf, ByteArray.size]
def aPv (b : UInt8) : Value := .int .u8 (b.toNat : Int)
section
variable {P : Program}
theorem aNl {src dst e : TypeId} (hs : P.underlying src = some (.slice e)) (he : P.underlying e = some (.int .u8)) (hd : P.underlying dst = some .string) {w : World} {v : Value} {n : Nat} {l : List UInt8} (hr : Reads w 1 v n (l.map aPv)) :
  (convert src dst v).run P w = .ok (.string (strOf l)) w := by
 obtain ⟨hl, A, c, rfl, _, _, hc⟩ := hr
 rw [List.length_map, Nat.mul_one] at hl
 subst hl
 cases A with
 | none =>
  have : l = [] := by
   cases l with
   | nil => rfl
   | cons x l => obtain ⟨b, o, e, _⟩ := hc (by simp); cases e
  subst this
  exact run_convert_bytes_nil w src e hs he _ c dst hd
 | some a =>
  refine run_convert_bytes_back w src dst e a c l hs he hd fun j hj => ?_
  obtain ⟨b, o, e2, hcc⟩ := hc (by omega)
  cases e2
  rw [add_lit]
  exact hcc j _ (by rw [List.getElem?_map, zH hj]; rfl)
theorem aFr {src dst e : TypeId} (hs : P.underlying src = some .string) (hd : P.underlying dst = some (.slice e)) (he : P.underlying e = some (.int .u8)) (w : World) (s : ByteArray) (hm : s.size ≤ maxLen) :
  ∃ c w', (convert src dst (.string s)).run P w = .ok (.slice (some ⟨w.heap.size, 0, none⟩) s.size c) w' ∧ Reads w' 1 (.slice (some ⟨w.heap.size, 0, none⟩) s.size c) s.size (s.data.toList.map aPv) ∧ Ext w w' ∧ (∀ i, i < s.size → w'.frozen? ⟨w.heap.size, i, none⟩ = false) := by
 refine ⟨_, _, run_bytes_of_string w src dst e s hs hd he, ⟨by rw [List.length_map, Array.length_toList, Nat.mul_one]; rfl, _, _, rfl, ?_, grownCap_le_maxLen w s.size 0 e hm, fun _ => ⟨_, _, rfl, fun j u hu => ?_⟩⟩, ((Ext.refl w).drew).alloc _, fun i hi => ?_⟩
 ·simpa using grownCap_ge w s.size 0 e
 ·have hj : j < s.data.size := by
   rcases Nat.lt_or_ge j s.data.size with h | h
   ·exact h
   ·rw [List.getElem?_eq_none (by simpa using h)] at hu; cases hu
  have h1 := World.cell?_alloc_mark w.drew (bytesRow s (grownCap w s.size 0 e)) e ((bytesRow s (grownCap w s.size 0 e)).size, (bytesRow s (grownCap w s.size 0 e)).size + 1) j
  rw [Nat.zero_add]
  refine Eq.trans h1 ?_
  rw [bytesRow_at s _ j hj, ← hu, List.getElem?_map, Array.getElem?_toList, Array.getElem?_eq_getElem hj]
  rfl
 ·have hsz : (bytesRow s (grownCap w s.size 0 e)).size ≥ s.size := by unfold bytesRow; rw [Array.size_append, Array.size_map]; exact Nat.le_add_right _ _
  show (w.drew.alloc (.cells (bytesRow s (grownCap w s.size 0 e)) e ((bytesRow s (grownCap w s.size 0 e)).size, (bytesRow s (grownCap w s.size 0 e)).size + 1))).frozen? ⟨w.drew.heap.size, i, none⟩ = false
  have : (w.drew.alloc (.cells (bytesRow s (grownCap w s.size 0 e)) e ((bytesRow s (grownCap w s.size 0 e)).size, (bytesRow s (grownCap w s.size 0 e)).size + 1))).heap[w.drew.heap.size]? = some (.cells (bytesRow s (grownCap w s.size 0 e)) e ((bytesRow s (grownCap w s.size 0 e)).size, (bytesRow s (grownCap w s.size 0 e)).size + 1)) := heap_alloc_new _ _
  unfold World.frozen?
  rw [this]
  simp
  omega
theorem aAs {ops : Array Oper} {rest : List Oper} {o : Oper} {a : Act} {w : World} {Q : Exit → Act → World → Prop} (hgd : o.guard = none) {src dst e : TypeId} {x : Operand} (ho : o.op = .convert src dst x)
  (hs : P.underlying src = some .string) (hd : P.underlying dst = some (.slice e)) (he : P.underlying e = some (.int .u8)) {s : ByteArray} (hx : a.eval x = .string s) (hm : s.size ≤ maxLen)
  (h : ∀ c w', Reads w' 1 (.slice (some ⟨w.heap.size, 0, none⟩) s.size c) s.size (s.data.toList.map aPv) → Ext w w' → (∀ i, i < s.size → w'.frozen? ⟨w.heap.size, i, none⟩ = false) → wpList P ops Q rest (a.put o.dst (.slice (some ⟨w.heap.size, 0, none⟩) s.size c)) w') : wpList P ops Q (o :: rest) a w :=
 wpList_plain hgd fun _ hK => by
  obtain ⟨c, w', hrun, h1, h2, h3⟩ := aFr (P := P) hs hd he w s hm
  unfold Oper.wp execOp
  simp only [ho, hx, hrun, Sem.run_bind, Sem.run_pure, Result.andThen_ok]
  exact hK _ _ (h c w' h1 h2 h3)
theorem qK {ops : Array Oper} {rest : List Oper} {o : Oper} {a : Act} {w : World} {Q : Exit → Act → World → Prop} (hgd : o.guard = none) {src dst e : TypeId} {x : Operand} (ho : o.op = .convert src dst x)
  (hs : P.underlying src = some (.slice e)) (he : P.underlying e = some (.int .u8)) (hd : P.underlying dst = some .string) {v : Value} (hx : a.eval x = v) {n : Nat} {l : List UInt8} (hr : Reads w 1 v n (l.map aPv))
  (h : wpList P ops Q rest (a.put o.dst (.string (strOf l))) w) : wpList P ops Q (o :: rest) a w :=
 wpList_plain hgd fun _ hK => by
  have hrun := aNl (P := P) hs he hd hr
  unfold Oper.wp execOp
  simp only [ho, hx, hrun, Sem.run_bind, Sem.run_pure, Result.andThen_ok]
  exact hK _ _ h
theorem aIa {ops : Array Oper} {rest : List Oper} {o : Oper} {a : Act} {w : World} {Q : Exit → Act → World → Prop} (hgd : o.guard = none) {sl x : Operand} {t u : TypeId}
  (ho : o.op = .call { callee := .builtin .append, args := #[sl, x], argTypes := #[t, u] })
  {B : Nat} {e : TypeId} (T : SlTy P t e 1 1) (hz : (P.info? e).map (·.zero) = some (some (.int .u8 0))) (hu : P.underlying u = some .string) {v : Value} {n : Nat} {xs : List Value} (hs : a.eval sl = v) (hown : w.ownsRow B e 1 v n xs) {s : ByteArray} (hx : a.eval x = .string s)
  (hbytes : n + s.size ≤ 140737488355328) (hbase : B ≤ w.heap.size)
  (h : ∀ (A' : Option Addr) (c' : Nat) w', w'.ownsRow B e 1 (.slice A' (n + s.size) c') (n + s.size) (xs ++ s.data.toList.map aPv) → Chg (fun k => v.ownBlock = some k) w w' → wpList P ops Q rest (a.put o.dst (.slice A' (n + s.size) c')) w') : wpList P ops Q (o :: rest) a w := by
 obtain ⟨ht, ⟨i, z, hi, hz2, hsize, hby, hzs⟩, _, _⟩ := T
 have hz' : i.zero = some (.int .u8 0) := by rw [hi] at hz; simpa using hz
 refine Lib.wpList_append_own_string (P := P) (w := w) hgd sl x t u ho B e i ht hu hi hz' hsize hby v n xs hs hown s hx (by unfold maxLen; omega) hbytes hbase fun v' w' h1 h2 _ => ?_
 obtain ⟨A', c', rfl⟩ := iO h1
 exact h A' c' w' h1 ⟨h2.os, h2.tape, h2.output, h2.size, fun k hk hn => h2.block k hk (fun e => hn e.symm)⟩
end
end Go.Proofs.YtihghljfmlbfhaaGreatDoor
namespace Go.Proofs.YtihghljfmlbfhaaGreatDoor
open Go.RowKit
abbrev Fl := List ByteArray
def sec (f : Fl) (s : Int) : List UInt8 := if 0 ≤ s ∧ s < f.length then (f.getD s.toNat bF).data.toList else []
def torn (cut : Int) (b old : List UInt8) : List UInt8 := if cut < 0 ∨ (b.length : Int) ≤ cut then b else b.take cut.toNat ++ old.drop cut.toNat
def aCe (f : Fl) (s : Int) (b : ByteArray) (cut : Int) : Fl := if 0 ≤ s ∧ s < f.length ∧ b.size = 256 then f.set s.toNat (strOf (torn cut b.data.toList (sec f s))) else f
end Go.Proofs.YtihghljfmlbfhaaGreatDoor
namespace Go.Proofs.YtihghljfmlbfhaaGreatDoor.Pv
open Go.RowKit
section
variable {P : Program} {I : World → Prop} {A : Amb} {s : St} {a : Act} {w w' : World} {env : Env} {F : Option Bool → PV → Wr → Prop}
end
end Go.Proofs.YtihghljfmlbfhaaGreatDoor.Pv
namespace Go.Proofs.YtihghljfmlbfhaaGreatDoor.Pv
open Go.RowKit
theorem aUh {I : World → Prop} : Mach Tryz.prog I (find ([] : List (Nat × Spec))) := ⟨fun f sp h => (by cases h), (by kernel_rfl)⟩
def fsF (l : List ByteArray) : Nat → List PC := fun i => [.lit (.string (l.getD i bF))]
def fsOf : List PC → ByteArray
 | [.lit (.string s)] => s
 | _ => bF
def isFs : List PC → Bool
 | [.lit (.string _)] => true
 | _ => false
theorem isFs_ok {l : List PC} (h : isFs l = true) : l = [.lit (.string (fsOf l))] := by
 unfold isFs at h
 split at h
 ·rfl
 ·cases h
def tX (n : Nat) (f : Nat → List PC) : List ByteArray := (List.range n).map fun i => fsOf (f i)
def aEu (n : Nat) (f : Nat → List PC) : Prop := ∀ i, i < n → isFs (f i) = true
@[simp] theorem aHe (n : Nat) (f : Nat → List PC) : (tX n f).length = n := by simp [tX]
theorem fsF_row {n : Nat} {f : Nat → List PC} (h : aEu n f) : ∀ i, i < n → f i = fsF (tX n f) i := fun i hi => by
 unfold fsF tX
 rw [zG, List.getElem?_map, List.getElem?_range hi]
 exact isFs_ok (h i hi)
@[simp] theorem aJp (n : Nat) (l : List ByteArray) : aEu n (fsF l) := fun _ _ => rfl
@[simp] theorem kP (l : List ByteArray) : tX l.length (fsF l) = l := by
 apply List.ext_getElem (by simp)
 intro i h1 h2
 simp only [tX, List.getElem_map, List.getElem_range, fsF, fsOf]
 rw [zG, zH h2]
 rfl
end Go.Proofs.YtihghljfmlbfhaaGreatDoor.Pv
namespace Go.Proofs.YtihghljfmlbfhaaGreatDoor
open Go.RowKit
def nonzero (l : List Int) : Nat := (l.filter (fun n => n != 0)).length
def jD (l : List Int) : Bool := decide (l.length < 2 * nonzero l)
def Prg.fuse (a b : Int) : Prg Int := .ask ⟨1, a, b, bF⟩ fun r => .ret r.val
def Prg.pulse (a b : Int) : Prg Unit := .ask ⟨2, a, b, bF⟩ fun _ => .ret ()
def Prg.read (bank bit : Int) : Prg Bool :=
 (Prg.fuse bank (3 * bit + 0)).bind fun a => (Prg.fuse bank (3 * bit + 1)).bind fun b => (Prg.fuse bank (3 * bit + 2)).bind fun c => .ret (jD [a, b, c])
def Prg.pulses (bank bit : Int) : Prg Unit :=
 (Prg.pulse bank (3 * bit + 0)).bind fun _ => (Prg.pulse bank (3 * bit + 1)).bind fun _ => (Prg.pulse bank (3 * bit + 2)).bind fun _ => .ret ()
def Prg.up (bank : Int) : Nat → Nat → Prg Nat
 | 0, n => .ret n
 | f + 1, n => (Prg.read bank n).bind fun b => if b then Prg.up bank f (n + 1) else .ret n
def Prg.down (bank : Int) : Nat → Nat → Prg Unit
 | 0, _ => .ret ()
 | r + 1, b => (Prg.pulses bank b).bind fun _ => Prg.down bank r (b + 1)
def Prg.levelOf (bank : Int) (bits : Nat) : Prg Nat := (Prg.up bank bits 0).bind fun n => (Prg.down bank n 0).bind fun _ => .ret n
def Prg.raiseFrom (bank : Int) : Nat → Nat → Prg (Nat × Int)
 | 0, n => .ret (n, 0)
 | f + 1, n => (Prg.pulses bank n).bind fun _ => (Prg.read bank n).bind fun b => if b then Prg.raiseFrom bank f (n + 1) else .ret (n, 12)
def Prg.raiseTo (bank : Int) (bits target : Nat) : Prg (Nat × Int) := (Prg.levelOf bank bits).bind fun n => Prg.raiseFrom bank (target - n) n
def fG (x : Int) (noise : Bool) : Int := if x = 2 ∨ (x = 1 ∧ noise = true) then 1 else 0
def dK (x : Int) (cut : Bool) : Int := if x ≤ 1 then (if cut then 1 else 2) else x
def fM (l : List Int) (i : Nat) : Bool × Bool := match l[i]? with | some x => (x % 2 == 1, x / 2 % 2 == 1) | none => (false, false)
def isU8 (x : Int) : Prop := 0 ≤ x ∧ x < 256
def Prg.In {α : Type} (n : Nat) : Prg α → Prop
 | .ret _ => True
 | .ask a k => (a.kind = 1 ∨ a.kind = 2) ∧ a.bank = 2 ∧ 0 ≤ a.cell ∧ a.cell < n ∧ a.bytes = bF ∧ ∀ r, Prg.In n (k r)
theorem Prg.In.bind {α β : Type} {n : Nat} {p : Prg α} {f : α → Prg β} (h : Prg.In n p) {R : α → Prop} (ha : Prg.All R p) (hf : ∀ a, R a → Prg.In n (f a)) : Prg.In n (p.bind f) := by
 induction p with
 | ret a => exact hf a ha
 | ask a k ih => exact ⟨h.1, h.2.1, h.2.2.1, h.2.2.2.1, h.2.2.2.2.1, fun r => ih r (h.2.2.2.2.2 r) (ha r)⟩
theorem Prg.In.bind' {α β : Type} {n : Nat} {p : Prg α} {f : α → Prg β} (h : Prg.In n p) (hf : ∀ a, Prg.In n (f a)) : Prg.In n (p.bind f) := h.bind (Prg.All.triv p) fun a _ => hf a
theorem aJv {n b : Nat} (k : Nat) (hb : 3 * b + k < n) : Prg.In n (Prg.fuse 2 (3 * (b : Int) + k)) := ⟨.inl rfl, rfl, by show (0 : Int) ≤ 3 * (b : Int) + k; omega, by show 3 * (b : Int) + k < (n : Int); omega, rfl, fun _ => trivial⟩
theorem aDo {n b : Nat} (k : Nat) (hb : 3 * b + k < n) : Prg.In n (Prg.pulse 2 (3 * (b : Int) + k)) := ⟨.inr rfl, rfl, by show (0 : Int) ≤ 3 * (b : Int) + k; omega, by show 3 * (b : Int) + k < (n : Int); omega, rfl, fun _ => trivial⟩
theorem aRy {n b : Nat} (hb : 3 * b + 2 < n) : Prg.In n (Prg.read 2 b) :=
 (aJv 0 (by omega)).bind' fun _ => (aJv 1 (by omega)).bind' fun _ => (aJv 2 (by omega)).bind' fun _ => trivial
theorem aGf {n b : Nat} (hb : 3 * b + 2 < n) : Prg.In n (Prg.pulses 2 b) :=
 (aDo 0 (by omega)).bind' fun _ => (aDo 1 (by omega)).bind' fun _ => (aDo 2 (by omega)).bind' fun _ => trivial
theorem up_in {n : Nat} : ∀ (f b : Nat), 3 * (b + f) ≤ n → Prg.In n (Prg.up 2 f b)
 | 0, _, _ => trivial
 | f + 1, b, h => (aRy (by omega)).bind' fun x => by
  cases x with
  | true => exact up_in f (b + 1) (by omega)
  | false => trivial
theorem up_le : ∀ (bank : Int) (f b : Nat), Prg.All (fun m => m ≤ b + f) (Prg.up bank f b)
 | _, 0, b => Nat.le_refl _
 | bank, f + 1, b => (Prg.All.triv (Prg.read bank b)).bind fun x _ => by
  cases x with
  | true => exact (up_le bank f (b + 1)).mono fun a h => by omega
  | false => exact (by omega : b ≤ b + (f + 1))
theorem aUw {n : Nat} : ∀ (r b : Nat), 3 * (b + r) ≤ n → Prg.In n (Prg.down 2 r b)
 | 0, _, _ => trivial
 | r + 1, b, h => (aGf (by omega)).bind' fun _ => aUw r (b + 1) (by omega)
theorem aCa (bits : Nat) : Prg.In (3 * bits) (Prg.levelOf 2 bits) :=
 (up_in bits 0 (by omega)).bind (up_le 2 bits 0) fun m h => (aUw m 0 (by omega)).bind' fun _ => trivial
theorem kE (bank : Int) (bits : Nat) : Prg.All (fun m => m ≤ bits) (Prg.levelOf bank bits) :=
 (up_le bank bits 0).bind fun m h => (Prg.All.triv (Prg.down bank m 0)).bind fun _ _ => by show m ≤ bits; omega
theorem wR {n : Nat} : ∀ (f b : Nat), 3 * (b + f) ≤ n → Prg.In n (Prg.raiseFrom 2 f b)
 | 0, _, _ => trivial
 | f + 1, b, h => (aGf (by omega)).bind' fun _ => (aRy (by omega)).bind' fun x => by
  cases x with
  | true => exact wR f (b + 1) (by omega)
  | false => trivial
theorem aOa (bits target : Nat) (h : target ≤ bits) : Prg.In (3 * bits) (Prg.raiseTo 2 bits target) :=
 (aCa bits).bind (kE 2 bits) fun m hm => by
  by_cases hmt : m ≤ target
  ·exact wR _ _ (by omega)
  ·rw [show target - m = 0 from by omega]
   trivial
abbrev cell (c : List Int) (j : Nat) : Int := c.getD j 0
def aftC (a : Acc) (f : Bool × Bool) (cells : List Int) : List Int := if a.kind = 1 then cells else cells.set a.cell.toNat (dK (cells.getD a.cell.toNat 0) f.1)
def aftV (a : Acc) (f : Bool × Bool) (cells : List Int) : Int := if a.kind = 1 then fG (cells.getD a.cell.toNat 0) f.2 else 0
def exec {α : Type} (F : List Int) : Prg α → List Int → Nat → Option α × List Int × Nat
 | .ret a, c, i => (some a, c, i)
 | .ask a k, c, i => if (fM F i).1 = true then (none, aftC a (fM F i) c, i + 1) else exec F (k ⟨aftV a (fM F i) c, bF⟩) (aftC a (fM F i) c) (i + 1)
def Prg.Within {α : Type} : Nat → Prg α → Prop
 | _, .ret _ => True
 | 0, .ask _ _ => False
 | n + 1, .ask _ k => ∀ r, Prg.Within n (k r)
theorem Within.mono {α : Type} {p : Prg α} : ∀ {n m : Nat}, p.Within n → n ≤ m → p.Within m := by
 induction p with
 | ret a => intro n m _ _; cases m <;> trivial
 | ask a k ih =>
  intro n m h hm
  cases n with
  | zero => exact h.elim
  | succ n =>
   cases m with
   | zero => omega
   | succ m => exact fun r => ih r (h r) (by omega)
theorem Within.bind {α β : Type} {p : Prg α} {f : α → Prg β} {m : Nat} : ∀ {n : Nat}, p.Within n → (∀ a, (f a).Within m) → (p.bind f).Within (n + m) := by
 induction p with
 | ret a => intro n _ hf; exact Within.mono (hf a) (by omega)
 | ask a k ih =>
  intro n h hf
  cases n with
  | zero => exact h.elim
  | succ n =>
   rw [show n + 1 + m = (n + m) + 1 from by omega]
   exact fun r => ih r (h r) hf
theorem Within.bindR {α β : Type} {R : α → Prop} {p : Prg α} {f : α → Prg β} {m : Nat} : ∀ {n : Nat}, p.Within n → Prg.All R p → (∀ a, R a → (f a).Within m) → (p.bind f).Within (n + m) := by
 induction p with
 | ret a => intro n _ ha hf; exact Within.mono (hf a ha) (by omega)
 | ask a k ih =>
  intro n h ha hf
  cases n with
  | zero => exact h.elim
  | succ n =>
   rw [show n + 1 + m = (n + m) + 1 from by omega]
   exact fun r => ih r (h r) (ha r) hf
theorem sZ (a b : Int) : (Prg.fuse a b).Within 1 := fun _ => trivial
theorem qN (a b : Int) : (Prg.pulse a b).Within 1 := fun _ => trivial
theorem yH (a b : Int) : (Prg.read a b).Within 3 := Within.bind (m := 2) (sZ _ _) fun _ => Within.bind (m := 1) (sZ _ _) fun _ => Within.bind (m := 0) (sZ _ _) fun _ => trivial
theorem uK (a b : Int) : (Prg.pulses a b).Within 3 := Within.bind (m := 2) (qN _ _) fun _ => Within.bind (m := 1) (qN _ _) fun _ => Within.bind (m := 0) (qN _ _) fun _ => trivial
theorem aFb (a : Int) : ∀ f n, (Prg.up a f n).Within (3 * f)
 | 0, n => trivial
 | f + 1, n => by
  rw [show 3 * (f + 1) = 3 + 3 * f from by omega]
  refine Within.bind (yH a n) fun b => ?_
  cases b with
  | true => exact aFb a f (n + 1)
  | false => exact Within.mono (n := 0) (show (Prg.ret n : Prg Nat).Within 0 from trivial) (by omega)
theorem yI (a : Int) : ∀ r b, (Prg.down a r b).Within (3 * r)
 | 0, b => trivial
 | r + 1, b => by
  rw [show 3 * (r + 1) = 3 + 3 * r from by omega]
  exact Within.bind (uK a b) fun _ => yI a r (b + 1)
theorem sU (a : Int) (bits : Nat) : (Prg.levelOf a bits).Within (6 * bits) := by
 rw [show 6 * bits = 3 * bits + (3 * bits + 0) from by omega]
 refine Within.bindR (aFb a bits 0) (up_le a bits 0) fun n hn => ?_
 exact Within.bind (Within.mono (yI a n 0) (by omega)) fun _ => trivial
theorem qC (a : Int) : ∀ f n, (Prg.raiseFrom a f n).Within (6 * f)
 | 0, n => trivial
 | f + 1, n => by
  rw [show 6 * (f + 1) = 3 + (3 + 6 * f) from by omega]
  refine Within.bind (uK a n) fun _ => Within.bind (yH a n) fun b => ?_
  cases b with
  | true => exact qC a f (n + 1)
  | false => exact Within.mono (n := 0) (show (Prg.ret (n, (12 : Int)) : Prg (Nat × Int)).Within 0 from trivial) (by omega)
theorem aAu (a : Int) (bits target : Nat) : (Prg.raiseTo a bits target).Within (6 * bits + 6 * target) :=
 Within.bind (sU a bits) fun n => Within.mono (qC a (target - n) n) (by omega)
end Go.Proofs.YtihghljfmlbfhaaGreatDoor
namespace Go.Proofs.YtihghljfmlbfhaaGreatDoor.Pv
open Go.RowKit
def ans (O : List Acc → Option Res) (l : List Acc) : Res := (O l).getD ⟨0, bF⟩
def go {α : Type} (O : List Acc → Option Res) : Prg α → List Acc → α × List Acc
 | .ret a, l => (a, l)
 | .ask c k, l => go O (k (ans O (l ++ [c]))) (l ++ [c])
theorem go_ret {α : Type} (O : List Acc → Option Res) (a : α) (l : List Acc) : go O (.ret a) l = (a, l) := rfl
theorem aLs {α : Type} (O : List Acc → Option Res) (c : Acc) (k : Res → Prg α) (l : List Acc) : go O (.ask c k) l = go O (k (ans O (l ++ [c]))) (l ++ [c]) := rfl
theorem go_bind {α β : Type} (O : List Acc → Option Res) (p : Prg α) (f : α → Prg β) : ∀ l, go O (p.bind f) l = go O (f (go O p l).1) (go O p l).2 := by
 induction p with
 | ret a => intro l; rfl
 | ask c k ih => intro l; exact ih _ _
theorem aLr {α : Type} (O : List Acc → Option Res) (p : Prg α) : ∀ l, l <+: (go O p l).2 := by
 induction p with
 | ret a => intro l; exact List.prefix_refl _
 | ask c k ih => intro l; exact (List.prefix_append l [c]).trans (ih _ _)
theorem aTv {α : Type} {R : α → Prop} (O : List Acc → Option Res) {p : Prg α} (h : Prg.All R p) : ∀ l, R (go O p l).1 := by
 induction p with
 | ret a => intro l; exact h
 | ask c k ih => intro l; exact ih _ (h _) _
def jL {α : Type} (dec : List PV → Option (Prop × Prg α × (α → PV))) : Spec :=
 aKa (fun O l ys => match dec ys with | some (_, p, _) => (go O p l).2 | none => l) (fun O l ys => match dec ys with | some (c, p, f) => some (c, f (go O p l).1) | none => none)
def FunP (P : Program) (I : World → Prop) (f : Nat) {α : Type} (p : Prg α) (args : List PV) (val : α → PV) : Prop :=
 ∀ O l, FunX P I f false [] O (some (l, (go O p l).2)) (fun h => l <+: h ∧ h <+: (go O p l).2) args (val (go O p l).1)
theorem jZ {P : Program} {I : World → Prop} {f : Nat} {α : Type} {dec : List PV → Option (Prop × Prg α × (α → PV))} (hent : ∀ args w, (callFunc f args).run P w = .ok (.enter f args) w)
  (hg : ∀ ys c p v, dec ys = some (c, p, v) → c → FunP P I f p (.w (.one .dv) :: ys) v) : SpecOk P I f (jL dec) := by
 refine aPp hent (fun O l ys p r hq hp => ?_)
 cases hd : dec ys with
 | none => rw [hd] at hq; cases hq
 | some q =>
  obtain ⟨c, pr, v⟩ := q
  rw [hd] at hq
  cases hq
  exact hg ys _ pr v hd hp O l
theorem aSe {H L l : List Acc} {c : Acc} {X : Prop} (h1 : L <+: l) (h2 : l ++ [c] <+: H) : X → L <+: l ++ [c] ∧ l ++ [c] <+: H := fun _ => ⟨h1.trans (List.prefix_append l [c]), h2⟩
theorem xQ (l : List Acc) : l <+: l := List.prefix_refl l
theorem aFf {P : Program} {A : Amb} {s : St} {Q : Exit → Act → World → Prop} {id : Nat} (h : Aft A s (Q .normal)) : Tri P A s (.label id) Q := fun a w hg _ => wp_label (h a w hg)
theorem aFe {P : Program} {A : Amb} {s : St} {Q : Exit → Act → World → Prop} {c : Code} (h : Tri P A s c (Exit.noGoto Q)) : Tri P A s (.scope c) Q := fun a w hg hPQ => wp_scope_straight (h a w hg (fun chain a w hd hp => hPQ chain a w hd hp))
end Go.Proofs.YtihghljfmlbfhaaGreatDoor.Pv
