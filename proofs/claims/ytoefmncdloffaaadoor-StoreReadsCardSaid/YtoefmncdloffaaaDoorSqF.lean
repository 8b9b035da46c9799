/-
  Several texts in one file: each has its own heading below.
-/
import Derived.Test.YtoefmncdloffaaaDoorSqE
import Derived.Outline
import Derived.Test.YtoefmncdloffaaaDoorSqA
import Derived.ChangeKeysEq
import Derived.DeepKeys
import Derived.Deep.RegionHeld3
import Derived.Deep.DeepCutAuto
import Derived.Laws.IdiomStrings
import Derived.Laws.BytesArg
import Derived.Lib.AppendStr
import Derived.Lib.SlBytesConst
import Derived.StillTailTactics
import Derived.BigRegion
import Derived.OwnWalkIn
import Derived.RangeFuncNested
import Derived.RangeFuncBound
import Derived.RangeFuncCalls
import Derived.RangeFuncLeaves
import Derived.TacticsInMore
import Derived.LoopNIn
import Derived.LoopIn
import Derived.Deep.Cut


namespace Go.Proofs.YtoefmncdloffaaaDoor
open Go.RowKit
theorem rot_any (x : UInt32) (n : Nat) (nI : Int) (hI : nI = (n : Int)) (w : World) (hn : 0 < n) (hn2 : n < 32) :
    Calls Tryd.prog 173 #[.int .u32 (x.toNat : Int), .int .i64 nI] w fun e w' => e = .returned (.int .u32 ((rotrW x (UInt32.ofNat n)).toNat : Int)) ∧ ∃ k, w' = w.drewN k := by
  subst hI
  have h0 := hide (show bits BinOp.or IntKind.u32 ((x.toNat : Int) / 2 ^ n) ((x.toNat : Int) * 2 ^ (32 - n) % 4294967296) = ((rotrW x (UInt32.ofNat n)).toNat : Int) from by
    rw [shl32 x (32 - n) (by omega), shr32 x n hn2, or32]
    unfold rotrW
    have e : UInt32.ofNat (32 - n) = 32 - UInt32.ofNat n := by
      apply UInt32.toNat_inj.1
      rw [UInt32.toNat_sub]
      simp
      omega
    rw [e])
  have hx := x.toNat_lt
  have h2 : IntKind.i64.wrap (32 - (n : Int)) = ((32 - n : Nat) : Int) := by
    rw [show (32 : Int) - (n : Int) = ((32 - n : Nat) : Int) by omega]
    exact IntWalk.i64_in _ (by omega)
  go_enter Tryd.func173, Tryd.ntmps173
  go_wp2
  go_quiet (fail)
  go_wp2
  go_ret
  exact ⟨ret_int (unhide h0), _, rfl⟩
theorem u32_row : SlTy Tryd.prog 218 189 1 4 := SlTy.mk' (z := .int .u32 0) (by kernel_rfl) (by kernel_rfl) rfl (by omega) (by omega)
def hexD (c : UInt8) : UInt32 := if 97 ≤ c.toNat then (c - 97 + 10).toUInt32 else (c - 48).toUInt32
def hexAt (l : List UInt8) (i k : Nat) : UInt32 := ((l.drop (8 * i)).take k).foldl (fun w c => 16 * w + hexD c) 0
def hexWord (l : List UInt8) (i : Nat) : UInt32 := hexAt l i 8
theorem hexAt_step (l : List UInt8) (i k : Nat) (h : 8 * i + k < l.length) : hexAt l i (k + 1) = 16 * hexAt l i k + hexD l[8 * i + k] := by
  unfold hexAt
  rw [take_step _ k (by simp; omega), List.foldl_append]
  simp
theorem hex_lo (c : UInt8) (h : c.toNat < 97) : ((c.toNat : Int) - 48) % 256 = ((hexD c).toNat : Int) := by
  unfold hexD
  rw [if_neg (by omega), UInt8.toNat_toUInt32, UInt8.toNat_sub, show (48 : UInt8).toNat = 48 from rfl]
  have := c.toNat_lt
  omega
theorem hex_hi (c : UInt8) (h : 97 ≤ c.toNat) : (c.toNat : Int) - 97 + 10 = ((hexD c).toNat : Int) := by
  unfold hexD
  rw [if_pos h, UInt8.toNat_toUInt32, UInt8.toNat_add, UInt8.toNat_sub, show (97 : UInt8).toNat = 97 from rfl, show (10 : UInt8).toNat = 10 from rfl]
  have := c.toNat_lt
  omega
theorem hex_next (a d : UInt32) : (16 * (a.toNat : Int) % 4294967296 + (d.toNat : Int)) % 4294967296 = ((16 * a + d).toNat : Int) := by
  rw [UInt32.toNat_add, UInt32.toNat_mul]
  simp
set_option maxHeartbeats 1000000 in
theorem word_any (s : ByteArray) (i : Nat) (w : World) (hs : s.size ≤ 100000) (hi : 8 * i + 8 ≤ s.size) :
    Calls Tryd.prog 172 #[.string s, .int .i64 (i : Int)] w fun e w' => e = .returned (.int .u32 ((hexWord s.data.toList i).toNat : Int)) ∧ w = w' := by
  have e8 : IntKind.i64.wrap (8 * (i : Int)) = 8 * (i : Int) := IntWalk.i64_in _ (by omega)
  go_enter Tryd.func172, Tryd.ntmps172
  go_wp2
  go_loop [5, 6] (fun a b => ∃ k : Nat, k ≤ 8 ∧ b = .int .i64 ((8 * i + k : Nat) : Int) ∧ a = .int .u32 ((hexAt s.data.toList i k).toNat : Int)) (fun _ b => 8 * i + 8 - (intOf b).toNat)
  case atStart => exact ⟨0, Nat.zero_le _, by simp, rfl⟩
  case round =>
    obtain ⟨k, hk, rfl, rfl⟩ := hrel
    by_cases hlt : k < 8
    · have hj : 8 * i + k < s.size := by omega
      have HS := hide (hexAt_step s.data.toList i k (by rw [Array.length_toList]; exact hj))
      have hc := s[8 * i + k].toNat_lt
      have HC : Hid (s.data.toList[8 * i + k]'(by rw [Array.length_toList]; exact hj) = s[8 * i + k]) := hide (by rw [Array.getElem_toList]; rfl)
      have ha := (hexAt s.data.toList i k).toNat_lt
      have HN := hide (fun d => hex_next (hexAt s.data.toList i k) d)
      generalize hexAt s.data.toList i k = acc at *
      have e1 : decide (((8 * i + k : Nat) : Int) < 8 * (i : Int) + 8) = true := decide_eq_true (by omega)
      by_cases h97 : 97 ≤ s[8 * i + k].toNat
      · have HX := hide (hex_hi s[8 * i + k] h97)
        go_wp2
        go_round
        case rel => exact ⟨k + 1, by omega, by go_num, int_eq (by rw [unhide HX, unhide HS, unhide HC]; exact unhide HN _)⟩
        case measure => simp [intOf]; omega
      · have HX := hide (hex_lo s[8 * i + k] (by omega))
        go_wp2
        go_round
        case rel => exact ⟨k + 1, by omega, by go_num, int_eq (by rw [unhide HX, unhide HS, unhide HC]; exact unhide HN _)⟩
        case measure => simp [intOf]; omega
    · obtain rfl : k = 8 := by omega
      have e1 : decide (((8 * i + 8 : Nat) : Int) < 8 * (i : Int) + 8) = false := decide_eq_false (by omega)
      go_wp2
      go_ret
      exact ⟨rfl, rfl⟩
set_option maxHeartbeats 1000000 in
theorem words_any (s : ByteArray) (n : Nat) (nI : Int) (hI : nI = (n : Int)) (w : World) (hs : s.size ≤ 100000) (hn : 8 * n ≤ s.size) :
    Calls Tryd.prog 165 #[.string s, .int .i64 nI] w fun e w' => ∃ A c, e = .returned (.slice A n c) ∧ w'.ownsRow w.heap.size 189 1 (.slice A n c) n (((List.range n).map (hexWord s.data.toList)).map w32) ∧ Ext w w' := by
  subst hI
  go_enter Tryd.func165, Tryd.ntmps165
  go_wp2
  go_loopw [5, 6] (fun b i wr => ∃ (k : Nat) (A : Option Addr) (c : Nat), k ≤ n ∧ i = .int .i64 k ∧ b = .slice A k c ∧ Hid (wr.ownsRow w.heap.size 189 1 (.slice A k c) k (((List.range k).map (hexWord s.data.toList)).map w32) ∧ Ext w wr)) (fun _ i _ => n - (intOf i).toNat)
  case atStart => exact ⟨0, none, 0, Nat.zero_le _, rfl, rfl, hide ⟨World.ownsRow_nil _ _ _ _, Ext.refl _⟩⟩
  case round =>
    obtain ⟨k, A, c, hk, rfl, rfl, HI⟩ := hrel
    by_cases hlt : k < n
    · have HX := hide (show ((List.range (k + 1)).map (hexWord s.data.toList)).map w32 = ((List.range k).map (hexWord s.data.toList)).map w32 ++ [w32 (hexWord s.data.toList k)] from by rw [List.range_succ]; simp)
      have HW := hide (fun W => word_any s k W hs (by omega))
      generalize hexWord s.data.toList k = x at *
      go_wp2_with (first
        | (go_at_call 172; refine (unhide HW _).mono ?_; rintro e w' ⟨rfl, rfl⟩)
        | (at_builtin; refine wpList_app rfl rfl u32_row rfl (ownsRow_ext (unhide HI).1 ((Ext.refl _).alloc _)) rfl (Reads.new1 _ _ _) (AllOne.one rfl) (by omega) (Nat.le_trans (unhide HI).2.size' (by simp)) ?_; intro A' c' w2 ho hc hv; have HQ := hide (And.intro ho (And.intro hc hv)); clear ho hc hv))
      go_roundw
      case rel =>
        refine ⟨k + 1, A', c', by omega, by go_num, rfl, hide ⟨by rw [unhide HX]; exact (unhide HQ).1, ?_⟩⟩
        exact Onto.new_ext (unhide HI).2 (((Onto.refl _ _).ext ((Ext.refl wr).alloc _)).trans (Onto.app (unhide HQ).2.1 (unhide HQ).2.2)) (fun q hq => ((unhide HI).1.lt q hq).1)
      case measure => simp [intOf]; omega
    · obtain rfl : k = n := by omega
      go_wp2
      go_ret
      exact ⟨_, _, rfl, (unhide HI).1, (unhide HI).2⟩
end Go.Proofs.YtoefmncdloffaaaDoor


namespace Go.Proofs.YtoefmncdloffaaaDoor
open Go.RowKit
theorem Blk.far' {w : World} {g : Nat} {t : TypeId} {cs : Array Value} (h : Blk w g t cs) {b : Nat} (hn : ¬ g = b) (i : Nat) (u : Value) : Blk (w.setCell ⟨b, i, none⟩ u) g t cs := h.far hn u
theorem new_cell (W : World) (t : TypeId) (cs : Array Value) {g : Nat} (hg : g = W.heap.size) {i : Nat} {v : Value} (hv : cs[i]? = some v) : (W.alloc (.cells cs t)).cell? ⟨g, i, none⟩ = some v := by
  rw [(Blk.new' W t cs hg).cell]; exact hv
theorem old_cell (W : World) (o : Obj) {p : Addr} {v : Value} (h : W.cell? p = some v) : (W.alloc o).cell? p = some v := Ext.cellv ((Ext.refl W).alloc o) h
theorem keep5 {W : World} (o : Obj) {p q r s u : Addr} {a b c d e : Value} (h : W.cell? p = some a ∧ W.cell? q = some b ∧ W.cell? r = some c ∧ W.cell? s = some d ∧ W.cell? u = some e) : (W.alloc o).cell? p = some a ∧ (W.alloc o).cell? q = some b ∧ (W.alloc o).cell? r = some c ∧ (W.alloc o).cell? s = some d ∧ (W.alloc o).cell? u = some e :=
  ⟨old_cell _ _ h.1, old_cell _ _ h.2.1, old_cell _ _ h.2.2.1, old_cell _ _ h.2.2.2.1, old_cell _ _ h.2.2.2.2⟩
theorem keepc3 {W : World} (o : Obj) {p q r : Addr} {a b c : Value} (h : W.cell? p = some a ∧ W.cell? q = some b ∧ W.cell? r = some c) : (W.alloc o).cell? p = some a ∧ (W.alloc o).cell? q = some b ∧ (W.alloc o).cell? r = some c :=
  ⟨old_cell _ _ h.1, old_cell _ _ h.2.1, old_cell _ _ h.2.2⟩
theorem keepS {W : World} (o : Obj) {p q r : Addr} {a b : Value} (h : W.cell? p = some a ∧ W.cell? q = some b ∧ W.cell? r = some (held W r) ∧ W.frozen? r = false) : (W.alloc o).cell? p = some a ∧ (W.alloc o).cell? q = some b ∧ (W.alloc o).cell? r = some (held (W.alloc o) r) ∧ (W.alloc o).frozen? r = false :=
  ⟨old_cell _ _ h.1, old_cell _ _ h.2.1, cell_held (old_cell _ _ h.2.2.1), Ext.frozenv ((Ext.refl W).alloc o) h.2.2.2 (lt_of_cell h.2.2.1)⟩
theorem keepT {W : World} (u : Value) {g i j k : Nat} {a b : Value} (hi : i ≠ k) (hj : j ≠ k) (h : W.cell? ⟨g, i, none⟩ = some a ∧ W.cell? ⟨g, j, none⟩ = some b ∧ W.cell? ⟨g, k, none⟩ = some (held W ⟨g, k, none⟩) ∧ W.frozen? ⟨g, k, none⟩ = false) :
    (W.setCell ⟨g, k, none⟩ u).cell? ⟨g, i, none⟩ = some a ∧ (W.setCell ⟨g, k, none⟩ u).cell? ⟨g, j, none⟩ = some b ∧ (W.setCell ⟨g, k, none⟩ u).cell? ⟨g, k, none⟩ = some (held (W.setCell ⟨g, k, none⟩ u) ⟨g, k, none⟩) ∧ (W.setCell ⟨g, k, none⟩ u).frozen? ⟨g, k, none⟩ = false := by
  refine ⟨?_, ?_, cell_held (World.cell?_setCell_same' _ _ _ (by rw [h.2.2.1]; rfl)), by rw [World.frozen?_setCell]; exact h.2.2.2⟩
  · rw [World.cell?_setCell_other (h := by intro e; cases e; exact hi rfl)]; exact h.1
  · rw [World.cell?_setCell_other (h := by intro e; cases e; exact hj rfl)]; exact h.2.1
section
variable {P : Program}
theorem run_index_arr {T elem : TypeId} {len : Nat} (hu : P.underlying T = some (.array len elem)) (hp : P.plainKey elem = true) {inf : TypeInfo} (hi : P.info? elem = some inf) (h1 : P.cellsOf elem = 1)
    {cs : Array Value} {k : Nat} (hk : k < len) {v : Value} (hv : cs[k]? = some v) (w : World) : (Instr.index T (.agg cs) (.int .i64 (k : Int))).run P w = .ok v w := by
  have h2 : (0 : Int) ≤ (k : Int) ∧ (k : Int) < (len : Int) := by omega
  simp [Instr.index, asIntOf, run_underlying hu, run_sizeOf (w := w) hi, h1, hk, run_part_plain w hp hv]
theorem wpList_loadR {ops : Array Oper} {rest : List Oper} {o : Oper} {a : Act} {w : World} {Q : Exit → Act → World → Prop} (hgd : o.guard = none) {ty : TypeId} {x : Operand} (ho : o.op = .load ty x) {n : Nat} (W : Wide P ty n)
    {g : Nat} (hx : a.eval x = .pointer (some ⟨g, 0, none⟩)) {cs : List Value} {arr : Array Value} (hB : w.rangeAt g 0 cs) (hn : cs.length = n) (ha : cs.toArray = arr) (h : wpList P ops Q rest (a.put o.dst (.agg arr)) w) : wpList P ops Q (o :: rest) a w :=
  wpList_plain hgd fun _ hK => by
    obtain ⟨d, hu, hd⟩ := W.und
    refine wp_load_mid ty x ho g 0 hx cs d hB hu hd (by rw [hn]; exact W.info) ?_
    rw [ha]
    exact hK _ _ h
theorem loadVar_blk {w : World} {b : Nat} {t : TypeId} {cs : Array Value} (hB : Blk w b t cs) {T : TypeId} {n : Nat} (W : Wide P T n) (hn : cs.size = n) : (loadVar T ⟨b, 0, none⟩).run P w = .ok (.agg cs) w := by
  obtain ⟨d, hu, hd⟩ := W.und
  have := run_loadVar_mid (P := P) w b 0 T cs.toList d hB.range hu hd (by rw [Array.length_toList, hn]; exact W.info)
  rw [Array.toArray_toList] at this
  exact this
theorem results_blk {fn : Func} {i : Tmp} {T : TypeId} {n : Nat} (W : Wide P T n) (hf : fn.results = #[.cell i T]) {tmps : Array Value} {w : World} {b : Nat} {t : TypeId} {cs : Array Value} (hB : Blk w b t cs) (hn : cs.size = n) (ei : tmps.getD i undef = .pointer (some ⟨b, 0, none⟩)) :
    (results fn tmps).run P w = .ok (.agg cs) w := by
  have h1 := loadVar_blk hB W hn
  simp only [Array.getD_eq_getD_getElem?] at ei
  simp [results, hf, ei, asAddr, h1]
theorem Reads.sub {w : World} {v : Value} {n : Nat} {xs : List Value} (h : Reads w 1 v n xs) (i m : Nat) (hi : i + m ≤ n) (hm : 0 < m) :
    ∃ b o c, v = .slice (some ⟨b, o, none⟩) n c ∧ n ≤ c ∧ c ≤ maxLen ∧ b < w.heap.size ∧ Reads w 1 (.slice (some ⟨b, o + i, none⟩) m (c - i)) m ((xs.drop i).take m) := by
  obtain ⟨b, o, c, u, rfl, h1, h2, h3, _, _⟩ := h.at1 (k := 0) (by omega)
  have hl := h.1
  refine ⟨b, o, c, rfl, h1, h2, h3, by simp; omega, _, _, rfl, by omega, by omega, fun _ => ⟨b, o + i, rfl, fun j u hu => ?_⟩⟩
  have hj : j < m := by
    rcases Nat.lt_or_ge j m with h | h
    · exact h
    · rw [List.getElem?_eq_none (by simp; omega)] at hu; cases hu
  rw [List.getElem?_take, if_pos hj, List.getElem?_drop] at hu
  obtain ⟨_, A, c', e, _, _, h4⟩ := h
  cases e
  obtain ⟨b', o', e, hc⟩ := h4 (by omega)
  cases e
  rw [Nat.add_assoc]
  exact hc _ _ hu
theorem Reads.cap {w : World} {A : Option Addr} {n c c' : Nat} {xs : List Value} (h : Reads w 1 (.slice A n c) n xs) (h1 : n ≤ c') (h2 : c' ≤ maxLen) : Reads w 1 (.slice A n c') n xs := by
  obtain ⟨hl, A', c'', e, _, _, h4⟩ := h
  cases e
  exact ⟨hl, A, c', rfl, h1, h2, h4⟩
theorem Reads.of_blk {w : World} {g : Nat} {t : TypeId} {cs : Array Value} (h : Blk w g t cs) {i n c : Nat} (hi : i + n ≤ cs.size) (hc : n ≤ c) (hm : c ≤ maxLen) :
    Reads w 1 (.slice (some ⟨g, i, none⟩) n c) n ((cs.toList.drop i).take n) := by
  refine ⟨by simp; omega, _, _, rfl, hc, hm, fun _ => ⟨g, i, rfl, fun j u hu => ?_⟩⟩
  have hj : j < n := by
    rcases Nat.lt_or_ge j n with h | h
    · exact h
    · rw [List.getElem?_eq_none (by simp; omega)] at hu; cases hu
  rw [List.getElem?_take, if_pos hj, List.getElem?_drop] at hu
  rw [h.cell, ← hu]
  simp
end
end Go.Proofs.YtoefmncdloffaaaDoor


namespace Go.Proofs.YtoefmncdloffaaaDoor
open Go.RowKit
def wordsTo (n : Nat) (l : List UInt32) : Array Value := (l.map w32 ++ List.replicate (n - l.length) (Value.int .u32 0)).toArray
theorem wordsTo_get {n : Nat} {l : List UInt32} {i : Nat} (h : i < l.length) : (wordsTo n l)[i]? = some (.int .u32 ((l.getD i 0).toNat : Int)) := by
  unfold wordsTo
  rw [List.getElem?_toArray, List.getElem?_append_left (by simpa using h), List.getElem?_map, List.getD_eq_getElem?_getD, List.getElem?_eq_getElem h]
  rfl
theorem wordsTo_set {n : Nat} {l : List UInt32} (x : UInt32) (h : l.length < n) : (wordsTo n l).setIfInBounds l.length (.int .u32 (x.toNat : Int)) = wordsTo n (l ++ [x]) := by
  unfold wordsTo
  rw [show n - l.length = (n - (l ++ [x]).length) + 1 from by simp; omega, List.replicate_succ]
  simp [w32]
theorem wordsTo_set' {n k : Nat} {l : List UInt32} (x : UInt32) (hl : l.length = k) (h : k < n) : (wordsTo n l).setIfInBounds k (.int .u32 (x.toNat : Int)) = wordsTo n (l ++ [x]) := by subst hl; exact wordsTo_set x h
theorem wordsTo_zero (n : Nat) : wordsTo n [] = Array.replicate n (Value.int .u32 0) := by
  unfold wordsTo
  simp
theorem wordsTo_size {n : Nat} {l : List UInt32} (h : l.length ≤ n) : (wordsTo n l).size = n := by
  unfold wordsTo
  simp
  omega
theorem arr64_wide : Wide Tryd.prog 213 64 := ⟨⟨_, Tryd.underlying213, rfl⟩, by kernel_rfl⟩
theorem state_wide : Wide Tryd.prog 191 8 := ⟨⟨_, Tryd.underlying191, rfl⟩, by kernel_rfl⟩
structure ShaMem (w : World) : Prop where
  k : w.rangeAt 1 0 (shaK.map w32)
  h : w.rangeAt 0 0 (shaH0.map w32)
theorem rangeAt_chg {S : Nat → Prop} {w w' : World} {b : Nat} {cs : List Value} (h : w.rangeAt b 0 cs) (hc : Chg S w w') (hn : ¬ S b) : w'.rangeAt b 0 cs := fun j v hj => Chg.cellv hc (h j v hj) hn
theorem ShaMem.chg {S : Nat → Prop} {w w' : World} (h : ShaMem w) (hc : Chg S w w') (h1 : ¬ S 1) (h2 : ¬ S 0) : ShaMem w' := ⟨rangeAt_chg h.k hc h1, rangeAt_chg h.h hc h2⟩
theorem ShaMem.ext {w w' : World} (h : ShaMem w) (hc : Ext w w') : ShaMem w' := h.chg hc (fun h => h) (fun h => h)
theorem rotr2 (x : UInt32) (n0 n1 : Nat) (g : Nat) (w : World) (h0 : w.cell? ⟨g, 0, none⟩ = some (.int .i64 (n0 : Int))) (h1 : w.cell? ⟨g, 1, none⟩ = some (.int .i64 (n1 : Int))) (hn : (0 < n0 ∧ n0 < 32) ∧ 0 < n1 ∧ n1 < 32) :
    Calls Tryd.prog 162 #[.int .u32 (x.toNat : Int), .slice (some ⟨g, 0, none⟩) 2 2] w fun e w' => e = .returned (.int .u32 ((rotrW x (UInt32.ofNat n0) ^^^ rotrW x (UInt32.ofNat n1)).toNat : Int)) ∧ w = w' := by
  have := rotr_any x [n0, n1] (.slice (some ⟨g, 0, none⟩) 2 2) w ⟨rfl, _, _, rfl, Nat.le_refl _, by unfold maxLen; omega, fun _ => ⟨g, 0, rfl, fun j u hu => ?_⟩⟩ (by simp; omega)
  · simpa [rotXor] using this
  · match j, hu with
    | 0, hu => cases hu; exact h0
    | 1, hu => cases hu; exact h1
theorem rotr3 (x : UInt32) (n0 n1 n2 : Nat) (g : Nat) (w : World) (h0 : w.cell? ⟨g, 0, none⟩ = some (.int .i64 (n0 : Int))) (h1 : w.cell? ⟨g, 1, none⟩ = some (.int .i64 (n1 : Int))) (h2 : w.cell? ⟨g, 2, none⟩ = some (.int .i64 (n2 : Int))) (hn : (0 < n0 ∧ n0 < 32) ∧ (0 < n1 ∧ n1 < 32) ∧ 0 < n2 ∧ n2 < 32) :
    Calls Tryd.prog 162 #[.int .u32 (x.toNat : Int), .slice (some ⟨g, 0, none⟩) 3 3] w fun e w' => e = .returned (.int .u32 ((rotrW x (UInt32.ofNat n0) ^^^ rotrW x (UInt32.ofNat n1) ^^^ rotrW x (UInt32.ofNat n2)).toNat : Int)) ∧ w = w' := by
  have := rotr_any x [n0, n1, n2] (.slice (some ⟨g, 0, none⟩) 3 3) w ⟨rfl, _, _, rfl, Nat.le_refl _, by unfold maxLen; omega, fun _ => ⟨g, 0, rfl, fun j u hu => ?_⟩⟩ (by simp; omega)
  · simpa [rotXor] using this
  · match j, hu with
    | 0, hu => cases hu; exact h0
    | 1, hu => cases hu; exact h1
    | 2, hu => cases hu; exact h2
def rr2 (x a b : UInt32) : UInt32 := rotrW x a ^^^ rotrW x b
def rr3 (x a b c : UInt32) : UInt32 := rotrW x a ^^^ rotrW x b ^^^ rotrW x c
theorem rotr_7_18 (x : UInt32) (g : Nat) (w : World) (h0 : w.cell? ⟨g, 0, none⟩ = some (.int .i64 7)) (h1 : w.cell? ⟨g, 1, none⟩ = some (.int .i64 18)) :
    Calls Tryd.prog 162 #[.int .u32 (x.toNat : Int), .slice (some ⟨g, 0, none⟩) 2 2] w fun e w' => e = .returned (.int .u32 ((rr2 x 7 18).toNat : Int)) ∧ w = w' :=
  rotr2 x 7 18 g w h0 h1 (by omega)
theorem rotr_17_19 (x : UInt32) (g : Nat) (w : World) (h0 : w.cell? ⟨g, 0, none⟩ = some (.int .i64 17)) (h1 : w.cell? ⟨g, 1, none⟩ = some (.int .i64 19)) :
    Calls Tryd.prog 162 #[.int .u32 (x.toNat : Int), .slice (some ⟨g, 0, none⟩) 2 2] w fun e w' => e = .returned (.int .u32 ((rr2 x 17 19).toNat : Int)) ∧ w = w' :=
  rotr2 x 17 19 g w h0 h1 (by omega)
theorem rotr_6_11_25 (x : UInt32) (g : Nat) (w : World) (h0 : w.cell? ⟨g, 0, none⟩ = some (.int .i64 6)) (h1 : w.cell? ⟨g, 1, none⟩ = some (.int .i64 11)) (h2 : w.cell? ⟨g, 2, none⟩ = some (.int .i64 25)) :
    Calls Tryd.prog 162 #[.int .u32 (x.toNat : Int), .slice (some ⟨g, 0, none⟩) 3 3] w fun e w' => e = .returned (.int .u32 ((rr3 x 6 11 25).toNat : Int)) ∧ w = w' :=
  rotr3 x 6 11 25 g w h0 h1 h2 (by omega)
theorem rotr_2_13_22 (x : UInt32) (g : Nat) (w : World) (h0 : w.cell? ⟨g, 0, none⟩ = some (.int .i64 2)) (h1 : w.cell? ⟨g, 1, none⟩ = some (.int .i64 13)) (h2 : w.cell? ⟨g, 2, none⟩ = some (.int .i64 22)) :
    Calls Tryd.prog 162 #[.int .u32 (x.toNat : Int), .slice (some ⟨g, 0, none⟩) 3 3] w fun e w' => e = .returned (.int .u32 ((rr3 x 2 13 22).toNat : Int)) ∧ w = w' :=
  rotr3 x 2 13 22 g w h0 h1 h2 (by omega)
theorem sched_val (x0 r1 x1 x9 r14 x14 : UInt32) : ((((x0.toNat : Int) + bits BinOp.xor IntKind.u32 (r1.toNat : Int) ((x1.toNat : Int) / (8 : Int))) % (4294967296 : Int) + (x9.toNat : Int)) % (4294967296 : Int) + bits BinOp.xor IntKind.u32 (r14.toNat : Int) ((x14.toNat : Int) / (1024 : Int))) % (4294967296 : Int) =
    ((x0 + (r1 ^^^ (x1 >>> 3)) + x9 + (r14 ^^^ (x14 >>> 10))).toNat : Int) := by
  have h3 := shr32 x1 3 (by omega)
  have h10 := shr32 x14 10 (by omega)
  rw [show (8 : Int) = 2 ^ 3 from rfl, show (1024 : Int) = 2 ^ 10 from rfl, h3, h10, xor32, xor32, add32, add32, add32]
  rfl
theorem t_val (x7 r x4 x5 x6 xk xw : UInt32) : IntKind.u32.wrap (IntKind.u32.wrap (IntKind.u32.wrap (IntKind.u32.wrap ((x7.toNat : Int) + (r.toNat : Int)) + bits BinOp.xor IntKind.u32 (bits BinOp.and IntKind.u32 (x4.toNat : Int) (x5.toNat : Int)) (bits BinOp.and IntKind.u32 (bits BinOp.xor IntKind.u32 IntKind.u32.max (x4.toNat : Int)) (x6.toNat : Int))) + (xk.toNat : Int)) + (xw.toNat : Int)) =
    ((x7 + r + ((x4 &&& x5) ^^^ (~~~x4 &&& x6)) + xk + xw).toNat : Int) := by
  rw [not32, and32, and32, xor32, addW, addW, addW, addW]
theorem u_val (r x0 x1 x2 : UInt32) : IntKind.u32.wrap ((r.toNat : Int) + bits BinOp.xor IntKind.u32 (bits BinOp.xor IntKind.u32 (bits BinOp.and IntKind.u32 (x0.toNat : Int) (x1.toNat : Int)) (bits BinOp.and IntKind.u32 (x0.toNat : Int) (x2.toNat : Int))) (bits BinOp.and IntKind.u32 (x1.toNat : Int) (x2.toNat : Int))) =
    ((r + (((x0 &&& x1) ^^^ (x0 &&& x2)) ^^^ (x1 &&& x2))).toNat : Int) := by
  rw [and32, and32, and32, xor32, xor32, addW]
def SchInv (w : World) (hc : Array Value) (bs : List UInt8) (k : Nat) (wr : World) : Prop :=
  Blk wr w.heap.size 191 hc ∧ (∃ o8, Blk wr (w.heap.size + 1) 191 o8 ∧ o8.size = 8) ∧ Blk wr (w.heap.size + 1 + 1) 213 (wordsTo 64 (schedAt bs k)) ∧ Ext w wr
theorem SchInv.step {w wr wr' : World} {hc : Array Value} {bs : List UInt8} {k : Nat} (h : SchInv w hc bs k wr) (hE : Ext wr wr') (hk : k < 64) {x : UInt32} (hx : (if k < 16 then beWord ((bs.drop (4 * k)).take 4) else schedNext (schedAt bs k)) = x) :
    SchInv w hc bs (k + 1) (wr'.setCell ⟨w.heap.size + 1 + 1, k, none⟩ (.int .u32 (x.toNat : Int))) := by
  obtain ⟨q1, ⟨o8, q5, q6⟩, q3, q4⟩ := h
  refine ⟨(q1.ext hE).far' (by omega) _ _, ⟨o8, (q5.ext hE).far' (by omega) _ _, q6⟩, ?_, (q4.trans hE).setCell (by simp; omega) _⟩
  have := (q3.ext hE).set_ k (.int .u32 (x.toNat : Int))
  rw [wordsTo_set' x (schedAt_length bs k) hk] at this
  rw [schedAt, hx]
  exact this
def RndInv (w : World) (hc : Array Value) (h : List UInt32) (bs : List UInt8) (g k : Nat) (wr : World) : Prop :=
  Blk wr w.heap.size 191 hc ∧ (∃ o8, Blk wr (w.heap.size + 1) 191 o8 ∧ o8.size = 8) ∧ Blk wr (w.heap.size + 1 + 1) 213 (wordsTo 64 (sched bs)) ∧ Blk wr g 191 (wordsTo 8 (roundsAt bs h k)) ∧ Ext w wr ∧ w.heap.size + 1 + 1 < g
theorem wordsTo_all {n : Nat} {l : List UInt32} (h : l.length = n) : wordsTo n l = (l.map w32).toArray := by
  unfold wordsTo
  rw [h, Nat.sub_self]
  simp
theorem wordsK {k : Nat} (h : k < 64) : ((shaK.map w32).toArray)[k]? = some (.int .u32 ((shaK.getD k 0).toNat : Int)) := by
  have := wordsTo_get (n := 64) (l := shaK) (i := k) h
  rwa [wordsTo_all (show shaK.length = 64 from rfl)] at this
theorem words_one (l : List UInt32) : ((l.map w32).toArray).all (·.oneCell') = true := by
  rw [← Array.all_toList]
  simp [w32]
  intro x _
  rfl
def finAt (R h : List UInt32) (k : Nat) : List UInt32 := (List.zipWith (· + ·) R h).take k ++ R.drop k
def FinInv (w : World) (hc : Array Value) (h R : List UInt32) (g k : Nat) (wr : World) : Prop :=
  Blk wr w.heap.size 191 hc ∧ (∃ o8, Blk wr (w.heap.size + 1) 191 o8 ∧ o8.size = 8) ∧ Blk wr g 191 (wordsTo 8 (finAt R h k)) ∧ Ext w wr ∧ w.heap.size + 1 + 1 < g
theorem finAt_length {R h : List UInt32} (hR : R.length = 8) (hh : h.length = 8) {k : Nat} (hk : k ≤ 8) : (finAt R h k).length = 8 := by
  unfold finAt; simp; omega
theorem FinInv.start {w wr : World} {hc : Array Value} {h : List UInt32} {bs : List UInt8} {g : Nat} (hi : RndInv w hc h bs g 64 wr) : FinInv w hc h (roundsAt bs h 64) g 0 wr := by
  obtain ⟨q1, q2, _, q4, q5, q6⟩ := hi
  exact ⟨q1, q2, q4, q5, q6⟩
section
variable {w wr : World} {hc : Array Value} {h R : List UInt32} {g k : Nat}
theorem FinInv.new (hi : FinInv w hc h R g k wr) (hR : R.length = 8) (hh : h.length = 8) (hk : k < 8) : wr.cell? ⟨g, k, none⟩ = some (.int .u32 ((R.getD k 0).toNat : Int)) := by
  rw [hi.2.2.1.cell, wordsTo_get (by rw [finAt_length hR hh (by omega)]; exact hk)]
  have : (finAt R h k).getD k 0 = R.getD k 0 := by
    unfold finAt
    rw [List.getD_eq_getElem?_getD, List.getD_eq_getElem?_getD, List.getElem?_append_right (by simp; omega)]
    simp
    rw [show k + (k - min k (min R.length h.length)) = k from by omega]
  rw [this]
theorem FinInv.old (hi : FinInv w hc h R g k wr) (hC : (h.map w32).toArray = hc) (hh : h.length = 8) (hk : k < 8) : wr.cell? ⟨w.heap.size, k, none⟩ = some (.int .u32 ((h.getD k 0).toNat : Int)) := by
  rw [hi.1.cell, ← hC, ← wordsTo_all hh, wordsTo_get (by omega)]
theorem FinInv.step (hi : FinInv w hc h R g k wr) {wr' : World} (hE : Ext wr wr') (hR : R.length = 8) (hh : h.length = 8) (hk : k < 8) : FinInv w hc h R g (k + 1) (wr'.setCell ⟨g, k, none⟩ (.int .u32 ((R.getD k 0 + h.getD k 0).toNat : Int))) := by
  obtain ⟨q1, ⟨o8, q5, q6⟩, q3, q4, q7⟩ := hi
  refine ⟨(q1.ext hE).far' (by omega) _ _, ⟨o8, (q5.ext hE).far' (by omega) _ _, q6⟩, ?_, (q4.trans hE).setCell (by simp; omega) _, q7⟩
  have := (q3.ext hE).set_ k (.int .u32 ((R.getD k 0 + h.getD k 0).toNat : Int))
  have e : (wordsTo 8 (finAt R h k)).setIfInBounds k (.int .u32 ((R.getD k 0 + h.getD k 0).toNat : Int)) = wordsTo 8 (finAt R h (k + 1)) := by
    rw [wordsTo_all (finAt_length hR hh (by omega)), wordsTo_all (finAt_length hR hh (by omega))]
    apply Array.ext'
    rw [Array.toList_setIfInBounds]
    dsimp only
    have e1 : finAt R h (k + 1) = (finAt R h k).set k (R.getD k 0 + h.getD k 0) := by
      unfold finAt
      rw [take_step _ k (by simp; omega), List.set_append_right _ _ (by simp; omega)]
      rw [show k - ((List.zipWith (· + ·) R h).take k).length = 0 from by simp; omega]
      rw [List.drop_eq_getElem_cons (show k < R.length by omega)]
      rw [List.set_cons_zero, List.append_assoc, List.getD_eq_getElem?_getD, List.getD_eq_getElem?_getD, List.getElem?_eq_getElem (show k < R.length by omega), List.getElem?_eq_getElem (show k < h.length by omega), List.getElem_zipWith]
      rfl
    rw [e1, List.map_set]
    rfl
  rw [e] at this
  exact this
theorem FinInv.drew (hi : FinInv w hc h R g k wr) : FinInv w hc h R g k wr.drew := by
  obtain ⟨q1, ⟨o8, q5, q6⟩, q3, q4, q7⟩ := hi
  exact ⟨q1.drew, ⟨o8, q5.drew, q6⟩, q3.drew, q4.drew, q7⟩
theorem finAt_end (hR : R.length = 8) (hh : h.length = 8) : finAt R h 8 = List.zipWith (· + ·) R h := by
  unfold finAt
  rw [List.take_of_length_le (by simp; omega), List.drop_of_length_le (by omega), List.append_nil]
end
end Go.Proofs.YtoefmncdloffaaaDoor


namespace Go.Proofs.YtoefmncdloffaaaDoor
open Go.RowKit
theorem Reads.at_ {w : World} {b o n c : Nat} {xs : List Value} (h : Reads w 1 (.slice (some ⟨b, o, none⟩) n c) n xs) {j : Nat} {u : Value} (hj : xs[j]? = some u) : w.cell? ⟨b, o + j, none⟩ = some u := by
  obtain ⟨hl, A, c', e, _, _, hc⟩ := h
  have hjl : j < xs.length := by
    rcases Nat.lt_or_ge j xs.length with h | h
    · exact h
    · rw [List.getElem?_eq_none h] at hj; cases hj
  obtain ⟨b', o', e', hcc⟩ := hc (by omega)
  cases e
  cases e'
  exact hcc j u hj
theorem Reads.byteAt {w : World} {b o n c : Nat} {l : List UInt8} (h : Reads w 1 (.slice (some ⟨b, o, none⟩) n c) n (l.map u8v)) {j : Nat} (hj : j < l.length) : w.cell? ⟨b, o + j, none⟩ = some (.int .u8 ((l.getD j 0).toNat : Int)) :=
  h.at_ (by rw [List.getElem?_map, List.getD_eq_getElem?_getD, List.getElem?_eq_getElem hj]; rfl)
theorem Reads.wordAt {w : World} {b o n c : Nat} {l : List UInt32} (h : Reads w 1 (.slice (some ⟨b, o, none⟩) n c) n (l.map w32)) {j : Nat} (hj : j < l.length) : w.cell? ⟨b, o + j, none⟩ = some (.int .u32 ((l.getD j 0).toNat : Int)) :=
  h.at_ (by rw [List.getElem?_map, List.getD_eq_getElem?_getD, List.getElem?_eq_getElem hj]; rfl)
structure GB (w0 : World) (B : Nat) (v : Value) (n : Nat) (l : List UInt8) (wr : World) : Prop where
  own : wr.ownsRow B 5 1 v n (l.map u8v)
  ext : Ext w0 wr
  base : w0.heap.size ≤ B
  room : B ≤ wr.heap.size
theorem GB.nil {w0 wr : World} {B : Nat} (hE : Ext w0 wr) (hB : w0.heap.size ≤ B) (hR : B ≤ wr.heap.size) : GB w0 B (.slice none 0 0) 0 [] wr := ⟨World.ownsRow_nil _ _ _ _, hE, hB, hR⟩
theorem GB.len {w0 wr : World} {B n : Nat} {v : Value} {l : List UInt8} (h : GB w0 B v n l wr) : l.length = n := by have := h.own.1; simpa using this
theorem GB.to {w0 wr w1 : World} {B n : Nat} {v : Value} {l : List UInt8} (h : GB w0 B v n l wr) (hE : Ext wr w1) : GB w0 B v n l w1 := ⟨ownsRow_ext h.own hE, h.ext.trans hE, h.base, Nat.le_trans h.room hE.size'⟩
theorem GB.step {w0 wr w1 w2 : World} {B n n' : Nat} {v v' : Value} {l l' : List UInt8} (h : GB w0 B v n l wr) (hE : Ext wr w1) (hc : Chg (fun k => v.ownBlock = some k) w1 w2) (ho : w2.ownsRow B 5 1 v' n' (l'.map u8v)) : GB w0 B v' n' l' w2 :=
  ⟨ho, (h.ext.trans hE).trans' hc (fun _ _ h => h) (fun i hi e => by have := (h.own.lt i e).1; have := h.base; omega), h.base, Nat.le_trans h.room (Nat.le_trans hE.size' hc.size)⟩
theorem GB.blk {w0 wr w1 w2 : World} {B n : Nat} {v : Value} {l : List UInt8} (h : GB w0 B v n l wr) (hE : Ext wr w1) (hc : Chg (fun k => v.ownBlock = some k) w1 w2) {g : Nat} {t : TypeId} {cs : Array Value} (hb : Blk wr g t cs) (hg : g < B) : Blk w2 g t cs :=
  (hb.ext hE).chg hc (fun e => by have := (h.own.lt g e).1; omega)
theorem GB.reads {w0 wr : World} {B n : Nat} {v : Value} {l : List UInt8} (h : GB w0 B v n l wr) : Reads wr 1 v n (l.map u8v) := Reads.of_own h.own
def bytesTo (n : Nat) (l : List UInt8) : Array Value := (l.map u8v ++ List.replicate (n - l.length) (Value.int .u8 0)).toArray
theorem bytesTo_zero_at {n : Nat} {l : List UInt8} {i : Nat} (h : l.length ≤ i) (hi : i < n) : (bytesTo n l)[i]? = some (.int .u8 0) := by
  unfold bytesTo
  rw [List.getElem?_toArray, List.getElem?_append_right (by simpa using h), List.getElem?_replicate, if_pos (by simp; omega)]
theorem bytesTo_set {n k : Nat} {l : List UInt8} (x : UInt8) (hl : l.length = k) (h : k < n) : (bytesTo n l).setIfInBounds k (.int .u8 (x.toNat : Int)) = bytesTo n (l ++ [x]) := by
  subst hl
  unfold bytesTo
  rw [show n - l.length = (n - (l ++ [x]).length) + 1 from by simp; omega, List.replicate_succ]
  simp [u8v]
theorem bytesTo_nil (n : Nat) : bytesTo n [] = Array.replicate n (Value.int .u8 0) := by
  unfold bytesTo
  simp
theorem bytesTo_size {n : Nat} {l : List UInt8} (h : l.length ≤ n) : (bytesTo n l).size = n := by
  unfold bytesTo
  simp
  omega
theorem bytesTo_all {n : Nat} {l : List UInt8} (h : l.length = n) : bytesTo n l = (l.map u8v).toArray := by
  unfold bytesTo
  rw [h, Nat.sub_self]
  simp
end Go.Proofs.YtoefmncdloffaaaDoor


namespace Go.Proofs.YtoefmncdloffaaaDoor
open Go.RowKit
def strOf (l : List UInt8) : ByteArray := ⟨l.toArray⟩
theorem strOf_toList (s : ByteArray) : strOf s.data.toList = s := by cases s; simp [strOf]
theorem strOf_list (l : List UInt8) : (strOf l).data.toList = l := by simp [strOf]
theorem strOf_size (l : List UInt8) : (strOf l).size = l.length := by simp [strOf, ByteArray.size]
def byteV (b : UInt8) : Value := .int .u8 (b.toNat : Int)
section
variable {P : Program}
theorem run_str_of {src dst e : TypeId} (hs : P.underlying src = some (.slice e)) (he : P.underlying e = some (.int .u8)) (hd : P.underlying dst = some .string) {w : World} {v : Value} {n : Nat} {l : List UInt8} (hr : Reads w 1 v n (l.map byteV)) :
    (convert src dst v).run P w = .ok (.string (strOf l)) w := by
  obtain ⟨hl, A, c, rfl, _, _, hc⟩ := hr
  rw [List.length_map, Nat.mul_one] at hl
  subst hl
  cases A with
  | none =>
    have : l = [] := by
      cases l with
      | nil => rfl
      | cons x l => obtain ⟨b, o, e, _⟩ := hc (by simp); cases e
    subst this
    exact run_convert_bytes_nil w src e hs he _ c dst hd
  | some a =>
    refine run_convert_bytes_back w src dst e a c l hs he hd fun j hj => ?_
    obtain ⟨b, o, e2, hcc⟩ := hc (by omega)
    cases e2
    rw [add_lit]
    exact hcc j _ (by rw [List.getElem?_map, List.getElem?_eq_getElem hj]; rfl)
theorem run_bytes_of {src dst e : TypeId} (hs : P.underlying src = some .string) (hd : P.underlying dst = some (.slice e)) (he : P.underlying e = some (.int .u8)) (w : World) (s : ByteArray) (hm : s.size ≤ maxLen) :
    ∃ c w', (convert src dst (.string s)).run P w = .ok (.slice (some ⟨w.heap.size, 0, none⟩) s.size c) w' ∧ Reads w' 1 (.slice (some ⟨w.heap.size, 0, none⟩) s.size c) s.size (s.data.toList.map byteV) ∧ Ext w w' ∧ (∀ i, i < s.size → w'.frozen? ⟨w.heap.size, i, none⟩ = false) := by
  refine ⟨_, _, run_bytes_of_string w src dst e s hs hd he, ⟨by rw [List.length_map, Array.length_toList, Nat.mul_one]; rfl, _, _, rfl, ?_, grownCap_le_maxLen w s.size 0 e hm, fun _ => ⟨_, _, rfl, fun j u hu => ?_⟩⟩, ((Ext.refl w).drew).alloc _, fun i hi => ?_⟩
  · simpa using grownCap_ge w s.size 0 e
  · have hj : j < s.data.size := by
      rcases Nat.lt_or_ge j s.data.size with h | h
      · exact h
      · rw [List.getElem?_eq_none (by simpa using h)] at hu; cases hu
    have h1 := World.cell?_alloc_mark w.drew (bytesRow s (grownCap w s.size 0 e)) e ((bytesRow s (grownCap w s.size 0 e)).size, (bytesRow s (grownCap w s.size 0 e)).size + 1) j
    rw [Nat.zero_add]
    refine Eq.trans h1 ?_
    rw [bytesRow_at s _ j hj, ← hu, List.getElem?_map, Array.getElem?_toList, Array.getElem?_eq_getElem hj]
    rfl
  · have hsz : (bytesRow s (grownCap w s.size 0 e)).size ≥ s.size := by unfold bytesRow; rw [Array.size_append, Array.size_map]; exact Nat.le_add_right _ _
    show (w.drew.alloc (.cells (bytesRow s (grownCap w s.size 0 e)) e ((bytesRow s (grownCap w s.size 0 e)).size, (bytesRow s (grownCap w s.size 0 e)).size + 1))).frozen? ⟨w.drew.heap.size, i, none⟩ = false
    have : (w.drew.alloc (.cells (bytesRow s (grownCap w s.size 0 e)) e ((bytesRow s (grownCap w s.size 0 e)).size, (bytesRow s (grownCap w s.size 0 e)).size + 1))).heap[w.drew.heap.size]? = some (.cells (bytesRow s (grownCap w s.size 0 e)) e ((bytesRow s (grownCap w s.size 0 e)).size, (bytesRow s (grownCap w s.size 0 e)).size + 1)) := heap_alloc_new _ _
    unfold World.frozen?
    rw [this]
    simp
    omega
theorem wpList_bytesOf {ops : Array Oper} {rest : List Oper} {o : Oper} {a : Act} {w : World} {Q : Exit → Act → World → Prop} (hgd : o.guard = none) {src dst e : TypeId} {x : Operand} (ho : o.op = .convert src dst x)
    (hs : P.underlying src = some .string) (hd : P.underlying dst = some (.slice e)) (he : P.underlying e = some (.int .u8)) {s : ByteArray} (hx : a.eval x = .string s) (hm : s.size ≤ maxLen)
    (h : ∀ c w', Reads w' 1 (.slice (some ⟨w.heap.size, 0, none⟩) s.size c) s.size (s.data.toList.map byteV) → Ext w w' → (∀ i, i < s.size → w'.frozen? ⟨w.heap.size, i, none⟩ = false) → wpList P ops Q rest (a.put o.dst (.slice (some ⟨w.heap.size, 0, none⟩) s.size c)) w') : wpList P ops Q (o :: rest) a w :=
  wpList_plain hgd fun _ hK => by
    obtain ⟨c, w', hrun, h1, h2, h3⟩ := run_bytes_of (P := P) hs hd he w s hm
    unfold Oper.wp execOp
    simp only [ho, hx, hrun, Sem.run_bind, Sem.run_pure, Result.andThen_ok]
    exact hK _ _ (h c w' h1 h2 h3)
theorem wpList_strOf {ops : Array Oper} {rest : List Oper} {o : Oper} {a : Act} {w : World} {Q : Exit → Act → World → Prop} (hgd : o.guard = none) {src dst e : TypeId} {x : Operand} (ho : o.op = .convert src dst x)
    (hs : P.underlying src = some (.slice e)) (he : P.underlying e = some (.int .u8)) (hd : P.underlying dst = some .string) {v : Value} (hx : a.eval x = v) {n : Nat} {l : List UInt8} (hr : Reads w 1 v n (l.map byteV))
    (h : wpList P ops Q rest (a.put o.dst (.string (strOf l))) w) : wpList P ops Q (o :: rest) a w :=
  wpList_plain hgd fun _ hK => by
    have hrun := run_str_of (P := P) hs he hd hr
    unfold Oper.wp execOp
    simp only [ho, hx, hrun, Sem.run_bind, Sem.run_pure, Result.andThen_ok]
    exact hK _ _ h
theorem wpList_appS {ops : Array Oper} {rest : List Oper} {o : Oper} {a : Act} {w : World} {Q : Exit → Act → World → Prop} (hgd : o.guard = none) {sl x : Operand} {t u : TypeId}
    (ho : o.op = .call { callee := .builtin .append, args := #[sl, x], argTypes := #[t, u] })
    {B : Nat} {e : TypeId} (T : SlTy P t e 1 1) (hz : (P.info? e).map (·.zero) = some (some (.int .u8 0))) (hu : P.underlying u = some .string) {v : Value} {n : Nat} {xs : List Value} (hs : a.eval sl = v) (hown : w.ownsRow B e 1 v n xs) {s : ByteArray} (hx : a.eval x = .string s)
    (hbytes : n + s.size ≤ 140737488355328) (hbase : B ≤ w.heap.size)
    (h : ∀ (A' : Option Addr) (c' : Nat) w', w'.ownsRow B e 1 (.slice A' (n + s.size) c') (n + s.size) (xs ++ s.data.toList.map byteV) → Chg (fun k => v.ownBlock = some k) w w' → wpList P ops Q rest (a.put o.dst (.slice A' (n + s.size) c')) w') : wpList P ops Q (o :: rest) a w := by
  obtain ⟨ht, ⟨i, z, hi, hz2, hsize, hby, hzs⟩, _, _⟩ := T
  have hz' : i.zero = some (.int .u8 0) := by rw [hi] at hz; simpa using hz
  refine Lib.wpList_append_own_string (P := P) (w := w) hgd sl x t u ho B e i ht hu hi hz' hsize hby v n xs hs hown s hx (by unfold maxLen; omega) hbytes hbase fun v' w' h1 h2 _ => ?_
  obtain ⟨A', c', rfl⟩ := own_slice h1
  exact h A' c' w' h1 ⟨h2.os, h2.tape, h2.output, h2.size, fun k hk hn => h2.block k hk (fun e => hn e.symm)⟩
end
end Go.Proofs.YtoefmncdloffaaaDoor


namespace Go.Proofs.YtoefmncdloffaaaDoor
open Go.RowKit
section
variable {P : Program}
end
theorem Reads.newM (w : World) (cs : Array Value) (e : TypeId) (fr : Nat × Nat) (n c : Nat) (xs : List Value) {g : Nat} (hg : g = w.heap.size) (hx : xs.length = n) (hc : n ≤ c) (hm : c ≤ maxLen) (ht : cs.toList.take xs.length = xs) :
    Reads (w.alloc (.cells cs e fr)) 1 (.slice (some ⟨g, 0, none⟩) n c) n xs := by
  subst hg
  refine ⟨by rw [hx, Nat.mul_one], _, c, rfl, hc, hm, fun _ => ⟨w.heap.size, 0, rfl, fun j u hu => ?_⟩⟩
  have hj : j < xs.length := by
    rcases Nat.lt_or_ge j xs.length with h | h
    · exact h
    · rw [List.getElem?_eq_none h] at hu; cases hu
  rw [Nat.zero_add, World.cell?_alloc_mark]
  rw [← ht, List.getElem?_take, if_pos hj] at hu
  simpa using hu
end Go.Proofs.YtoefmncdloffaaaDoor


namespace Go.Proofs.YtoefmncdloffaaaDoor
open Go.RowKit
def RSch (w : World) (bs : List UInt8) (k : Nat) (wr : World) : Prop :=
  Blk wr w.heap.size 189 (wordsTo 64 (schedAt bs k)) ∧ Ext w wr
theorem be4 (bs : List UInt8) (k : Nat) (h : 4 * k + 3 < bs.length) : beWord ((bs.drop (4 * k)).take 4) = ((((bs.getD (4 * k) 0).toUInt32 <<< 24) ||| ((bs.getD (4 * k + 1) 0).toUInt32 <<< 16)) ||| ((bs.getD (4 * k + 2) 0).toUInt32 <<< 8)) ||| (bs.getD (4 * k + 3) 0).toUInt32 := by
  have e : (bs.drop (4 * k)).take 4 = [bs.getD (4 * k) 0, bs.getD (4 * k + 1) 0, bs.getD (4 * k + 2) 0, bs.getD (4 * k + 3) 0] := by
    apply List.ext_getElem?
    intro i
    rw [List.getElem?_take, List.getElem?_drop]
    match i with
    | 0 => simp; rw [List.getElem?_eq_getElem (by omega)]; rfl
    | 1 => simp; rw [List.getElem?_eq_getElem (by omega)]; rfl
    | 2 => simp; rw [List.getElem?_eq_getElem (by omega)]; rfl
    | 3 => simp; rw [List.getElem?_eq_getElem (by omega)]; rfl
    | i + 4 => simp; omega
  rw [e]
  generalize bs.getD (4 * k) 0 = a
  generalize bs.getD (4 * k + 1) 0 = b
  generalize bs.getD (4 * k + 2) 0 = c
  generalize bs.getD (4 * k + 3) 0 = d
  unfold beWord
  simp only [List.foldl_cons, List.foldl_nil]
  apply UInt32.eq_of_toBitVec_eq
  simp
  have e1 : ∀ x : BitVec 32, (x <<< 8) <<< 8 = x <<< 16 := fun x => by rw [← BitVec.shiftLeft_add]
  have e2 : ∀ x : BitVec 32, (x <<< 16) <<< 8 = x <<< 24 := fun x => by rw [← BitVec.shiftLeft_add]
  simp only [BitVec.shiftLeft_or_distrib, e1, e2]
theorem mod8 (y : UInt8) : (y.toNat : Int) % 4294967296 = (y.toNat : Int) := by have := y.toNat_lt; omega
theorem sched_next (bs : List UInt8) (j : Nat) : schedAt bs (j + 16 + 1) = schedAt bs (j + 16) ++ [(schedAt bs (j + 16)).getD j 0 + ((rotrW ((schedAt bs (j + 16)).getD (j + 1) 0) 7 ^^^ rotrW ((schedAt bs (j + 16)).getD (j + 1) 0) 18) ^^^ ((schedAt bs (j + 16)).getD (j + 1) 0 >>> 3)) + (schedAt bs (j + 16)).getD (j + 9) 0 +
    ((rotrW ((schedAt bs (j + 16)).getD (j + 14) 0) 17 ^^^ rotrW ((schedAt bs (j + 16)).getD (j + 14) 0) 19) ^^^ ((schedAt bs (j + 16)).getD (j + 14) 0 >>> 10))] := by
  rw [schedAt, if_neg (by omega)]
  unfold schedNext
  simp only [schedAt_length, show j + 16 - 15 = j + 1 from by omega, show j + 16 - 2 = j + 14 from by omega, show j + 16 - 16 = j from by omega, show j + 16 - 7 = j + 9 from by omega]
theorem rot_6 (x : UInt32) (w : World) : Calls Tryd.prog 173 #[.int .u32 (x.toNat : Int), .int .i64 6] w fun e w' => e = .returned (.int .u32 ((rotrW x 6).toNat : Int)) ∧ ∃ k, w' = w.drewN k := rot_any x 6 _ rfl w (by omega) (by omega)
theorem rot_11 (x : UInt32) (w : World) : Calls Tryd.prog 173 #[.int .u32 (x.toNat : Int), .int .i64 11] w fun e w' => e = .returned (.int .u32 ((rotrW x 11).toNat : Int)) ∧ ∃ k, w' = w.drewN k := rot_any x 11 _ rfl w (by omega) (by omega)
theorem rot_25 (x : UInt32) (w : World) : Calls Tryd.prog 173 #[.int .u32 (x.toNat : Int), .int .i64 25] w fun e w' => e = .returned (.int .u32 ((rotrW x 25).toNat : Int)) ∧ ∃ k, w' = w.drewN k := rot_any x 25 _ rfl w (by omega) (by omega)
theorem rot_2 (x : UInt32) (w : World) : Calls Tryd.prog 173 #[.int .u32 (x.toNat : Int), .int .i64 2] w fun e w' => e = .returned (.int .u32 ((rotrW x 2).toNat : Int)) ∧ ∃ k, w' = w.drewN k := rot_any x 2 _ rfl w (by omega) (by omega)
theorem rot_13 (x : UInt32) (w : World) : Calls Tryd.prog 173 #[.int .u32 (x.toNat : Int), .int .i64 13] w fun e w' => e = .returned (.int .u32 ((rotrW x 13).toNat : Int)) ∧ ∃ k, w' = w.drewN k := rot_any x 13 _ rfl w (by omega) (by omega)
theorem rot_22 (x : UInt32) (w : World) : Calls Tryd.prog 173 #[.int .u32 (x.toNat : Int), .int .i64 22] w fun e w' => e = .returned (.int .u32 ((rotrW x 22).toNat : Int)) ∧ ∃ k, w' = w.drewN k := rot_any x 22 _ rfl w (by omega) (by omega)
theorem rot_7 (x : UInt32) (w : World) : Calls Tryd.prog 173 #[.int .u32 (x.toNat : Int), .int .i64 7] w fun e w' => e = .returned (.int .u32 ((rotrW x 7).toNat : Int)) ∧ ∃ k, w' = w.drewN k := rot_any x 7 _ rfl w (by omega) (by omega)
theorem rot_18 (x : UInt32) (w : World) : Calls Tryd.prog 173 #[.int .u32 (x.toNat : Int), .int .i64 18] w fun e w' => e = .returned (.int .u32 ((rotrW x 18).toNat : Int)) ∧ ∃ k, w' = w.drewN k := rot_any x 18 _ rfl w (by omega) (by omega)
theorem rot_17 (x : UInt32) (w : World) : Calls Tryd.prog 173 #[.int .u32 (x.toNat : Int), .int .i64 17] w fun e w' => e = .returned (.int .u32 ((rotrW x 17).toNat : Int)) ∧ ∃ k, w' = w.drewN k := rot_any x 17 _ rfl w (by omega) (by omega)
theorem rot_19 (x : UInt32) (w : World) : Calls Tryd.prog 173 #[.int .u32 (x.toNat : Int), .int .i64 19] w fun e w' => e = .returned (.int .u32 ((rotrW x 19).toNat : Int)) ∧ ∃ k, w' = w.drewN k := rot_any x 19 _ rfl w (by omega) (by omega)
theorem sig_val (x r s : UInt32) (n : Nat) (d : Int) (hd : d = 2 ^ n) (hn : n < 32) : bits BinOp.xor IntKind.u32 (bits BinOp.xor IntKind.u32 (r.toNat : Int) (s.toNat : Int)) ((x.toNat : Int) / d) = (((r ^^^ s) ^^^ (x >>> UInt32.ofNat n)).toNat : Int) := by
  rw [hd, shr32 x n hn, xor32, xor32]
theorem add4 (a b c d : UInt32) : ((a.toNat : Int) + (b.toNat : Int) + (c.toNat : Int) + (d.toNat : Int)) % 4294967296 = ((a + b + c + d).toNat : Int) := by
  rw [UInt32.toNat_add, UInt32.toNat_add, UInt32.toNat_add]
  omega
theorem rt_val (x7 x4 x5 x6 xk xw r1 r2 r3 : UInt32) : ((x7.toNat : Int) + bits BinOp.xor IntKind.u32 (bits BinOp.xor IntKind.u32 (r1.toNat : Int) (r2.toNat : Int)) (r3.toNat : Int) + bits BinOp.xor IntKind.u32 (bits BinOp.and IntKind.u32 (x4.toNat : Int) (x5.toNat : Int)) (bits BinOp.and IntKind.u32 (bits BinOp.xor IntKind.u32 4294967295 (x4.toNat : Int)) (x6.toNat : Int)) + (xk.toNat : Int) + (xw.toNat : Int)) % 4294967296 =
    ((x7 + (r1 ^^^ r2 ^^^ r3) + ((x4 &&& x5) ^^^ (~~~x4 &&& x6)) + xk + xw).toNat : Int) := by
  rw [show (4294967295 : Int) = IntKind.u32.max from rfl, not32, and32, and32, xor32, xor32, xor32]
  simp only [UInt32.toNat_add]
  omega
theorem ru_val (T x0 x1 x2 r1 r2 r3 : UInt32) : ((T.toNat : Int) + (bits BinOp.xor IntKind.u32 (bits BinOp.xor IntKind.u32 (r1.toNat : Int) (r2.toNat : Int)) (r3.toNat : Int) + bits BinOp.xor IntKind.u32 (bits BinOp.xor IntKind.u32 (bits BinOp.and IntKind.u32 (x0.toNat : Int) (x1.toNat : Int)) (bits BinOp.and IntKind.u32 (x0.toNat : Int) (x2.toNat : Int))) (bits BinOp.and IntKind.u32 (x1.toNat : Int) (x2.toNat : Int))) % 4294967296) % 4294967296 =
    ((T + ((r1 ^^^ r2 ^^^ r3) + (((x0 &&& x1) ^^^ (x0 &&& x2)) ^^^ (x1 &&& x2)))).toNat : Int) := by
  rw [and32, and32, and32, xor32, xor32, xor32, xor32]
  simp only [UInt32.toNat_add]
  omega
theorem fin_words (R v : List UInt32) (hR : R.length = 8) (hv : v.length = 8) : List.zipWith (· + ·) R v = [v.getD 0 0 + R.getD 0 0, v.getD 1 0 + R.getD 1 0, v.getD 2 0 + R.getD 2 0, v.getD 3 0 + R.getD 3 0, v.getD 4 0 + R.getD 4 0, v.getD 5 0 + R.getD 5 0, v.getD 6 0 + R.getD 6 0, v.getD 7 0 + R.getD 7 0] := by
  match R, hR, v, hv with
  | [a, b, c, d, e, f, g, h], _, [a', b', c', d', e', f', g', h'], _ =>
    simp [UInt32.add_comm]
theorem be4_val (a b c d : UInt8) : bits BinOp.or IntKind.u32 (bits BinOp.or IntKind.u32 (bits BinOp.or IntKind.u32 ((a.toNat : Int) * 16777216 % 4294967296) ((b.toNat : Int) * 65536 % 4294967296)) ((c.toNat : Int) * 256 % 4294967296)) (d.toNat : Int) =
    ((((a.toUInt32 <<< 24) ||| (b.toUInt32 <<< 16)) ||| (c.toUInt32 <<< 8)) ||| d.toUInt32).toNat := by
  have h24 := shl32 a.toUInt32 24 (by omega)
  have h16 := shl32 b.toUInt32 16 (by omega)
  have h8 := shl32 c.toUInt32 8 (by omega)
  rw [show (16777216 : Int) = 2 ^ 24 from rfl, show (65536 : Int) = 2 ^ 16 from rfl, show (256 : Int) = 2 ^ 8 from rfl, conv32, conv32 b, conv32 c, conv32 d, h24, h16, h8, or32, or32, or32]
  rfl
set_option maxRecDepth 100000 in
set_option maxHeartbeats 4000000 in
theorem rcompress_any (v : List UInt32) (bs : List UInt8) (vv bv kv : Value) (w : World) (hv : v.length = 8) (hb : bs.length = 64) (hrv : Reads w 1 vv 8 (v.map w32)) (hrb : Reads w 1 bv 64 (bs.map u8v)) (hrk : Reads w 1 kv 64 (shaK.map w32)) :
    Calls Tryd.prog 166 #[vv, bv, kv] w fun e w' => ∃ A, e = .returned (.slice A 8 8) ∧ Reads w' 1 (.slice A 8 8) 8 ((shaBlock v bs).map w32) ∧ Ext w w' := by
  have HV := hide (And.intro hv hrv)
  have HB := hide (And.intro hb hrb)
  have HK := hide hrk
  obtain ⟨b0, o0, c0, rfl, _, _, _, _⟩ := hrv.sub 0 8 (by omega) (by omega)
  obtain ⟨b1, o1, c1, rfl, _, _, _, _⟩ := hrb.sub 0 64 (by omega) (by omega)
  obtain ⟨b2, o2, c2, rfl, _, _, _, _⟩ := hrk.sub 0 64 (by omega) (by omega)
  clear hv hb hrv hrb hrk
  go_enter Tryd.func166, Tryd.ntmps166
  have hmk : ∀ W, (Instr.makeSlice 218 (.int .i64 64) (.int .i64 64)).run Tryd.prog W = .ok (.slice (some ⟨W.heap.size, 0, none⟩) 64 64) (W.alloc (.cells (wordsTo 64 (schedAt bs 0)) 189)) := fun _ => by kernel_rfl
  go_wp2
  clear hmk
  go_loopw [8] (fun i wr => ∃ k : Nat, k ≤ 16 ∧ i = .int .i64 k ∧ Hid (RSch w bs k wr)) (fun i _ => 16 - (intOf i).toNat)
  case atStart => exact ⟨0, Nat.zero_le _, rfl, hide ⟨Blk.new _ _ _, (Ext.refl w).alloc _⟩⟩
  case round =>
    obtain ⟨k, hk, rfl, HS⟩ := hrel
    by_cases hlt : k < 16
    · have hL := schedAt_length bs k
      have hw : wr.cell? ⟨w.heap.size, k, none⟩ = some (.int .u32 0) ∧ wr.frozen? ⟨w.heap.size, k, none⟩ = false := ⟨by
        rw [(unhide HS).1.cell]
        unfold wordsTo
        rw [List.getElem?_toArray, List.getElem?_append_right (by simp; omega), List.getElem?_replicate, if_pos (by simp; omega)], (unhide HS).1.frozen k⟩
      obtain ⟨hw1, hw2⟩ := hw
      have hr1 := (unhide HB).2.ext (unhide HS).2
      have q0 := hr1.byteAt (j := 4 * k) (by rw [(unhide HB).1]; omega)
      have q1 := hr1.byteAt (j := 4 * k + 1) (by rw [(unhide HB).1]; omega)
      have q2 := hr1.byteAt (j := 4 * k + 2) (by rw [(unhide HB).1]; omega)
      have q3 := hr1.byteAt (j := 4 * k + 3) (by rw [(unhide HB).1]; omega)
      clear hr1
      have HX := hide (be4 bs k (by rw [(unhide HB).1]; omega))
      have HE := hide (fun a b c d => be4_val a b c d)
      generalize bs.getD (4 * k) 0 = y0 at *
      generalize bs.getD (4 * k + 1) 0 = y1 at *
      generalize bs.getD (4 * k + 2) 0 = y2 at *
      generalize bs.getD (4 * k + 3) 0 = y3 at *
      have e0 : IntKind.i64.wrap (4 * (k : Int)) = 4 * (k : Int) := IntWalk.i64_in _ (by omega)
      have e1 : IntKind.i64.wrap (4 * (k : Int) + 1) = 4 * (k : Int) + 1 := IntWalk.i64_in _ (by omega)
      have e2 : IntKind.i64.wrap (4 * (k : Int) + 2) = 4 * (k : Int) + 2 := IntWalk.i64_in _ (by omega)
      have e3 : IntKind.i64.wrap (4 * (k : Int) + 3) = 4 * (k : Int) + 3 := IntWalk.i64_in _ (by omega)
      have t0 : (4 * (k : Int)).toNat = 4 * k := by omega
      have t1 : (4 * (k : Int) + 1).toNat = 4 * k + 1 := by omega
      have t2 : (4 * (k : Int) + 2).toNat = 4 * k + 2 := by omega
      have t3 : (4 * (k : Int) + 3).toNat = 4 * k + 3 := by omega
      have z : (0 : Int) ≤ 4 * (k : Int) ∧ (0 : Int) ≤ 4 * (k : Int) + 1 ∧ (0 : Int) ≤ 4 * (k : Int) + 2 ∧ (0 : Int) ≤ 4 * (k : Int) + 3 ∧ 4 * (k : Int) < 64 ∧ 4 * (k : Int) + 1 < 64 ∧ 4 * (k : Int) + 2 < 64 ∧ 4 * (k : Int) + 3 < 64 ∧ (k : Int) < 64 := by omega
      obtain ⟨z1, z2, z3, z4, z5, z6, z7, z8, z9⟩ := z
      go_wp2_with fail
      go_still_tail 36, (by kernel_rfl)
      clear q0 q1 q2 q3
      change wpList _ _ _ _ _ wr.drew
      go_wp2
      go_roundw
      case rel =>
        refine ⟨k + 1, by omega, by go_num, hide ⟨?_, (Ext.setCell (unhide HS).2.drew (by simp) _)⟩⟩
        have h1 := (unhide HS).1.drew.set_ k (.int .u32 ((beWord ((bs.drop (4 * k)).take 4)).toNat : Int))
        rw [wordsTo_set' _ (schedAt_length bs k) (by omega)] at h1
        simp only [mod8]
        rw [unhide HE, ← unhide HX]
        rw [schedAt, if_pos hlt]
        first | exact h1.drew | exact h1
      case measure => simp [intOf]; omega
    · obtain rfl : k = 16 := by omega
      clear hk hlt
      obtain ⟨wo, rfl⟩ : ∃ wo : World, wo = wr := ⟨_, rfl⟩
      go_wp2
      go_loopw [9] (fun i wr => ∃ k : Nat, 16 ≤ k ∧ k ≤ 64 ∧ i = .int .i64 k ∧ Hid (RSch w bs k wr)) (fun i _ => 64 - (intOf i).toNat)
      case atStart => exact ⟨16, by omega, by omega, rfl, HS⟩
      case round =>
        clear HS
        obtain ⟨k, hk16, hk, rfl, HS⟩ := hrel
        by_cases hlt : k < 64
        · obtain ⟨j, rfl⟩ : ∃ j, k = j + 16 := ⟨k - 16, by omega⟩
          have hL := schedAt_length bs (j + 16)
          have cx : ∀ i, i < j + 16 → wr.cell? ⟨w.heap.size, i, none⟩ = some (.int .u32 (((schedAt bs (j + 16)).getD i 0).toNat : Int)) := fun i hi => by
            rw [(unhide HS).1.cell]
            exact wordsTo_get (by omega)
          have hold : wr.cell? ⟨w.heap.size, j + 16, none⟩ = some (.int .u32 0) := by
            rw [(unhide HS).1.cell]
            unfold wordsTo
            rw [List.getElem?_toArray, List.getElem?_append_right (by simp; omega), List.getElem?_replicate, if_pos (by simp; omega)]
          have HN := hide (sched_next bs j)
          have HC := hide (And.intro hold (And.intro (cx j (by omega)) (cx (j + 9) (by omega))))
          have c1 := cx (j + 1) (by omega)
          have c14 := cx (j + 14) (by omega)
          clear cx hold
          generalize (schedAt bs (j + 16)).getD j 0 = x0 at *
          generalize (schedAt bs (j + 16)).getD (j + 1) 0 = x1 at *
          generalize (schedAt bs (j + 16)).getD (j + 9) 0 = x9 at *
          generalize (schedAt bs (j + 16)).getD (j + 14) 0 = x14 at *
          have d64 : decide ((j : Int) + 16 < 64) = true := decide_eq_true (by omega)
          have hj : j < 48 := by omega
          clear hk16 hk hlt
          go_upto_region 9 with fail
          have i15 : (((j + 16 : Nat) : Int) - 15) = ((j + 1 : Nat) : Int) := by omega
          go_cut [10] (fun s wx => ∃ T : UInt32, s = .int .u32 (T.toNat : Int) ∧ Hid (T = (rotrW x1 7 ^^^ rotrW x1 18) ^^^ (x1 >>> 3) ∧ Ext wr wx))
          case first =>
            go_quiet ((first | (go_at_call 173; with_reducible exact Calls.quiet_of (rot_7 x1 _)) | (go_at_call 173; with_reducible exact Calls.quiet_of (rot_18 x1 _))))
            go_wp2_with fail
            go_meet
            exact ⟨_, int_eq (sig_val x1 _ _ 3 8 rfl (by omega)), hide ⟨rfl, (Ext.refl wr).drewN _⟩⟩
          case rest =>
            obtain ⟨T, rfl, HT⟩ := hcut
            obtain ⟨wp, rfl⟩ : ∃ wp : World, wp = wc := ⟨_, rfl⟩
            clear c1 i15
            have c14' := Ext.cellv (unhide HT).2 c14
            clear c14
            go_upto_region 10 with fail
            have i2 : (((j + 16 : Nat) : Int) - 2) = ((j + 14 : Nat) : Int) := by omega
            go_cut [11] (fun s wx => ∃ U : UInt32, s = .int .u32 (U.toNat : Int) ∧ Hid (U = (rotrW x14 17 ^^^ rotrW x14 19) ^^^ (x14 >>> 10) ∧ Ext wr wx))
            case first =>
              go_quiet ((first | (go_at_call 173; with_reducible exact Calls.quiet_of (rot_17 x14 _)) | (go_at_call 173; with_reducible exact Calls.quiet_of (rot_19 x14 _))))
              go_wp2_with fail
              go_meet
              exact ⟨_, int_eq (sig_val x14 _ _ 10 1024 rfl (by omega)), hide ⟨rfl, (unhide HT).2.drewN _⟩⟩
            case rest =>
              obtain ⟨U, rfl, HU⟩ := hcut
              obtain ⟨wq, rfl⟩ : ∃ wq : World, wq = wc := ⟨_, rfl⟩
              clear c14' i2
              have f0 := Ext.cellv (unhide HU).2 (unhide HC).1
              have f1 := Ext.cellv (unhide HU).2 (unhide HC).2.1
              have f2 := Ext.cellv (unhide HU).2 (unhide HC).2.2
              have ff := ((unhide HS).1.ext (unhide HU).2).frozen (j + 16)
              have i16 : IntKind.i64.wrap (((j + 16 : Nat) : Int) - 16) = (j : Int) := (IntWalk.i64_in _ (by omega)).trans (by omega)
              have i7 : IntKind.i64.wrap (((j + 16 : Nat) : Int) - 7) = ((j + 9 : Nat) : Int) := (IntWalk.i64_in _ (by omega)).trans (by omega)
              have i7' : IntKind.i64.wrap ((j : Int) + 16 - 7) = (j : Int) + 9 := (IntWalk.i64_in _ (by omega)).trans (by omega)
              have i9 : IntKind.i64.wrap ((j : Int) + 9) = (j : Int) + 9 := IntWalk.i64_in _ (by omega)
              have i0 : IntKind.i64.wrap (j : Int) = (j : Int) := IntWalk.i64_in _ (by omega)
              have t9 : ((j : Int) + 9).toNat = j + 9 := by omega
              have t16 : ((j : Int) + 16).toNat = j + 16 := by omega
              have b0 : (0 : Int) ≤ (j : Int) + 9 ∧ (j : Int) + 9 < 64 ∧ (j : Int) < 64 ∧ (j : Int) + 16 < 64 ∧ (0 : Int) ≤ (j : Int) + 16 := by omega
              obtain ⟨b1, b2, b3, b4, b5⟩ := b0
              go_upto_region 11 with fail
              go_still_tail 18, (by kernel_rfl)
              clear f1 f2
              change wpList _ _ _ _ _ wq.drew
              go_wp2
              go_roundw
              case rel =>
                repeat apply Exists.intro
                refine ⟨?_, rfl⟩
                refine ⟨j + 16 + 1, by omega, by omega, by go_num, hide ⟨?_, ?_⟩⟩
                · have h1 := (((unhide HS).1.ext (unhide HU).2).set_ (j + 16) (.int .u32 ((x0 + T + x9 + U).toNat : Int))).drew
                  rw [wordsTo_set' _ (schedAt_length bs (j + 16)) (by omega)] at h1
                  rw [unhide HN, add4, ← (unhide HT).1, ← (unhide HU).1]
                  exact h1
                · exact (((unhide HS).2.trans (unhide HU).2).setCell (by simp) _).drew
              case measure => simp [intOf]; omega
        · obtain rfl : k = 64 := by omega
          clear hk16 hk hlt
          obtain ⟨wp, rfl⟩ : ∃ wp : World, wp = wr := ⟨_, rfl⟩
          have hv := (unhide HV).2.ext (unhide HS).2
          have v0 := hv.wordAt (j := 0) (by rw [(unhide HV).1]; omega)
          have v1 := hv.wordAt (j := 1) (by rw [(unhide HV).1]; omega)
          have v2 := hv.wordAt (j := 2) (by rw [(unhide HV).1]; omega)
          have v3 := hv.wordAt (j := 3) (by rw [(unhide HV).1]; omega)
          have v4 := hv.wordAt (j := 4) (by rw [(unhide HV).1]; omega)
          have v5 := hv.wordAt (j := 5) (by rw [(unhide HV).1]; omega)
          have v6 := hv.wordAt (j := 6) (by rw [(unhide HV).1]; omega)
          have v7 := hv.wordAt (j := 7) (by rw [(unhide HV).1]; omega)
          rw [Nat.add_zero] at v0
          have HVC := hide (And.intro v0 (And.intro v1 (And.intro v2 (And.intro v3 (And.intro v4 (And.intro v5 (And.intro v6 v7)))))))
          clear hv
          go_wp2
          clear v0 v1 v2 v3 v4 v5 v6 v7
          go_loopw [12, 13, 14, 15, 16, 17, 18, 19, 20] (fun a b c d e f g h i wr => ∃ k : Nat, k ≤ 64 ∧ i = .int .i64 k ∧ a = .int .u32 (((roundsAt bs v k).getD 0 0).toNat : Int) ∧ b = .int .u32 (((roundsAt bs v k).getD 1 0).toNat : Int) ∧ c = .int .u32 (((roundsAt bs v k).getD 2 0).toNat : Int) ∧ d = .int .u32 (((roundsAt bs v k).getD 3 0).toNat : Int) ∧ e = .int .u32 (((roundsAt bs v k).getD 4 0).toNat : Int) ∧ f = .int .u32 (((roundsAt bs v k).getD 5 0).toNat : Int) ∧ g = .int .u32 (((roundsAt bs v k).getD 6 0).toNat : Int) ∧ h = .int .u32 (((roundsAt bs v k).getD 7 0).toNat : Int) ∧ Hid (Ext wp wr)) (fun _ _ _ _ _ _ _ _ i _ => 64 - (intOf i).toNat)
          case atStart => exact ⟨0, Nat.zero_le _, rfl, rfl, rfl, rfl, rfl, rfl, rfl, rfl, rfl, hide (Ext.refl _)⟩
          case round =>
            obtain ⟨k, hk, rfl, rfl, rfl, rfl, rfl, rfl, rfl, rfl, rfl, HE⟩ := hrel
            by_cases hlt : k < 64
            · have cw : wr.cell? ⟨w.heap.size, k, none⟩ = some (.int .u32 (((sched bs).getD k 0).toNat : Int)) := by
                rw [((unhide HS).1.ext (unhide HE)).cell]
                exact wordsTo_get (by rw [schedAt_length]; exact hlt)
              have ck := ((unhide HK).ext ((unhide HS).2.trans (unhide HE))).wordAt (j := k) hlt
              have HN := hide (show roundsAt bs v (k + 1) = shaRound (roundsAt bs v k) (shaK.getD k 0) ((sched bs).getD k 0) from rfl)
              unfold shaRound at HN
              generalize (roundsAt bs v k).getD 0 0 = x0 at *
              generalize (roundsAt bs v k).getD 1 0 = x1 at *
              generalize (roundsAt bs v k).getD 2 0 = x2 at *
              generalize (roundsAt bs v k).getD 3 0 = x3 at *
              generalize (roundsAt bs v k).getD 4 0 = x4 at *
              generalize (roundsAt bs v k).getD 5 0 = x5 at *
              generalize (roundsAt bs v k).getD 6 0 = x6 at *
              generalize (roundsAt bs v k).getD 7 0 = x7 at *
              generalize (sched bs).getD k 0 = xw at *
              generalize shaK.getD k 0 = xk at *
              have d64 : decide ((k : Int) < 64) = true := decide_eq_true (by omega)
              have b64 : (k : Int) < 64 := by omega
              have t1 : (0 : Int) ≤ (k : Int) := by omega
              go_upto_region 23 with fail
              clear d64
              go_cut [21] (fun s wx => ∃ T : UInt32, s = .int .u32 (T.toNat : Int) ∧ Hid (T = x7 + (rotrW x4 6 ^^^ rotrW x4 11 ^^^ rotrW x4 25) + ((x4 &&& x5) ^^^ (~~~x4 &&& x6)) + xk + xw ∧ Ext wr wx))
              case first =>
                go_quiet ((first | (go_at_call 173; with_reducible exact Calls.quiet_of (rot_6 x4 _)) | (go_at_call 173; with_reducible exact Calls.quiet_of (rot_11 x4 _)) | (go_at_call 173; with_reducible exact Calls.quiet_of (rot_25 x4 _))))
                go_wp2_with fail
                go_meet
                exact ⟨_, int_eq (rt_val x7 x4 x5 x6 xk xw _ _ _), hide ⟨rfl, (Ext.refl wr).drewN _⟩⟩
              case rest =>
                obtain ⟨T, rfl, HT⟩ := hcut
                obtain ⟨wq, rfl⟩ : ∃ wq : World, wq = wc := ⟨_, rfl⟩
                clear cw ck
                go_wp2_with (first
                  | (go_at_call 173; with_reducible refine (rot_2 x0 _).mono ?_; rintro e w' ⟨rfl, n2, rfl⟩)
                  | (go_at_call 173; with_reducible refine (rot_13 x0 _).mono ?_; rintro e w' ⟨rfl, n13, rfl⟩)
                  | (go_at_call 173; with_reducible refine (rot_22 x0 _).mono ?_; rintro e w' ⟨rfl, n22, rfl⟩))
                go_roundw
                case rel =>
                  repeat apply Exists.intro
                  refine ⟨?_, rfl⟩
                  have a2 : ((x3.toNat : Int) + (T.toNat : Int)) % 4294967296 = ((x3 + T).toNat : Int) := add32 x3 T
                  refine ⟨k + 1, by omega, by go_num, int_eq ?_, ?_, ?_, ?_, int_eq ?_, ?_, ?_, ?_, hide (((unhide HE).trans (unhide HT).2).drewN _)⟩
                  · rw [ru_val, unhide HN, (unhide HT).1]
                    rfl
                  all_goals rw [unhide HN]
                  · rfl
                  · rfl
                  · rfl
                  · rw [a2, (unhide HT).1]; rfl
                  · rfl
                  · rfl
                  · rfl
                case measure => simp [intOf]; omega
            · obtain rfl : k = 64 := by omega
              clear hk hlt
              obtain ⟨wq, rfl⟩ : ∃ wq : World, wq = wr := ⟨_, rfl⟩
              obtain ⟨v0, v1, v2, v3, v4, v5, v6, v7⟩ := unhide HVC
              have v0 := Ext.cellv (unhide HE) v0
              have v1 := Ext.cellv (unhide HE) v1
              have v2 := Ext.cellv (unhide HE) v2
              have v3 := Ext.cellv (unhide HE) v3
              have v4 := Ext.cellv (unhide HE) v4
              have v5 := Ext.cellv (unhide HE) v5
              have v6 := Ext.cellv (unhide HE) v6
              have v7 := Ext.cellv (unhide HE) v7
              have HR := hide (fin_words (roundsAt bs v 64) v (roundsAt_length _ _ (unhide HV).1 64) (unhide HV).1)
              generalize (roundsAt bs v 64).getD 0 0 = r0 at *
              generalize (roundsAt bs v 64).getD 1 0 = r1 at *
              generalize (roundsAt bs v 64).getD 2 0 = r2 at *
              generalize (roundsAt bs v 64).getD 3 0 = r3 at *
              generalize (roundsAt bs v 64).getD 4 0 = r4 at *
              generalize (roundsAt bs v 64).getD 5 0 = r5 at *
              generalize (roundsAt bs v 64).getD 6 0 = r6 at *
              generalize (roundsAt bs v 64).getD 7 0 = r7 at *
              generalize v.getD 0 0 = y0 at *
              generalize v.getD 1 0 = y1 at *
              generalize v.getD 2 0 = y2 at *
              generalize v.getD 3 0 = y3 at *
              generalize v.getD 4 0 = y4 at *
              generalize v.getD 5 0 = y5 at *
              generalize v.getD 6 0 = y6 at *
              generalize v.getD 7 0 = y7 at *
              go_upto_region 33 with fail
              go_still_tail 40, (by kernel_rfl)
              clear v0 v1 v2 v3 v4 v5 v6 v7
              change wpList _ _ _ _ _ wq.drew
              go_wp2
              go_ret
              refine ⟨_, rfl, ?_, (((((unhide HS).2.trans (unhide HE)).drew).alloc _))⟩
              simp only [add32]
              have hz : (shaBlock v bs).map w32 = [w32 (y0 + r0), w32 (y1 + r1), w32 (y2 + r2), w32 (y3 + r3), w32 (y4 + r4), w32 (y5 + r5), w32 (y6 + r6), w32 (y7 + r7)] := by
                unfold shaBlock shaRounds
                rw [unhide HR]
                rfl
              rw [hz]
              exact (Reads.newM wq _ _ _ 8 8 _ rfl rfl (Nat.le_refl _) (by unfold maxLen; omega) rfl).ext ((Ext.refl _).drew)
end Go.Proofs.YtoefmncdloffaaaDoor


namespace Go.Proofs.YtoefmncdloffaaaDoor
open Go.RowKit
theorem run_arrayAt {P : Program} {T e : TypeId} {n : Nat} (hu : P.underlying T = some (.array n e)) {ad : Option Addr} {len c : Nat} (hl : n ≤ len) (w : World) : (Instr.arrayAt T (.slice ad len c)).run P w = .ok (.pointer ad) w := by
  have h : ¬ len < n := by omega
  simp [Instr.arrayAt, run_underlying hu, h]
def KeepC (S : Nat → Prop) (w w' : World) : Prop := ∀ p v, ¬ S p.block → w.cell? p = some v → w'.cell? p = some v
theorem KeepC.trans {S : Nat → Prop} {a b c : World} (h : KeepC S a b) (k : KeepC S b c) : KeepC S a c := fun p v hn hc => k p v hn (h p v hn hc)
theorem KeepC.of_chg {S : Nat → Prop} {a b : World} (h : Chg S a b) : KeepC S a b := fun _ _ hn hc => Chg.cellv h hc hn
def KeepB (w w' : World) : Prop := ∀ (k : Nat) (o : Obj), w.heap[k]? = some o → o.isCells = true → w'.heap[k]? = some o
theorem cells_of_cell {w : World} {p : Addr} {v : Value} (h : w.cell? p = some v) : ∃ o, w.heap[p.block]? = some o ∧ o.isCells = true := by
  have hl := lt_of_cell h
  refine ⟨_, Array.getElem?_eq_getElem hl, ?_⟩
  unfold World.cell? at h
  rw [Array.getElem?_eq_getElem hl] at h
  cases ho : w.heap[p.block] <;> simp_all [Obj.isCells]
theorem KeepC.putObj {S : Nat → Prop} (W : World) (l : Nat) {o : Obj} (o' : Obj) (h : W.heap[l]? = some o) (ho : o.isCells = false) : KeepC S W (W.putObj l o') := fun p v _ hc => by
  obtain ⟨q, hq, hqc⟩ := cells_of_cell hc
  have hne : p.block ≠ l := fun e => by
    rw [e, h] at hq
    cases hq
    rw [ho] at hqc
    cases hqc
  rw [World.cell?_of_block (w := W) (World.putObj_heap_other hne)]
  exact hc
theorem KeepB.cell {w w' : World} (h : KeepB w w') {p : Addr} {v : Value} (hc : w.cell? p = some v) : w'.cell? p = some v := by
  obtain ⟨o, ho, hoc⟩ := cells_of_cell hc
  rw [World.cell?_of_block (w := w) ((h _ _ ho hoc).trans ho.symm)]
  exact hc
theorem KeepB.blk {w w' : World} (h : KeepB w w') {g : Nat} {t : TypeId} {cs : Array Value} (hb : Blk w g t cs) : Blk w' g t cs := h _ _ hb rfl
theorem call_enters {P : Program} {f : FuncId} {fn : Func} {c : Code} (hf : P.funcs[f]? = some fn) (hname : (fn.name == "runtime.NumGoroutine") = false) (hb : fn.body = some c) (args : Array Value) (w : World) : (callFunc f args).run P w = .ok (.enter f args) w := by
  have h1 : fn.name ≠ "runtime.NumGoroutine" := by simpa using hname
  simp [callFunc, hf, h1, hb, mark]
theorem wp_range {α : Type} {P : Program} {g : Operand} {ps : Array Tmp} {assign body : Code} {Q : Exit → Act → World → Prop} {a : Act} {w : World}
    {gf : Nat} {lb : Array Value} (hg : a.eval g = .func (.func gf) #[] lb) (eg : ∀ args w, (callFunc gf args).run P w = .ok (.enter gf args) w)
    {encs : α → Array Value} {S : Nat → Prop} {all : List α} {N : Nat} (hS : ∀ k, S k → k < w.heap.size)
    (hseq : SeqStopsK Fence.wide 2 P gf lb encs (KeepC S) (fun ys => ys = all) (fun _ => True) N w) (hps : ∀ x, (encs x).size = ps.size)
    (J : List α → World → Prop) (hJ : ∀ pre W W', J pre W → KeepB W W' → J pre W') (h0 : J [] w) (a₁ : α → Act)
    (hassign : ∀ (l : Nat) (x : α) (W : World) (K : Act → World → Prop), K (a₁ x) W →
      assign.wpIn (Fence.wide.inRound l) 1 P (Exit.then K (fun _ _ _ => False)) { tmps := (ps.zip (encs x)).foldl (fun t (p, v) => t.setIfInBounds p v) a.tmps, defers := [] } W)
    (hbody : ∀ (l : Nat) (pre : List α) (x : α) (W : World), Chg S w W → J pre W → pre.length < N →
      body.wpIn (Fence.wide.inRound l) 1 P (Exit.then (fun _ W' => Chg S W W' ∧ J (pre ++ [x]) W') (fun _ _ _ => False)) (a₁ x) W)
    (hdone : ∀ (D : Nat) (W : World), w.heap.size ≤ D → Chg S w W → J all W → W.heap[D]? = some (.deferred (some [])) → Q .normal { a with defers := { target := .collected D, args := #[] } :: a.defers } W) :
    (Code.rangeFunc g ps assign body).wp P Q a w := by
  refine (wpIn_wide (n := 3)).1 ?_
  refine wpIn_rangeFunc_ownG (n := 3) (N := N) (w0 := w) rfl (by omega) hg trivial eg hseq (fun h k => h.trans k) (fun W l o o' _ h ho _ => KeepC.putObj W l o' h ho) (Below.refl _ _) hps
    (fun pre W => Chg S w W ∧ J pre W) (fun _ _ _ => False) ?hI (fun _ _ _ _ _ h _ _ => h) ⟨Chg.refl _ _, h0⟩ a₁ hassign ?hbody ?hdone (fun _ _ _ _ _ _ h _ => h.elim)
  case hI =>
    rintro pre W W' row ⟨hc, hj⟩ hgr hrow
    refine ⟨hc.grown hgr fun k e => .inr (hrow k e).1, hJ _ _ _ hj (show KeepB W W' from fun k o hk ho => ?_)⟩
    rw [hgr.block k (lt_of_heap hk) (fun e => ?_)]
    · exact hk
    · obtain ⟨_, q, hq, hqc⟩ := hrow k e.symm
      rw [hk] at hq
      cases hq
      rw [ho] at hqc
      cases hqc
  case hbody =>
    rintro l pre x W ⟨hc, hj⟩ hl
    refine wpIn_mono (hbody l pre x W hc hj hl) ?_
    rintro e b W' h
    cases e with
    | normal =>
      obtain ⟨h1, h2⟩ := h
      refine ⟨⟨h1.size, fun k o hk ho _ => h1.blk ho (fun hs => ?_)⟩, KeepC.of_chg h1, hc.trans h1, h2⟩
      have := hS k hs
      omega
    | _ => exact h.elim
  case hdone =>
    rintro D xs W hD rfl ⟨hc, hj⟩ hd
    exact hdone D W hD hc hj hd
section
variable {P : Program} {F : Fence} {n0 : Nat}
theorem wpListIn_loadB {ops : Array Oper} {rest : List Oper} {o : Oper} {a : Act} {w : World} {Q : Exit → Act → World → Prop} (hgd : o.guard = none) {ty : TypeId} {x : Operand} (ho : o.op = .load ty x) {n : Nat} (W : Wide P ty n)
    {g : Nat} (hx : a.eval x = .pointer (some ⟨g, 0, none⟩)) {t : TypeId} {cs : Array Value} (hB : Blk w g t cs) (hn : cs.size = n) (h : wpListIn F n0 P ops Q rest (a.put o.dst (.agg cs)) w) : wpListIn F n0 P ops Q (o :: rest) a w :=
  wpListIn_plain hgd fun _ hK => by
    obtain ⟨d, hu, hd⟩ := W.und
    unfold Oper.wpIn
    refine ⟨by simp [Oper.about, ho], ?_⟩
    rw [Oper.semAt_plain F _ _ (by rw [ho]; intro c h; cases h)]
    unfold execOp
    have hr := run_loadVar_mid (P := P) w g 0 ty cs.toList d hB.range hu hd (by rw [Array.length_toList, hn]; exact W.info)
    rw [Array.toArray_toList] at hr
    simp only [ho, hx, Instr.loadAt, Instr.sureAddr, Sem.run_bind, Sem.run_pure, Result.andThen_ok, hr]
    exact hK _ _ h
theorem wpListIn_storeB {ops : Array Oper} {rest : List Oper} {o : Oper} {a : Act} {w : World} {Q : Exit → Act → World → Prop} (hgd : o.guard = none) {ty : TypeId} {x y : Operand} (ho : o.op = .store ty x y) {n : Nat} (W : Wide P ty n)
    {g : Nat} (hx : a.eval x = .pointer (some ⟨g, 0, none⟩)) {cs : Array Value} (hy : a.eval y = .agg cs) {t : TypeId} {old : Array Value} (hB : Blk w g t old) (ho2 : old.size = n) (hn : cs.size = n) (h1 : cs.all (·.oneCell') = true)
    (h : ∀ w', Blk w' g t cs → Chg (fun k => k = g) w w' → w'.heap.size = w.heap.size → wpListIn F n0 P ops Q rest (a.put o.dst undef) w') : wpListIn F n0 P ops Q (o :: rest) a w :=
  wpListIn_plain hgd fun _ hK => by
    unfold Oper.wpIn
    refine ⟨by simp [Oper.about, ho], ?_⟩
    rw [Oper.semAt_plain F _ _ (by rw [ho]; intro c h; cases h)]
    unfold execOp
    have hr := run_storeAt_mid (P := P) w g 0 ty cs (by rw [show cs.size = old.size from by omega]; exact hB.there_) (by rw [hn]; exact W.info) h1
    simp only [ho, hx, hy, Sem.run_bind, Sem.run_pure, hr, Result.andThen_ok]
    exact hK _ _ (h _ (store_blk hB (by omega)) (setCells_chg g cs.toList 0 w).1 (setCells_chg g cs.toList 0 w).2)
end
theorem leave_mark {P : Program} {fn : Func} {R : Ending → World → Prop} {n : Nat} {a : Act} {W : World} {D : Nat} {v : Value} (hd : a.defers = [{ target := .collected D, args := #[] }]) (hD : W.heap[D]? = some (.deferred (some [])))
    (hr : (results fn a.tmps).run P (W.putObj D (.deferred none)) = .ok v (W.putObj D (.deferred none))) (h : R (.returned v) (W.putObj D (.deferred none))) : bodyPostM Fence.wide n P fn R .ret a W := by
  show LeavesInM Fence.wide n P fn a.tmps R a.defers .returning W
  rw [hd]
  refine ⟨by simp, .inl ⟨_, _, rfl, run_takeDeferred hD, ?_⟩⟩
  exact ⟨_, hr, h⟩
theorem putObj_ext {w W : World} {D : Nat} (o : Obj) (h : Ext w W) (hD : w.heap.size ≤ D) : Ext w (W.putObj D o) :=
  h.grown (grownBy_putObj' W D o) (fun k e => by cases e; exact hD)
end Go.Proofs.YtoefmncdloffaaaDoor


namespace Go.Proofs.YtoefmncdloffaaaDoor
open Go.RowKit
attribute [local go_sem] Oper.semAt_some
theorem chunk_any (A : Option Addr) (n c : Nat) (w : World) :
    Calls Tryd.prog 136 #[.slice A n c, .int .i64 64] w fun e w' => e = .returned (.func (.func 163) #[] #[.pointer (some ⟨w.heap.size, 0, none⟩), .pointer (some ⟨w.heap.size + 1, 0, none⟩)]) ∧
      (w.alloc (.cells #[.slice A n c] 29)).alloc (.cells #[.int .i64 64] 3) = w' := by
  go_enter Tryd.func136, Tryd.ntmps136
  go_wp2
  go_ret
  exact ⟨rfl, rfl⟩
theorem fin_step (m k : Nat) (h : k < m) : (List.finRange m).take (k + 1) = (List.finRange m).take k ++ [⟨k, h⟩] := by
  rw [take_step _ k (by simpa using h)]
  simp
theorem fin_map (m : Nat) : (List.finRange m).map Fin.val = List.range m := by
  apply List.ext_getElem
  · simp
  · intro i h1 h2; simp
set_option maxHeartbeats 1000000 in
theorem chunk_stops (b o c m : Nat) (Bs Bn : Nat) (S : Nat → Prop) (w : World) (hm : 64 * m ≤ 1000000000) (hc : 64 * m ≤ c) (hs : ¬ S Bs) (hn : ¬ S Bn)
    (h1 : w.cell? ⟨Bs, 0, none⟩ = some (.slice (some ⟨b, o, none⟩) (64 * m) c)) (h2 : w.cell? ⟨Bn, 0, none⟩ = some (.int .i64 64)) :
    SeqStopsK Fence.wide 2 Tryd.prog 163 #[.pointer (some ⟨Bs, 0, none⟩), .pointer (some ⟨Bn, 0, none⟩)] (fun x : Fin m => #[.slice (some ⟨b, o + 64 * x.val, none⟩) 64 64]) (KeepC S) (fun ys => ys = List.finRange m) (fun _ => True) m w := by
  intro l J Jx W hW hJ hJx hY h0
  have k1 := (hW.cell (p := ⟨Bs, 0, none⟩) (lt_of_cell h1)).trans h1
  have k2 := (hW.cell (p := ⟨Bn, 0, none⟩) (lt_of_cell h2)).trans h2
  clear h1 h2
  refine callsIn_wide.2 ?_
  go_enter Tryd.func163, Tryd.ntmps163
  go_wp2
  go_loopw [4] (fun i wr => ∃ k : Nat, k ≤ m ∧ i = .int .i64 ((64 * k : Nat) : Int) ∧ Hid (J ((List.finRange m).take k) wr) ∧ wr.cell? ⟨Bs, 0, none⟩ = some (.slice (some ⟨b, o, none⟩) (64 * m) c) ∧ wr.cell? ⟨Bn, 0, none⟩ = some (.int .i64 64)) (fun i _ => 64 * m - (intOf i).toNat)
  case atStart => exact ⟨0, Nat.zero_le _, rfl, hide h0, k1, k2⟩
  case round =>
    obtain ⟨k, hk, rfl, hj, g1, g2⟩ := hrel
    by_cases hlt : k < m
    · have e1 : ¬ 64 * k = c := by omega
      have e2 : 64 * k < 64 * m := by omega
      have e3 : 64 ≤ 64 * m - 64 * k := by omega
      go_wp2
      go_quiet (fail)
      go_upto_region 4 with fail
      have hj' := hJ _ _ (wr.drewN nq) none (unhide hj) ⟨rfl, rfl, rfl, Nat.le_refl _, fun _ _ _ => rfl⟩ (fun r e => by cases e)
      obtain ⟨fn, tmps, assign, body, hy, hR⟩ := hY ((List.finRange m).take k) ⟨k, hlt⟩ (wr.drewN nq) hj' (by simp; omega)
      dsimp only at hy
      refine (wpIn_wide (n := 2)).1 ?_
      gi_wp2
      clear hy
      refine hR.mono ?_
      rintro e W3 (⟨rfl, hJ3, hk3⟩ | ⟨rfl, hJx3⟩)
      · have g1' := hk3 _ _ hs g1
        have g2' := hk3 _ _ hn g2
        have hJ4 := hide hJ3
        clear hJ3 hk3
        gi_wp2
        go_wp2
        go_roundw
        case rel => exact ⟨k + 1, by omega, by go_num, hide (by rw [fin_step m k hlt]; exact unhide hJ4), g1', g2'⟩
        case measure => simp [intOf]; omega
      · gi_wp2
        go_wp2
        refine bodyPost_ret (results_none rfl _ _ _) rfl ?_
        exact ⟨⟨_, rfl⟩, .inr ⟨_, trivial, hJx3⟩⟩
    · obtain rfl : k = m := by omega
      go_wp2
      go_end0
      exact ⟨⟨_, rfl⟩, .inl ⟨_, rfl, by have := unhide hj; rwa [List.take_of_length_le (by simp)] at this⟩⟩
end Go.Proofs.YtoefmncdloffaaaDoor
