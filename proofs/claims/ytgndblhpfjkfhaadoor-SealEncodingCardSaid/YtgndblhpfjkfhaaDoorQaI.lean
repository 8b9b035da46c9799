/-
  Several texts in one file: each has its own heading below.
-/
import Derived.Test.YtgndblhpfjkfhaaDoorQaH
import Derived.Test.YtgndblhpfjkfhaaDoorQaE
import Derived.Outline
import Derived.Test.YtgndblhpfjkfhaaDoorQaF
import Derived.StillTailTactics
import Derived.BigRegion
import Derived.Test.YtgndblhpfjkfhaaDoorQaG

/-
  Two digests laid into two new blocks by a region that draws its order.
-/
namespace Go.Proofs.YtgndblhpfjkfhaaDoor
open Go.RowKit

def ptr (g : Nat) : Value := .pointer (some ⟨g, 0, none⟩)
theorem ptr_inj {a b : Nat} (h : ptr a = ptr b) : a = b := by cases h; rfl
def Fresh (w0 : World) (v : Value) (W : World) : Prop := ∃ g, v = ptr g ∧ w0.heap.size ≤ g ∧ ∃ cs : Array Value, cs.size = 16 ∧ Blk W g 23 cs
def Filled (w0 : World) (u : Value) (a : Array Value) (W : World) : Prop := ∃ g, u = ptr g ∧ w0.heap.size ≤ g ∧ Blk W g 23 a
theorem Fresh.ext {w0 : World} {v : Value} {W W' : World} (h : Fresh w0 v W) (hE : Ext W W') : Fresh w0 v W' := by
  obtain ⟨g, h1, h2, cs, h3, h4⟩ := h
  exact ⟨g, h1, h2, cs, h3, h4.ext hE⟩
theorem Filled.ext {w0 : World} {u : Value} {a : Array Value} {W W' : World} (h : Filled w0 u a W) (hE : Ext W W') : Filled w0 u a W' := by
  obtain ⟨g, h1, h2, h4⟩ := h
  exact ⟨g, h1, h2, h4.ext hE⟩
theorem Fresh.set {w0 : World} {v : Value} {W W' : World} {g : Nat} (h : Fresh w0 v W) (hc : Chg (fun k => k = g) W W') (hn : v ≠ ptr g) : Fresh w0 v W' := by
  obtain ⟨g', h1, h2, cs, h3, h4⟩ := h
  exact ⟨g', h1, h2, cs, h3, h4.chg hc (fun e => hn (by rw [h1, e]))⟩
theorem Filled.set {w0 : World} {u : Value} {a : Array Value} {W W' : World} {g : Nat} (h : Filled w0 u a W) (hc : Chg (fun k => k = g) W W') (hn : u ≠ ptr g) : Filled w0 u a W' := by
  obtain ⟨g', h1, h2, h4⟩ := h
  exact ⟨g', h1, h2, h4.chg hc (fun e => hn (by rw [h1, e]))⟩
theorem Fresh.new (w0 W : World) (h : w0.heap.size ≤ W.heap.size) (cs : Array Value) (hs : cs.size = 16) : Fresh w0 (ptr W.heap.size) (W.alloc (.cells cs 23)) := ⟨_, rfl, h, cs, hs, Blk.new _ _ _⟩
theorem Fresh.ne {w0 : World} {v : Value} {W : World} (h : Fresh w0 v W) : v ≠ ptr W.heap.size := by
  obtain ⟨g, h1, _, cs, _, h4⟩ := h
  intro e
  have := ptr_inj (h1.symm.trans e)
  have := h4.lt
  omega

/-- The facts: of the operations ahead by their values alone; of the two allocs i1, i1 + 1; of the two stores behind them. -/
def TwoF (P : Nat → Value → Prop) (i1 : Nat) (w0 : World) (ca ha : Array Value) : Nat → Value → Value → World → Prop := fun i v u W =>
  if i = i1 then Fresh w0 v W else if i = i1 + 1 then Fresh w0 v W else if i = i1 + 2 then Filled w0 u ca W else if i = i1 + 3 then Filled w0 u ha W else P i v
def twoLink (i1 : Nat) : Nat → Nat := fun i => if i = i1 + 2 then i1 else if i = i1 + 3 then i1 + 1 else i
/-- What the base says: nothing that was there has changed, and the two blocks differ. -/
def TwoB (i1 : Nat) (w0 : World) : (Nat → Bool) → (Nat → Value) → World → Prop := fun L xs W => Ext w0 W ∧ (L i1 = true → L (i1 + 1) = true → xs i1 ≠ xs (i1 + 1))
section
variable {P : Nat → Value → Prop} {i1 : Nat} {w0 : World} {ca ha : Array Value} {i : Nat} {v u : Value} {W W' : World} {L : Nat → Bool} {xs : Nat → Value}
theorem TwoF.ext (h : TwoF P i1 w0 ca ha i v u W) (hE : Ext W W') : TwoF P i1 w0 ca ha i v u W' := by
  unfold TwoF at h ⊢
  split
  · rename_i e; rw [if_pos e] at h; exact h.ext hE
  · rename_i e; rw [if_neg e] at h
    split
    · rename_i e; rw [if_pos e] at h; exact h.ext hE
    · rename_i e; rw [if_neg e] at h
      split
      · rename_i e; rw [if_pos e] at h; exact h.ext hE
      · rename_i e; rw [if_neg e] at h
        split
        · rename_i e; rw [if_pos e] at h; exact h.ext hE
        · rename_i e; rw [if_neg e] at h; exact h
theorem TwoF.set {g : Nat} (h : TwoF P i1 w0 ca ha i v u W) (hc : Chg (fun k => k = g) W W') (h1 : i = i1 → v ≠ ptr g) (h2 : i = i1 + 1 → v ≠ ptr g) (h3 : i = i1 + 2 → u ≠ ptr g) (h4 : i = i1 + 3 → u ≠ ptr g) : TwoF P i1 w0 ca ha i v u W' := by
  unfold TwoF at h ⊢
  split
  · rename_i e; rw [if_pos e] at h; exact h.set hc (h1 e)
  · rename_i e; rw [if_neg e] at h
    split
    · rename_i e; rw [if_pos e] at h; exact h.set hc (h2 e)
    · rename_i e; rw [if_neg e] at h
      split
      · rename_i e; rw [if_pos e] at h; exact h.set hc (h3 e)
      · rename_i e; rw [if_neg e] at h
        split
        · rename_i e; rw [if_pos e] at h; exact h.set hc (h4 e)
        · rename_i e; rw [if_neg e] at h; exact h
theorem TwoB.other (h : TwoB i1 w0 L xs W) (hE : Ext W W') (h1 : i ≠ i1) (h2 : i ≠ i1 + 1) : TwoB i1 w0 (fun j => if j = i then true else L j) (upd xs i v) W' := by
  refine ⟨h.1.trans hE, fun a b => ?_⟩
  dsimp only at a b
  rw [if_neg (fun e => h1 e.symm)] at a
  rw [if_neg (fun e => h2 e.symm)] at b
  rw [show upd xs i v i1 = xs i1 from if_neg (fun e => h1 e.symm), show upd xs i v (i1 + 1) = xs (i1 + 1) from if_neg (fun e => h2 e.symm)]
  exact h.2 a b
theorem TwoB.store {g : Nat} (h : TwoB i1 w0 L xs W) (hc : Chg (fun k => k = g) W W') (hg : w0.heap.size ≤ g) (h1 : i ≠ i1) (h2 : i ≠ i1 + 1) : TwoB i1 w0 (fun j => if j = i then true else L j) (upd xs i v) W' := by
  refine ⟨h.1.trans' hc (fun _ _ h => h) (fun k hk e => by omega), fun a b => ?_⟩
  dsimp only at a b
  rw [if_neg (fun e => h1 e.symm)] at a
  rw [if_neg (fun e => h2 e.symm)] at b
  rw [show upd xs i v i1 = xs i1 from if_neg (fun e => h1 e.symm), show upd xs i v (i1 + 1) = xs (i1 + 1) from if_neg (fun e => h2 e.symm)]
  exact h.2 a b
theorem TwoB.first (h : TwoB i1 w0 L xs W) (hE : Ext W W') (hf : L (i1 + 1) = true → xs (i1 + 1) ≠ v) : TwoB i1 w0 (fun j => if j = i1 then true else L j) (upd xs i1 v) W' := by
  refine ⟨h.1.trans hE, fun _ b => ?_⟩
  dsimp only at b
  rw [if_neg (by omega)] at b
  rw [show upd xs i1 v i1 = v from if_pos rfl, show upd xs i1 v (i1 + 1) = xs (i1 + 1) from if_neg (by omega)]
  exact (hf b).symm
theorem TwoB.second (h : TwoB i1 w0 L xs W) (hE : Ext W W') (hf : L i1 = true → xs i1 ≠ v) : TwoB i1 w0 (fun j => if j = i1 + 1 then true else L j) (upd xs (i1 + 1) v) W' := by
  refine ⟨h.1.trans hE, fun a _ => ?_⟩
  dsimp only at a
  rw [if_neg (by omega)] at a
  rw [show upd xs (i1 + 1) v (i1 + 1) = v from if_pos rfl, show upd xs (i1 + 1) v i1 = xs i1 from if_neg (by omega)]
  exact hf a
end

theorem wp_loadM {P : Program} {o : Oper} {a : Act} {w : World} {K : Act → World → Prop} {Q : Exit → Act → World → Prop} {ty : TypeId} {x : Operand} (ho : o.op = .load ty x) {n : Nat} (Wd : Wide P ty n)
    {g off : Nat} (hx : a.eval x = .pointer (some ⟨g, off, none⟩)) {cs : List Value} (hB : w.rangeAt g off cs) (hn : cs.length = n) (h : K (a.put o.dst (.agg cs.toArray)) w) : o.wp P a w K Q := by
  obtain ⟨d, hu, hd⟩ := Wd.und
  exact wp_load_mid ty x ho g off hx cs d hB hu hd (by rw [hn]; exact Wd.info) h

end Go.Proofs.YtgndblhpfjkfhaaDoor

/-
  The facts of the region in which a box's tag is made again (BoxAuthentic, BoxTampered).
-/
namespace Go.Proofs.YtgndblhpfjkfhaaDoor
open Go.RowKit

def AuthF (w0 : World) (gd gb : Nat) (nonce : Int) (c : ByteArray) (l1 l2 : List UInt8) (macA : Array Value) : Nat → Value → Value → World → Prop
  | 0, v, _, _ => v = .slice (some ⟨gd, 0, none⟩) 16 16
  | 1, v, _, W => W.ownsRow w0.heap.size 5 1 v 0 []
  | 2, v, _, _ => v = .pointer (some ⟨gb, 0, none⟩)
  | 3, v, _, _ => v = .int .i64 nonce
  | 4, v, _, W => ∃ A cc, v = .slice A l1.length cc ∧ Reads W 1 (.slice A l1.length cc) l1.length (l1.map u8v)
  | 5, v, _, W => W.ownsRow w0.heap.size 5 1 v l1.length (l1.map u8v)
  | 6, v, _, _ => v = .pointer (some ⟨gb, 1, none⟩)
  | 7, v, _, _ => v = .string c
  | 8, v, _, W => ∃ A cc, v = .slice A l2.length cc ∧ Reads W 1 (.slice A l2.length cc) l2.length (l2.map u8v)
  | 9, v, _, W => ∃ A cc, v = .slice A (l1.length + l2.length) cc ∧ Reads W 1 (.slice A (l1.length + l2.length) cc) (l1.length + l2.length) (l1.map u8v ++ l2.map u8v)
  | 10, v, _, _ => v = .agg macA
  | 11, v, _, W => Fresh w0 v W
  | 12, _, u, W => Filled w0 u macA W
  | _, _, _, _ => True
section
variable {w0 : World} {gd gb : Nat} {nonce : Int} {c : ByteArray} {l1 l2 : List UInt8} {macA : Array Value} {i : Nat} {v u : Value} {W W' : World}
theorem AuthF.ext (h : AuthF w0 gd gb nonce c l1 l2 macA i v u W) (hE : Ext W W') : AuthF w0 gd gb nonce c l1 l2 macA i v u W' := by
  unfold AuthF at h ⊢
  split at h <;> try exact h
  · exact ownsRow_ext h hE
  · obtain ⟨A, cc, h1, h2⟩ := h; exact ⟨A, cc, h1, h2.ext hE⟩
  · exact ownsRow_ext h hE
  · obtain ⟨A, cc, h1, h2⟩ := h; exact ⟨A, cc, h1, h2.ext hE⟩
  · obtain ⟨A, cc, h1, h2⟩ := h; exact ⟨A, cc, h1, h2.ext hE⟩
  · exact h.ext hE
  · exact h.ext hE
theorem AuthF.any (h : AuthF w0 gd gb nonce c l1 l2 macA i v u W) (h1 : i ≠ 1) (h4 : i ≠ 4) (h5 : i ≠ 5) (h8 : i ≠ 8) (h9 : i ≠ 9) (h11 : i ≠ 11) (h12 : i ≠ 12) : AuthF w0 gd gb nonce c l1 l2 macA i v u W' := by
  unfold AuthF at h ⊢
  split at h <;> first | exact h | omega
end

end Go.Proofs.YtgndblhpfjkfhaaDoor

/-
  The reference's rot, word, words.
-/
namespace Go.Proofs.YtgndblhpfjkfhaaDoor
open Go.RowKit

theorem rot_any (x : UInt32) (n : Nat) (nI : Int) (hI : nI = (n : Int)) (w : World) (hn : 0 < n) (hn2 : n < 32) :
    Calls Tryd.prog 162 #[.int .u32 (x.toNat : Int), .int .i64 nI] w fun e w' => e = .returned (.int .u32 ((rotrW x (UInt32.ofNat n)).toNat : Int)) ∧ ∃ k, w' = w.drewN k := by
  subst hI
  have h0 := hide (show bits BinOp.or IntKind.u32 ((x.toNat : Int) / 2 ^ n) ((x.toNat : Int) * 2 ^ (32 - n) % 4294967296) = ((rotrW x (UInt32.ofNat n)).toNat : Int) from by
    rw [shl32 x (32 - n) (by omega), shr32 x n hn2, or32]
    unfold rotrW
    have e : UInt32.ofNat (32 - n) = 32 - UInt32.ofNat n := by
      apply UInt32.toNat_inj.1
      rw [UInt32.toNat_sub]
      simp
      omega
    rw [e])
  have hx := x.toNat_lt
  have h2 : IntKind.i64.wrap (32 - (n : Int)) = ((32 - n : Nat) : Int) := by
    rw [show (32 : Int) - (n : Int) = ((32 - n : Nat) : Int) by omega]
    exact IntWalk.i64_in _ (by omega)
  go_enter Tryd.func162, Tryd.ntmps162
  go_wp2
  go_quiet (fail)
  go_wp2
  go_ret
  exact ⟨ret_int (unhide h0), _, rfl⟩

theorem u32_row : SlTy Tryd.prog 186 159 1 4 := SlTy.mk' (z := .int .u32 0) (by kernel_rfl) (by kernel_rfl) rfl (by omega) (by omega)
/-- A hexadecimal digit, and word i of a hexadecimal text. -/
def hexD (c : UInt8) : UInt32 := if 97 ≤ c.toNat then (c - 97 + 10).toUInt32 else (c - 48).toUInt32
def hexAt (l : List UInt8) (i k : Nat) : UInt32 := ((l.drop (8 * i)).take k).foldl (fun w c => 16 * w + hexD c) 0
def hexWord (l : List UInt8) (i : Nat) : UInt32 := hexAt l i 8
theorem hexAt_step (l : List UInt8) (i k : Nat) (h : 8 * i + k < l.length) : hexAt l i (k + 1) = 16 * hexAt l i k + hexD l[8 * i + k] := by
  unfold hexAt
  rw [take_step _ k (by simp; omega), List.foldl_append]
  simp
theorem hex_lo (c : UInt8) (h : c.toNat < 97) : ((c.toNat : Int) - 48) % 256 = ((hexD c).toNat : Int) := by
  unfold hexD
  rw [if_neg (by omega), UInt8.toNat_toUInt32, UInt8.toNat_sub, show (48 : UInt8).toNat = 48 from rfl]
  have := c.toNat_lt
  omega
theorem hex_hi (c : UInt8) (h : 97 ≤ c.toNat) : (c.toNat : Int) - 97 + 10 = ((hexD c).toNat : Int) := by
  unfold hexD
  rw [if_pos h, UInt8.toNat_toUInt32, UInt8.toNat_add, UInt8.toNat_sub, show (97 : UInt8).toNat = 97 from rfl, show (10 : UInt8).toNat = 10 from rfl]
  have := c.toNat_lt
  omega
theorem hex_next (a d : UInt32) : (16 * (a.toNat : Int) % 4294967296 + (d.toNat : Int)) % 4294967296 = ((16 * a + d).toNat : Int) := by
  rw [UInt32.toNat_add, UInt32.toNat_mul]
  simp

set_option maxHeartbeats 1000000 in
theorem word_any (s : ByteArray) (i : Nat) (w : World) (hs : s.size ≤ 100000) (hi : 8 * i + 8 ≤ s.size) :
    Calls Tryd.prog 161 #[.string s, .int .i64 (i : Int)] w fun e w' => e = .returned (.int .u32 ((hexWord s.data.toList i).toNat : Int)) ∧ w = w' := by
  have e8 : IntKind.i64.wrap (8 * (i : Int)) = 8 * (i : Int) := IntWalk.i64_in _ (by omega)
  go_enter Tryd.func161, Tryd.ntmps161
  go_wp2
  go_loop [5, 6] (fun a b => ∃ k : Nat, k ≤ 8 ∧ b = .int .i64 ((8 * i + k : Nat) : Int) ∧ a = .int .u32 ((hexAt s.data.toList i k).toNat : Int)) (fun _ b => 8 * i + 8 - (intOf b).toNat)
  case atStart => exact ⟨0, Nat.zero_le _, by simp, rfl⟩
  case round =>
    obtain ⟨k, hk, rfl, rfl⟩ := hrel
    by_cases hlt : k < 8
    · have hj : 8 * i + k < s.size := by omega
      have HS := hide (hexAt_step s.data.toList i k (by rw [Array.length_toList]; exact hj))
      have hc := s[8 * i + k].toNat_lt
      have HC : Hid (s.data.toList[8 * i + k]'(by rw [Array.length_toList]; exact hj) = s[8 * i + k]) := hide (by rw [Array.getElem_toList]; rfl)
      have ha := (hexAt s.data.toList i k).toNat_lt
      have HN := hide (fun d => hex_next (hexAt s.data.toList i k) d)
      generalize hexAt s.data.toList i k = acc at *
      have e1 : decide (((8 * i + k : Nat) : Int) < 8 * (i : Int) + 8) = true := decide_eq_true (by omega)
      by_cases h97 : 97 ≤ s[8 * i + k].toNat
      · have HX := hide (hex_hi s[8 * i + k] h97)
        go_wp2
        go_round
        case rel => exact ⟨k + 1, by omega, by go_num, int_eq (by rw [unhide HX, unhide HS, unhide HC]; exact unhide HN _)⟩
        case measure => simp [intOf]; omega
      · have HX := hide (hex_lo s[8 * i + k] (by omega))
        go_wp2
        go_round
        case rel => exact ⟨k + 1, by omega, by go_num, int_eq (by rw [unhide HX, unhide HS, unhide HC]; exact unhide HN _)⟩
        case measure => simp [intOf]; omega
    · obtain rfl : k = 8 := by omega
      have e1 : decide (((8 * i + 8 : Nat) : Int) < 8 * (i : Int) + 8) = false := decide_eq_false (by omega)
      go_wp2
      go_ret
      exact ⟨rfl, rfl⟩


set_option maxHeartbeats 1000000 in
theorem words_any (s : ByteArray) (n : Nat) (nI : Int) (hI : nI = (n : Int)) (w : World) (hs : s.size ≤ 100000) (hn : 8 * n ≤ s.size) :
    Calls Tryd.prog 159 #[.string s, .int .i64 nI] w fun e w' => ∃ A c, e = .returned (.slice A n c) ∧ w'.ownsRow w.heap.size 159 1 (.slice A n c) n (((List.range n).map (hexWord s.data.toList)).map w32) ∧ Ext w w' := by
  subst hI
  go_enter Tryd.func159, Tryd.ntmps159
  go_wp2
  go_loopw [5, 6] (fun b i wr => ∃ (k : Nat) (A : Option Addr) (c : Nat), k ≤ n ∧ i = .int .i64 k ∧ b = .slice A k c ∧ Hid (wr.ownsRow w.heap.size 159 1 (.slice A k c) k (((List.range k).map (hexWord s.data.toList)).map w32) ∧ Ext w wr)) (fun _ i _ => n - (intOf i).toNat)
  case atStart => exact ⟨0, none, 0, Nat.zero_le _, rfl, rfl, hide ⟨World.ownsRow_nil _ _ _ _, Ext.refl _⟩⟩
  case round =>
    obtain ⟨k, A, c, hk, rfl, rfl, HI⟩ := hrel
    by_cases hlt : k < n
    · have HX := hide (show ((List.range (k + 1)).map (hexWord s.data.toList)).map w32 = ((List.range k).map (hexWord s.data.toList)).map w32 ++ [w32 (hexWord s.data.toList k)] from by rw [List.range_succ]; simp)
      have HW := hide (fun W => word_any s k W hs (by omega))
      generalize hexWord s.data.toList k = x at *
      go_wp2_with (first
        | (go_at_call 161; refine (unhide HW _).mono ?_; rintro e w' ⟨rfl, rfl⟩)
        | (at_builtin; refine wpList_app rfl rfl u32_row rfl (ownsRow_ext (unhide HI).1 ((Ext.refl _).alloc _)) rfl (Reads.new1 _ _ _) (AllOne.one rfl) (by omega) (Nat.le_trans (unhide HI).2.size' (by simp)) ?_; intro A' c' w2 ho hc hv; have HQ := hide (And.intro ho (And.intro hc hv)); clear ho hc hv))
      go_roundw
      case rel =>
        refine ⟨k + 1, A', c', by omega, by go_num, rfl, hide ⟨by rw [unhide HX]; exact (unhide HQ).1, ?_⟩⟩
        exact Onto.new_ext (unhide HI).2 (((Onto.refl _ _).ext ((Ext.refl wr).alloc _)).trans (Onto.app (unhide HQ).2.1 (unhide HQ).2.2)) (fun q hq => ((unhide HI).1.lt q hq).1)
      case measure => simp [intOf]; omega
    · obtain rfl : k = n := by omega
      go_wp2
      go_ret
      exact ⟨_, _, rfl, (unhide HI).1, (unhide HI).2⟩

end Go.Proofs.YtgndblhpfjkfhaaDoor

/-
  Cells of slices of bytes and of words.
-/
namespace Go.Proofs.YtgndblhpfjkfhaaDoor
open Go.RowKit

theorem Reads.at_ {w : World} {b o n c : Nat} {xs : List Value} (h : Reads w 1 (.slice (some ⟨b, o, none⟩) n c) n xs) {j : Nat} {u : Value} (hj : xs[j]? = some u) : w.cell? ⟨b, o + j, none⟩ = some u := by
  obtain ⟨hl, A, c', e, _, _, hc⟩ := h
  have hjl : j < xs.length := by
    rcases Nat.lt_or_ge j xs.length with h | h
    · exact h
    · rw [List.getElem?_eq_none h] at hj; cases hj
  obtain ⟨b', o', e', hcc⟩ := hc (by omega)
  cases e
  cases e'
  exact hcc j u hj
theorem Reads.byteAt {w : World} {b o n c : Nat} {l : List UInt8} (h : Reads w 1 (.slice (some ⟨b, o, none⟩) n c) n (l.map u8v)) {j : Nat} (hj : j < l.length) : w.cell? ⟨b, o + j, none⟩ = some (.int .u8 ((l.getD j 0).toNat : Int)) :=
  h.at_ (by rw [List.getElem?_map, List.getD_eq_getElem?_getD, List.getElem?_eq_getElem hj]; rfl)
theorem Reads.wordAt {w : World} {b o n c : Nat} {l : List UInt32} (h : Reads w 1 (.slice (some ⟨b, o, none⟩) n c) n (l.map w32)) {j : Nat} (hj : j < l.length) : w.cell? ⟨b, o + j, none⟩ = some (.int .u32 ((l.getD j 0).toNat : Int)) :=
  h.at_ (by rw [List.getElem?_map, List.getD_eq_getElem?_getD, List.getElem?_eq_getElem hj]; rfl)
theorem Reads.slice_lt {w : World} {b o n c : Nat} {xs : List Value} (h : Reads w 1 (.slice (some ⟨b, o, none⟩) n c) n xs) (hn : 0 < n) : b < w.heap.size ∧ n ≤ c ∧ c ≤ maxLen := by
  obtain ⟨b', o', c', u, e, h1, h2, h3, _⟩ := h.at1 hn
  cases e
  exact ⟨h3, h1, h2⟩

/-- A slice of bytes of the call's own, that grows: its block lies at B or above, nothing that was there at w0 has changed. -/
structure GB (w0 : World) (B : Nat) (v : Value) (n : Nat) (l : List UInt8) (wr : World) : Prop where
  own : wr.ownsRow B 5 1 v n (l.map u8v)
  ext : Ext w0 wr
  base : w0.heap.size ≤ B
  room : B ≤ wr.heap.size
theorem GB.nil {w0 wr : World} {B : Nat} (hE : Ext w0 wr) (hB : w0.heap.size ≤ B) (hR : B ≤ wr.heap.size) : GB w0 B (.slice none 0 0) 0 [] wr := ⟨World.ownsRow_nil _ _ _ _, hE, hB, hR⟩
theorem GB.len {w0 wr : World} {B n : Nat} {v : Value} {l : List UInt8} (h : GB w0 B v n l wr) : l.length = n := by have := h.own.1; simpa using this
theorem GB.to {w0 wr w1 : World} {B n : Nat} {v : Value} {l : List UInt8} (h : GB w0 B v n l wr) (hE : Ext wr w1) : GB w0 B v n l w1 := ⟨ownsRow_ext h.own hE, h.ext.trans hE, h.base, Nat.le_trans h.room hE.size'⟩
theorem GB.step {w0 wr w1 w2 : World} {B n n' : Nat} {v v' : Value} {l l' : List UInt8} (h : GB w0 B v n l wr) (hE : Ext wr w1) (hc : Chg (fun k => v.ownBlock = some k) w1 w2) (ho : w2.ownsRow B 5 1 v' n' (l'.map u8v)) : GB w0 B v' n' l' w2 :=
  ⟨ho, (h.ext.trans hE).trans' hc (fun _ _ h => h) (fun i hi e => by have := (h.own.lt i e).1; have := h.base; omega), h.base, Nat.le_trans h.room (Nat.le_trans hE.size' hc.size)⟩
theorem GB.blk {w0 wr w1 w2 : World} {B n : Nat} {v : Value} {l : List UInt8} (h : GB w0 B v n l wr) (hE : Ext wr w1) (hc : Chg (fun k => v.ownBlock = some k) w1 w2) {g : Nat} {t : TypeId} {cs : Array Value} (hb : Blk wr g t cs) (hg : g < B) : Blk w2 g t cs :=
  (hb.ext hE).chg hc (fun e => by have := (h.own.lt g e).1; omega)
theorem GB.reads {w0 wr : World} {B n : Nat} {v : Value} {l : List UInt8} (h : GB w0 B v n l wr) : Reads wr 1 v n (l.map u8v) := Reads.of_own h.own

/-- Bytes, and zeros behind them up to n. -/
def bytesTo (n : Nat) (l : List UInt8) : Array Value := (l.map u8v ++ List.replicate (n - l.length) (Value.int .u8 0)).toArray
theorem bytesTo_get {n : Nat} {l : List UInt8} {i : Nat} (h : i < l.length) : (bytesTo n l)[i]? = some (.int .u8 ((l.getD i 0).toNat : Int)) := by
  unfold bytesTo
  rw [List.getElem?_toArray, List.getElem?_append_left (by simpa using h), List.getElem?_map, List.getD_eq_getElem?_getD, List.getElem?_eq_getElem h]
  rfl
theorem bytesTo_zero_at {n : Nat} {l : List UInt8} {i : Nat} (h : l.length ≤ i) (hi : i < n) : (bytesTo n l)[i]? = some (.int .u8 0) := by
  unfold bytesTo
  rw [List.getElem?_toArray, List.getElem?_append_right (by simpa using h), List.getElem?_replicate, if_pos (by simp; omega)]
theorem bytesTo_set {n k : Nat} {l : List UInt8} (x : UInt8) (hl : l.length = k) (h : k < n) : (bytesTo n l).setIfInBounds k (.int .u8 (x.toNat : Int)) = bytesTo n (l ++ [x]) := by
  subst hl
  unfold bytesTo
  rw [show n - l.length = (n - (l ++ [x]).length) + 1 from by simp; omega, List.replicate_succ]
  simp [u8v]
theorem bytesTo_nil (n : Nat) : bytesTo n [] = Array.replicate n (Value.int .u8 0) := by
  unfold bytesTo
  simp
theorem bytesTo_size {n : Nat} {l : List UInt8} (h : l.length ≤ n) : (bytesTo n l).size = n := by
  unfold bytesTo
  simp
  omega
theorem bytesTo_all {n : Nat} {l : List UInt8} (h : l.length = n) : bytesTo n l = (l.map u8v).toArray := by
  unfold bytesTo
  rw [h, Nat.sub_self]
  simp

end Go.Proofs.YtgndblhpfjkfhaaDoor

/-
  The reference's compress.
-/
namespace Go.Proofs.YtgndblhpfjkfhaaDoor
open Go.RowKit

/-- What the first two loops keep. -/
def RSch (w : World) (bs : List UInt8) (k : Nat) (wr : World) : Prop :=
  Blk wr w.heap.size 159 (wordsTo 64 (schedAt bs k)) ∧ Ext w wr

theorem be4 (bs : List UInt8) (k : Nat) (h : 4 * k + 3 < bs.length) : beWord ((bs.drop (4 * k)).take 4) = ((((bs.getD (4 * k) 0).toUInt32 <<< 24) ||| ((bs.getD (4 * k + 1) 0).toUInt32 <<< 16)) ||| ((bs.getD (4 * k + 2) 0).toUInt32 <<< 8)) ||| (bs.getD (4 * k + 3) 0).toUInt32 := by
  have e : (bs.drop (4 * k)).take 4 = [bs.getD (4 * k) 0, bs.getD (4 * k + 1) 0, bs.getD (4 * k + 2) 0, bs.getD (4 * k + 3) 0] := by
    apply List.ext_getElem?
    intro i
    rw [List.getElem?_take, List.getElem?_drop]
    match i with
    | 0 => simp; rw [List.getElem?_eq_getElem (by omega)]; rfl
    | 1 => simp; rw [List.getElem?_eq_getElem (by omega)]; rfl
    | 2 => simp; rw [List.getElem?_eq_getElem (by omega)]; rfl
    | 3 => simp; rw [List.getElem?_eq_getElem (by omega)]; rfl
    | i + 4 => simp; omega
  rw [e]
  generalize bs.getD (4 * k) 0 = a
  generalize bs.getD (4 * k + 1) 0 = b
  generalize bs.getD (4 * k + 2) 0 = c
  generalize bs.getD (4 * k + 3) 0 = d
  unfold beWord
  simp only [List.foldl_cons, List.foldl_nil]
  apply UInt32.eq_of_toBitVec_eq
  simp
  have e1 : ∀ x : BitVec 32, (x <<< 8) <<< 8 = x <<< 16 := fun x => by rw [← BitVec.shiftLeft_add]
  have e2 : ∀ x : BitVec 32, (x <<< 16) <<< 8 = x <<< 24 := fun x => by rw [← BitVec.shiftLeft_add]
  simp only [BitVec.shiftLeft_or_distrib, e1, e2]
theorem mod8 (y : UInt8) : (y.toNat : Int) % 4294967296 = (y.toNat : Int) := by have := y.toNat_lt; omega
theorem sched_next (bs : List UInt8) (j : Nat) : schedAt bs (j + 16 + 1) = schedAt bs (j + 16) ++ [(schedAt bs (j + 16)).getD j 0 + ((rotrW ((schedAt bs (j + 16)).getD (j + 1) 0) 7 ^^^ rotrW ((schedAt bs (j + 16)).getD (j + 1) 0) 18) ^^^ ((schedAt bs (j + 16)).getD (j + 1) 0 >>> 3)) + (schedAt bs (j + 16)).getD (j + 9) 0 +
    ((rotrW ((schedAt bs (j + 16)).getD (j + 14) 0) 17 ^^^ rotrW ((schedAt bs (j + 16)).getD (j + 14) 0) 19) ^^^ ((schedAt bs (j + 16)).getD (j + 14) 0 >>> 10))] := by
  rw [schedAt, if_neg (by omega)]
  unfold schedNext
  simp only [schedAt_length, show j + 16 - 15 = j + 1 from by omega, show j + 16 - 2 = j + 14 from by omega, show j + 16 - 16 = j from by omega, show j + 16 - 7 = j + 9 from by omega]
theorem rot_6 (x : UInt32) (w : World) : Calls Tryd.prog 162 #[.int .u32 (x.toNat : Int), .int .i64 6] w fun e w' => e = .returned (.int .u32 ((rotrW x 6).toNat : Int)) ∧ ∃ k, w' = w.drewN k := rot_any x 6 _ rfl w (by omega) (by omega)
theorem rot_11 (x : UInt32) (w : World) : Calls Tryd.prog 162 #[.int .u32 (x.toNat : Int), .int .i64 11] w fun e w' => e = .returned (.int .u32 ((rotrW x 11).toNat : Int)) ∧ ∃ k, w' = w.drewN k := rot_any x 11 _ rfl w (by omega) (by omega)
theorem rot_25 (x : UInt32) (w : World) : Calls Tryd.prog 162 #[.int .u32 (x.toNat : Int), .int .i64 25] w fun e w' => e = .returned (.int .u32 ((rotrW x 25).toNat : Int)) ∧ ∃ k, w' = w.drewN k := rot_any x 25 _ rfl w (by omega) (by omega)
theorem rot_2 (x : UInt32) (w : World) : Calls Tryd.prog 162 #[.int .u32 (x.toNat : Int), .int .i64 2] w fun e w' => e = .returned (.int .u32 ((rotrW x 2).toNat : Int)) ∧ ∃ k, w' = w.drewN k := rot_any x 2 _ rfl w (by omega) (by omega)
theorem rot_13 (x : UInt32) (w : World) : Calls Tryd.prog 162 #[.int .u32 (x.toNat : Int), .int .i64 13] w fun e w' => e = .returned (.int .u32 ((rotrW x 13).toNat : Int)) ∧ ∃ k, w' = w.drewN k := rot_any x 13 _ rfl w (by omega) (by omega)
theorem rot_22 (x : UInt32) (w : World) : Calls Tryd.prog 162 #[.int .u32 (x.toNat : Int), .int .i64 22] w fun e w' => e = .returned (.int .u32 ((rotrW x 22).toNat : Int)) ∧ ∃ k, w' = w.drewN k := rot_any x 22 _ rfl w (by omega) (by omega)
theorem rot_7 (x : UInt32) (w : World) : Calls Tryd.prog 162 #[.int .u32 (x.toNat : Int), .int .i64 7] w fun e w' => e = .returned (.int .u32 ((rotrW x 7).toNat : Int)) ∧ ∃ k, w' = w.drewN k := rot_any x 7 _ rfl w (by omega) (by omega)
theorem rot_18 (x : UInt32) (w : World) : Calls Tryd.prog 162 #[.int .u32 (x.toNat : Int), .int .i64 18] w fun e w' => e = .returned (.int .u32 ((rotrW x 18).toNat : Int)) ∧ ∃ k, w' = w.drewN k := rot_any x 18 _ rfl w (by omega) (by omega)
theorem rot_17 (x : UInt32) (w : World) : Calls Tryd.prog 162 #[.int .u32 (x.toNat : Int), .int .i64 17] w fun e w' => e = .returned (.int .u32 ((rotrW x 17).toNat : Int)) ∧ ∃ k, w' = w.drewN k := rot_any x 17 _ rfl w (by omega) (by omega)
theorem rot_19 (x : UInt32) (w : World) : Calls Tryd.prog 162 #[.int .u32 (x.toNat : Int), .int .i64 19] w fun e w' => e = .returned (.int .u32 ((rotrW x 19).toNat : Int)) ∧ ∃ k, w' = w.drewN k := rot_any x 19 _ rfl w (by omega) (by omega)
theorem sig_val (x r s : UInt32) (n : Nat) (d : Int) (hd : d = 2 ^ n) (hn : n < 32) : bits BinOp.xor IntKind.u32 (bits BinOp.xor IntKind.u32 (r.toNat : Int) (s.toNat : Int)) ((x.toNat : Int) / d) = (((r ^^^ s) ^^^ (x >>> UInt32.ofNat n)).toNat : Int) := by
  rw [hd, shr32 x n hn, xor32, xor32]
theorem add4 (a b c d : UInt32) : ((a.toNat : Int) + (b.toNat : Int) + (c.toNat : Int) + (d.toNat : Int)) % 4294967296 = ((a + b + c + d).toNat : Int) := by
  rw [UInt32.toNat_add, UInt32.toNat_add, UInt32.toNat_add]
  omega
theorem rt_val (x7 x4 x5 x6 xk xw r1 r2 r3 : UInt32) : ((x7.toNat : Int) + bits BinOp.xor IntKind.u32 (bits BinOp.xor IntKind.u32 (r1.toNat : Int) (r2.toNat : Int)) (r3.toNat : Int) + bits BinOp.xor IntKind.u32 (bits BinOp.and IntKind.u32 (x4.toNat : Int) (x5.toNat : Int)) (bits BinOp.and IntKind.u32 (bits BinOp.xor IntKind.u32 4294967295 (x4.toNat : Int)) (x6.toNat : Int)) + (xk.toNat : Int) + (xw.toNat : Int)) % 4294967296 =
    ((x7 + (r1 ^^^ r2 ^^^ r3) + ((x4 &&& x5) ^^^ (~~~x4 &&& x6)) + xk + xw).toNat : Int) := by
  rw [show (4294967295 : Int) = IntKind.u32.max from rfl, not32, and32, and32, xor32, xor32, xor32]
  simp only [UInt32.toNat_add]
  omega
theorem ru_val (T x0 x1 x2 r1 r2 r3 : UInt32) : ((T.toNat : Int) + (bits BinOp.xor IntKind.u32 (bits BinOp.xor IntKind.u32 (r1.toNat : Int) (r2.toNat : Int)) (r3.toNat : Int) + bits BinOp.xor IntKind.u32 (bits BinOp.xor IntKind.u32 (bits BinOp.and IntKind.u32 (x0.toNat : Int) (x1.toNat : Int)) (bits BinOp.and IntKind.u32 (x0.toNat : Int) (x2.toNat : Int))) (bits BinOp.and IntKind.u32 (x1.toNat : Int) (x2.toNat : Int))) % 4294967296) % 4294967296 =
    ((T + ((r1 ^^^ r2 ^^^ r3) + (((x0 &&& x1) ^^^ (x0 &&& x2)) ^^^ (x1 &&& x2)))).toNat : Int) := by
  rw [and32, and32, and32, xor32, xor32, xor32, xor32]
  simp only [UInt32.toNat_add]
  omega
theorem fin_words (R v : List UInt32) (hR : R.length = 8) (hv : v.length = 8) : List.zipWith (· + ·) R v = [v.getD 0 0 + R.getD 0 0, v.getD 1 0 + R.getD 1 0, v.getD 2 0 + R.getD 2 0, v.getD 3 0 + R.getD 3 0, v.getD 4 0 + R.getD 4 0, v.getD 5 0 + R.getD 5 0, v.getD 6 0 + R.getD 6 0, v.getD 7 0 + R.getD 7 0] := by
  match R, hR, v, hv with
  | [a, b, c, d, e, f, g, h], _, [a', b', c', d', e', f', g', h'], _ =>
    simp [UInt32.add_comm]
theorem be4_val (a b c d : UInt8) : bits BinOp.or IntKind.u32 (bits BinOp.or IntKind.u32 (bits BinOp.or IntKind.u32 ((a.toNat : Int) * 16777216 % 4294967296) ((b.toNat : Int) * 65536 % 4294967296)) ((c.toNat : Int) * 256 % 4294967296)) (d.toNat : Int) =
    ((((a.toUInt32 <<< 24) ||| (b.toUInt32 <<< 16)) ||| (c.toUInt32 <<< 8)) ||| d.toUInt32).toNat := by
  have h24 := shl32 a.toUInt32 24 (by omega)
  have h16 := shl32 b.toUInt32 16 (by omega)
  have h8 := shl32 c.toUInt32 8 (by omega)
  rw [show (16777216 : Int) = 2 ^ 24 from rfl, show (65536 : Int) = 2 ^ 16 from rfl, show (256 : Int) = 2 ^ 8 from rfl, conv32, conv32 b, conv32 c, conv32 d, h24, h16, h8, or32, or32, or32]
  rfl

set_option maxRecDepth 100000 in
set_option maxHeartbeats 4000000 in
theorem rcompress_any (v : List UInt32) (bs : List UInt8) (vv bv kv : Value) (w : World) (hv : v.length = 8) (hb : bs.length = 64) (hrv : Reads w 1 vv 8 (v.map w32)) (hrb : Reads w 1 bv 64 (bs.map u8v)) (hrk : Reads w 1 kv 64 (shaK.map w32)) :
    Calls Tryd.prog 160 #[vv, bv, kv] w fun e w' => ∃ A, e = .returned (.slice A 8 8) ∧ Reads w' 1 (.slice A 8 8) 8 ((shaBlock v bs).map w32) ∧ Ext w w' := by
  have HV := hide (And.intro hv hrv)
  have HB := hide (And.intro hb hrb)
  have HK := hide hrk
  obtain ⟨b0, o0, c0, rfl, _, _, _, _⟩ := hrv.sub 0 8 (by omega) (by omega)
  obtain ⟨b1, o1, c1, rfl, _, _, _, _⟩ := hrb.sub 0 64 (by omega) (by omega)
  obtain ⟨b2, o2, c2, rfl, _, _, _, _⟩ := hrk.sub 0 64 (by omega) (by omega)
  clear hv hb hrv hrb hrk
  go_enter Tryd.func160, Tryd.ntmps160
  have hmk : ∀ W, (Instr.makeSlice 186 (.int .i64 64) (.int .i64 64)).run Tryd.prog W = .ok (.slice (some ⟨W.heap.size, 0, none⟩) 64 64) (W.alloc (.cells (wordsTo 64 (schedAt bs 0)) 159)) := fun _ => by kernel_rfl
  go_wp2
  clear hmk
  go_loopw [8] (fun i wr => ∃ k : Nat, k ≤ 16 ∧ i = .int .i64 k ∧ Hid (RSch w bs k wr)) (fun i _ => 16 - (intOf i).toNat)
  case atStart => exact ⟨0, Nat.zero_le _, rfl, hide ⟨Blk.new _ _ _, (Ext.refl w).alloc _⟩⟩
  case round =>
    obtain ⟨k, hk, rfl, HS⟩ := hrel
    by_cases hlt : k < 16
    --BEGIN1
    · have hL := schedAt_length bs k
      have hw : wr.cell? ⟨w.heap.size, k, none⟩ = some (.int .u32 0) ∧ wr.frozen? ⟨w.heap.size, k, none⟩ = false := ⟨by
        rw [(unhide HS).1.cell]
        unfold wordsTo
        rw [List.getElem?_toArray, List.getElem?_append_right (by simp; omega), List.getElem?_replicate, if_pos (by simp; omega)], (unhide HS).1.frozen k⟩
      obtain ⟨hw1, hw2⟩ := hw
      have hr1 := (unhide HB).2.ext (unhide HS).2
      have q0 := hr1.byteAt (j := 4 * k) (by rw [(unhide HB).1]; omega)
      have q1 := hr1.byteAt (j := 4 * k + 1) (by rw [(unhide HB).1]; omega)
      have q2 := hr1.byteAt (j := 4 * k + 2) (by rw [(unhide HB).1]; omega)
      have q3 := hr1.byteAt (j := 4 * k + 3) (by rw [(unhide HB).1]; omega)
      clear hr1
      have HX := hide (be4 bs k (by rw [(unhide HB).1]; omega))
      have HE := hide (fun a b c d => be4_val a b c d)
      generalize bs.getD (4 * k) 0 = y0 at *
      generalize bs.getD (4 * k + 1) 0 = y1 at *
      generalize bs.getD (4 * k + 2) 0 = y2 at *
      generalize bs.getD (4 * k + 3) 0 = y3 at *
      have e0 : IntKind.i64.wrap (4 * (k : Int)) = 4 * (k : Int) := IntWalk.i64_in _ (by omega)
      have e1 : IntKind.i64.wrap (4 * (k : Int) + 1) = 4 * (k : Int) + 1 := IntWalk.i64_in _ (by omega)
      have e2 : IntKind.i64.wrap (4 * (k : Int) + 2) = 4 * (k : Int) + 2 := IntWalk.i64_in _ (by omega)
      have e3 : IntKind.i64.wrap (4 * (k : Int) + 3) = 4 * (k : Int) + 3 := IntWalk.i64_in _ (by omega)
      have t0 : (4 * (k : Int)).toNat = 4 * k := by omega
      have t1 : (4 * (k : Int) + 1).toNat = 4 * k + 1 := by omega
      have t2 : (4 * (k : Int) + 2).toNat = 4 * k + 2 := by omega
      have t3 : (4 * (k : Int) + 3).toNat = 4 * k + 3 := by omega
      have z : (0 : Int) ≤ 4 * (k : Int) ∧ (0 : Int) ≤ 4 * (k : Int) + 1 ∧ (0 : Int) ≤ 4 * (k : Int) + 2 ∧ (0 : Int) ≤ 4 * (k : Int) + 3 ∧ 4 * (k : Int) < 64 ∧ 4 * (k : Int) + 1 < 64 ∧ 4 * (k : Int) + 2 < 64 ∧ 4 * (k : Int) + 3 < 64 ∧ (k : Int) < 64 := by omega
      obtain ⟨z1, z2, z3, z4, z5, z6, z7, z8, z9⟩ := z
      go_wp2_with fail
      go_still_tail 36, (by kernel_rfl)
      clear q0 q1 q2 q3
      change wpList _ _ _ _ _ wr.drew
      go_wp2
      go_roundw
      case rel =>
        refine ⟨k + 1, by omega, by go_num, hide ⟨?_, (Ext.setCell (unhide HS).2.drew (by simp) _)⟩⟩
        have h1 := (unhide HS).1.drew.set_ k (.int .u32 ((beWord ((bs.drop (4 * k)).take 4)).toNat : Int))
        rw [wordsTo_set' _ (schedAt_length bs k) (by omega)] at h1
        simp only [mod8]
        rw [unhide HE, ← unhide HX]
        rw [schedAt, if_pos hlt]
        first | exact h1.drew | exact h1
      case measure => simp [intOf]; omega
    --END1
    · obtain rfl : k = 16 := by omega
      clear hk hlt
      obtain ⟨wo, rfl⟩ : ∃ wo : World, wo = wr := ⟨_, rfl⟩
      go_wp2
      go_loopw [9] (fun i wr => ∃ k : Nat, 16 ≤ k ∧ k ≤ 64 ∧ i = .int .i64 k ∧ Hid (RSch w bs k wr)) (fun i _ => 64 - (intOf i).toNat)
      case atStart => exact ⟨16, by omega, by omega, rfl, HS⟩
      case round =>
        clear HS
        obtain ⟨k, hk16, hk, rfl, HS⟩ := hrel
        by_cases hlt : k < 64
        --BEGIN2
        · obtain ⟨j, rfl⟩ : ∃ j, k = j + 16 := ⟨k - 16, by omega⟩
          have hL := schedAt_length bs (j + 16)
          have cx : ∀ i, i < j + 16 → wr.cell? ⟨w.heap.size, i, none⟩ = some (.int .u32 (((schedAt bs (j + 16)).getD i 0).toNat : Int)) := fun i hi => by
            rw [(unhide HS).1.cell]
            exact wordsTo_get (by omega)
          have hold : wr.cell? ⟨w.heap.size, j + 16, none⟩ = some (.int .u32 0) := by
            rw [(unhide HS).1.cell]
            unfold wordsTo
            rw [List.getElem?_toArray, List.getElem?_append_right (by simp; omega), List.getElem?_replicate, if_pos (by simp; omega)]
          have HN := hide (sched_next bs j)
          have HC := hide (And.intro hold (And.intro (cx j (by omega)) (cx (j + 9) (by omega))))
          have c1 := cx (j + 1) (by omega)
          have c14 := cx (j + 14) (by omega)
          clear cx hold
          generalize (schedAt bs (j + 16)).getD j 0 = x0 at *
          generalize (schedAt bs (j + 16)).getD (j + 1) 0 = x1 at *
          generalize (schedAt bs (j + 16)).getD (j + 9) 0 = x9 at *
          generalize (schedAt bs (j + 16)).getD (j + 14) 0 = x14 at *
          have d64 : decide ((j : Int) + 16 < 64) = true := decide_eq_true (by omega)
          have hj : j < 48 := by omega
          clear hk16 hk hlt
          go_upto_region 9 with fail
          have i15 : (((j + 16 : Nat) : Int) - 15) = ((j + 1 : Nat) : Int) := by omega
          go_cut [10] (fun s wx => ∃ T : UInt32, s = .int .u32 (T.toNat : Int) ∧ Hid (T = (rotrW x1 7 ^^^ rotrW x1 18) ^^^ (x1 >>> 3) ∧ Ext wr wx))
          case first =>
            go_quiet ((first | (go_at_call 162; with_reducible exact Calls.quiet_of (rot_7 x1 _)) | (go_at_call 162; with_reducible exact Calls.quiet_of (rot_18 x1 _))))
            go_wp2_with fail
            go_meet
            exact ⟨_, int_eq (sig_val x1 _ _ 3 8 rfl (by omega)), hide ⟨rfl, (Ext.refl wr).drewN _⟩⟩
          case rest =>
            obtain ⟨T, rfl, HT⟩ := hcut
            obtain ⟨wp, rfl⟩ : ∃ wp : World, wp = wc := ⟨_, rfl⟩
            clear c1 i15
            have c14' := Ext.cellv (unhide HT).2 c14
            clear c14
            go_upto_region 10 with fail
            have i2 : (((j + 16 : Nat) : Int) - 2) = ((j + 14 : Nat) : Int) := by omega
            go_cut [11] (fun s wx => ∃ U : UInt32, s = .int .u32 (U.toNat : Int) ∧ Hid (U = (rotrW x14 17 ^^^ rotrW x14 19) ^^^ (x14 >>> 10) ∧ Ext wr wx))
            case first =>
              go_quiet ((first | (go_at_call 162; with_reducible exact Calls.quiet_of (rot_17 x14 _)) | (go_at_call 162; with_reducible exact Calls.quiet_of (rot_19 x14 _))))
              go_wp2_with fail
              go_meet
              exact ⟨_, int_eq (sig_val x14 _ _ 10 1024 rfl (by omega)), hide ⟨rfl, (unhide HT).2.drewN _⟩⟩
            case rest =>
              obtain ⟨U, rfl, HU⟩ := hcut
              obtain ⟨wq, rfl⟩ : ∃ wq : World, wq = wc := ⟨_, rfl⟩
              clear c14' i2
              have f0 := Ext.cellv (unhide HU).2 (unhide HC).1
              have f1 := Ext.cellv (unhide HU).2 (unhide HC).2.1
              have f2 := Ext.cellv (unhide HU).2 (unhide HC).2.2
              have ff := ((unhide HS).1.ext (unhide HU).2).frozen (j + 16)
              have i16 : IntKind.i64.wrap (((j + 16 : Nat) : Int) - 16) = (j : Int) := (IntWalk.i64_in _ (by omega)).trans (by omega)
              have i7 : IntKind.i64.wrap (((j + 16 : Nat) : Int) - 7) = ((j + 9 : Nat) : Int) := (IntWalk.i64_in _ (by omega)).trans (by omega)
              have i7' : IntKind.i64.wrap ((j : Int) + 16 - 7) = (j : Int) + 9 := (IntWalk.i64_in _ (by omega)).trans (by omega)
              have i9 : IntKind.i64.wrap ((j : Int) + 9) = (j : Int) + 9 := IntWalk.i64_in _ (by omega)
              have i0 : IntKind.i64.wrap (j : Int) = (j : Int) := IntWalk.i64_in _ (by omega)
              have t9 : ((j : Int) + 9).toNat = j + 9 := by omega
              have t16 : ((j : Int) + 16).toNat = j + 16 := by omega
              have b0 : (0 : Int) ≤ (j : Int) + 9 ∧ (j : Int) + 9 < 64 ∧ (j : Int) < 64 ∧ (j : Int) + 16 < 64 ∧ (0 : Int) ≤ (j : Int) + 16 := by omega
              obtain ⟨b1, b2, b3, b4, b5⟩ := b0
              go_upto_region 11 with fail
              go_still_tail 18, (by kernel_rfl)
              clear f1 f2
              change wpList _ _ _ _ _ wq.drew
              go_wp2
              go_roundw
              case rel =>
                repeat apply Exists.intro
                refine ⟨?_, rfl⟩
                refine ⟨j + 16 + 1, by omega, by omega, by go_num, hide ⟨?_, ?_⟩⟩
                · have h1 := (((unhide HS).1.ext (unhide HU).2).set_ (j + 16) (.int .u32 ((x0 + T + x9 + U).toNat : Int))).drew
                  rw [wordsTo_set' _ (schedAt_length bs (j + 16)) (by omega)] at h1
                  rw [unhide HN, add4, ← (unhide HT).1, ← (unhide HU).1]
                  exact h1
                · exact (((unhide HS).2.trans (unhide HU).2).setCell (by simp) _).drew
              case measure => simp [intOf]; omega
        --END2
        · obtain rfl : k = 64 := by omega
          clear hk16 hk hlt
          obtain ⟨wp, rfl⟩ : ∃ wp : World, wp = wr := ⟨_, rfl⟩
          have hv := (unhide HV).2.ext (unhide HS).2
          have v0 := hv.wordAt (j := 0) (by rw [(unhide HV).1]; omega)
          have v1 := hv.wordAt (j := 1) (by rw [(unhide HV).1]; omega)
          have v2 := hv.wordAt (j := 2) (by rw [(unhide HV).1]; omega)
          have v3 := hv.wordAt (j := 3) (by rw [(unhide HV).1]; omega)
          have v4 := hv.wordAt (j := 4) (by rw [(unhide HV).1]; omega)
          have v5 := hv.wordAt (j := 5) (by rw [(unhide HV).1]; omega)
          have v6 := hv.wordAt (j := 6) (by rw [(unhide HV).1]; omega)
          have v7 := hv.wordAt (j := 7) (by rw [(unhide HV).1]; omega)
          rw [Nat.add_zero] at v0
          have HVC := hide (And.intro v0 (And.intro v1 (And.intro v2 (And.intro v3 (And.intro v4 (And.intro v5 (And.intro v6 v7)))))))
          clear hv
          go_wp2
          clear v0 v1 v2 v3 v4 v5 v6 v7
          go_loopw [12, 13, 14, 15, 16, 17, 18, 19, 20] (fun a b c d e f g h i wr => ∃ k : Nat, k ≤ 64 ∧ i = .int .i64 k ∧ a = .int .u32 (((roundsAt bs v k).getD 0 0).toNat : Int) ∧ b = .int .u32 (((roundsAt bs v k).getD 1 0).toNat : Int) ∧ c = .int .u32 (((roundsAt bs v k).getD 2 0).toNat : Int) ∧ d = .int .u32 (((roundsAt bs v k).getD 3 0).toNat : Int) ∧ e = .int .u32 (((roundsAt bs v k).getD 4 0).toNat : Int) ∧ f = .int .u32 (((roundsAt bs v k).getD 5 0).toNat : Int) ∧ g = .int .u32 (((roundsAt bs v k).getD 6 0).toNat : Int) ∧ h = .int .u32 (((roundsAt bs v k).getD 7 0).toNat : Int) ∧ Hid (Ext wp wr)) (fun _ _ _ _ _ _ _ _ i _ => 64 - (intOf i).toNat)
          case atStart => exact ⟨0, Nat.zero_le _, rfl, rfl, rfl, rfl, rfl, rfl, rfl, rfl, rfl, hide (Ext.refl _)⟩
          case round =>
            obtain ⟨k, hk, rfl, rfl, rfl, rfl, rfl, rfl, rfl, rfl, rfl, HE⟩ := hrel
            by_cases hlt : k < 64
            · have cw : wr.cell? ⟨w.heap.size, k, none⟩ = some (.int .u32 (((sched bs).getD k 0).toNat : Int)) := by
                rw [((unhide HS).1.ext (unhide HE)).cell]
                exact wordsTo_get (by rw [schedAt_length]; exact hlt)
              have ck := ((unhide HK).ext ((unhide HS).2.trans (unhide HE))).wordAt (j := k) hlt
              have HN := hide (show roundsAt bs v (k + 1) = shaRound (roundsAt bs v k) (shaK.getD k 0) ((sched bs).getD k 0) from rfl)
              unfold shaRound at HN
              generalize (roundsAt bs v k).getD 0 0 = x0 at *
              generalize (roundsAt bs v k).getD 1 0 = x1 at *
              generalize (roundsAt bs v k).getD 2 0 = x2 at *
              generalize (roundsAt bs v k).getD 3 0 = x3 at *
              generalize (roundsAt bs v k).getD 4 0 = x4 at *
              generalize (roundsAt bs v k).getD 5 0 = x5 at *
              generalize (roundsAt bs v k).getD 6 0 = x6 at *
              generalize (roundsAt bs v k).getD 7 0 = x7 at *
              generalize (sched bs).getD k 0 = xw at *
              generalize shaK.getD k 0 = xk at *
              have d64 : decide ((k : Int) < 64) = true := decide_eq_true (by omega)
              have b64 : (k : Int) < 64 := by omega
              have t1 : (0 : Int) ≤ (k : Int) := by omega
              go_upto_region 23 with fail
              clear d64
              go_cut [21] (fun s wx => ∃ T : UInt32, s = .int .u32 (T.toNat : Int) ∧ Hid (T = x7 + (rotrW x4 6 ^^^ rotrW x4 11 ^^^ rotrW x4 25) + ((x4 &&& x5) ^^^ (~~~x4 &&& x6)) + xk + xw ∧ Ext wr wx))
              case first =>
                go_quiet ((first | (go_at_call 162; with_reducible exact Calls.quiet_of (rot_6 x4 _)) | (go_at_call 162; with_reducible exact Calls.quiet_of (rot_11 x4 _)) | (go_at_call 162; with_reducible exact Calls.quiet_of (rot_25 x4 _))))
                go_wp2_with fail
                go_meet
                exact ⟨_, int_eq (rt_val x7 x4 x5 x6 xk xw _ _ _), hide ⟨rfl, (Ext.refl wr).drewN _⟩⟩
              case rest =>
                obtain ⟨T, rfl, HT⟩ := hcut
                obtain ⟨wq, rfl⟩ : ∃ wq : World, wq = wc := ⟨_, rfl⟩
                clear cw ck
                go_wp2_with (first
                  | (go_at_call 162; with_reducible refine (rot_2 x0 _).mono ?_; rintro e w' ⟨rfl, n2, rfl⟩)
                  | (go_at_call 162; with_reducible refine (rot_13 x0 _).mono ?_; rintro e w' ⟨rfl, n13, rfl⟩)
                  | (go_at_call 162; with_reducible refine (rot_22 x0 _).mono ?_; rintro e w' ⟨rfl, n22, rfl⟩))
                go_roundw
                case rel =>
                  repeat apply Exists.intro
                  refine ⟨?_, rfl⟩
                  have a2 : ((x3.toNat : Int) + (T.toNat : Int)) % 4294967296 = ((x3 + T).toNat : Int) := add32 x3 T
                  refine ⟨k + 1, by omega, by go_num, int_eq ?_, ?_, ?_, ?_, int_eq ?_, ?_, ?_, ?_, hide (((unhide HE).trans (unhide HT).2).drewN _)⟩
                  · rw [ru_val, unhide HN, (unhide HT).1]
                    rfl
                  all_goals rw [unhide HN]
                  · rfl
                  · rfl
                  · rfl
                  · rw [a2, (unhide HT).1]; rfl
                  · rfl
                  · rfl
                  · rfl
                case measure => simp [intOf]; omega
            · obtain rfl : k = 64 := by omega
              clear hk hlt
              obtain ⟨wq, rfl⟩ : ∃ wq : World, wq = wr := ⟨_, rfl⟩
              obtain ⟨v0, v1, v2, v3, v4, v5, v6, v7⟩ := unhide HVC
              have v0 := Ext.cellv (unhide HE) v0
              have v1 := Ext.cellv (unhide HE) v1
              have v2 := Ext.cellv (unhide HE) v2
              have v3 := Ext.cellv (unhide HE) v3
              have v4 := Ext.cellv (unhide HE) v4
              have v5 := Ext.cellv (unhide HE) v5
              have v6 := Ext.cellv (unhide HE) v6
              have v7 := Ext.cellv (unhide HE) v7
              have HR := hide (fin_words (roundsAt bs v 64) v (roundsAt_length _ _ (unhide HV).1 64) (unhide HV).1)
              generalize (roundsAt bs v 64).getD 0 0 = r0 at *
              generalize (roundsAt bs v 64).getD 1 0 = r1 at *
              generalize (roundsAt bs v 64).getD 2 0 = r2 at *
              generalize (roundsAt bs v 64).getD 3 0 = r3 at *
              generalize (roundsAt bs v 64).getD 4 0 = r4 at *
              generalize (roundsAt bs v 64).getD 5 0 = r5 at *
              generalize (roundsAt bs v 64).getD 6 0 = r6 at *
              generalize (roundsAt bs v 64).getD 7 0 = r7 at *
              generalize v.getD 0 0 = y0 at *
              generalize v.getD 1 0 = y1 at *
              generalize v.getD 2 0 = y2 at *
              generalize v.getD 3 0 = y3 at *
              generalize v.getD 4 0 = y4 at *
              generalize v.getD 5 0 = y5 at *
              generalize v.getD 6 0 = y6 at *
              generalize v.getD 7 0 = y7 at *
              go_upto_region 33 with fail
              go_still_tail 40, (by kernel_rfl)
              clear v0 v1 v2 v3 v4 v5 v6 v7
              change wpList _ _ _ _ _ wq.drew
              go_wp2
              go_ret
              refine ⟨_, rfl, ?_, (((((unhide HS).2.trans (unhide HE)).drew).alloc _))⟩
              simp only [add32]
              have hz : (shaBlock v bs).map w32 = [w32 (y0 + r0), w32 (y1 + r1), w32 (y2 + r2), w32 (y3 + r3), w32 (y4 + r4), w32 (y5 + r5), w32 (y6 + r6), w32 (y7 + r7)] := by
                unfold shaBlock shaRounds
                rw [unhide HR]
                rfl
              rw [hz]
              exact (Reads.newM wq _ _ _ 8 8 _ rfl rfl (Nat.le_refl _) (by unfold maxLen; omega) rfl).ext ((Ext.refl _).drew)

end Go.Proofs.YtgndblhpfjkfhaaDoor

/-
  The reference's All and short.
-/
namespace Go.Proofs.YtgndblhpfjkfhaaDoor
open Go.RowKit

theorem own_less {w : World} {B B' : Nat} {e : TypeId} {size n : Nat} {v : Value} {xs : List Value} (h : w.ownsRow B e size v n xs) (hB : B' ≤ B) : w.ownsRow B' e size v n xs := by
  refine ⟨h.1, ?_⟩
  rcases h.2 with h | ⟨g, cap, cur, hv, hb, h⟩
  · exact .inl h
  · exact .inr ⟨g, cap, cur, hv, Nat.le_trans hB hb, h⟩

set_option maxRecDepth 100000 in
set_option maxHeartbeats 1000000 in
theorem rall_any (l : List UInt8) (w : World) (hl : l.length = 32) :
    Calls Tryd.prog 153 #[.agg (l.map u8v).toArray] w fun e w' => ∃ A c, e = .returned (.slice A 32 c) ∧ GB w w.heap.size (.slice A 32 c) 32 l w' := by
  obtain ⟨arr, harr⟩ : ∃ r, (l.map u8v).toArray = r := ⟨_, rfl⟩
  have HA := hide (And.intro harr hl)
  rw [harr]
  clear harr hl
  go_enter Tryd.func153, Tryd.ntmps153
  go_wp2
  go_loopw [3, 4] (fun b i wr => ∃ (k : Nat) (A : Option Addr) (c : Nat), k ≤ 32 ∧ i = .int .i64 k ∧ b = .slice A k c ∧ Hid (GB w (w.heap.size + 1) (.slice A k c) k (l.take k) wr ∧ Blk wr w.heap.size 95 arr)) (fun _ i _ => 32 - (intOf i).toNat)
  case atStart => exact ⟨0, none, 0, Nat.zero_le _, rfl, rfl, hide ⟨GB.nil ((Ext.refl w).alloc _) (by omega) (by simp), Blk.new _ _ _⟩⟩
  case round =>
    obtain ⟨k, A, c, hk, rfl, rfl, HI⟩ := hrel
    by_cases hlt : k < 32
    · have hc : wr.cell? ⟨w.heap.size, k, none⟩ = some (.int .u8 ((l.getD k 0).toNat : Int)) := by
        rw [(unhide HI).2.cell, ← (unhide HA).1, List.getElem?_toArray, List.getElem?_map, List.getD_eq_getElem?_getD, List.getElem?_eq_getElem (by rw [(unhide HA).2]; exact hlt)]
        rfl
      have HS := hide (show l.take (k + 1) = l.take k ++ [l.getD k 0] from by
        rw [take_step l k (by rw [(unhide HA).2]; exact hlt), List.getD_eq_getElem?_getD, List.getElem?_eq_getElem (by rw [(unhide HA).2]; exact hlt)]
        rfl)
      generalize l.getD k 0 = x at *
      have b1 : (k : Int) < 32 := by omega
      go_wp2_with (at_builtin; refine wpList_app rfl rfl u8_row rfl (ownsRow_ext (unhide HI).1.own ((Ext.refl _).alloc _)) rfl (Reads.new1 _ _ _) (AllOne.one rfl) (by omega) (Nat.le_trans (unhide HI).1.room (by simp)) ?_; intro A' c' w2 ho hc2 hv; have HQ := hide (And.intro ho hc2); clear ho hc2 hv)
      go_roundw
      case rel =>
        refine ⟨k + 1, A', c', by omega, by go_num, rfl, hide ⟨(unhide HI).1.step ((Ext.refl _).alloc _) (unhide HQ).2 (by rw [unhide HS, List.map_append]; exact (unhide HQ).1), (unhide HI).1.blk ((Ext.refl _).alloc _) (unhide HQ).2 (unhide HI).2 (by omega)⟩⟩
      case measure => simp [intOf]; omega
    · obtain rfl : k = 32 := by omega
      go_wp2
      go_ret
      have h := (unhide HI).1
      rw [List.take_of_length_le (by rw [(unhide HA).2]; omega)] at h
      exact ⟨_, _, rfl, own_less h.own (by omega), h.ext, Nat.le_refl _, h.ext.size'⟩

set_option maxRecDepth 100000 in
set_option maxHeartbeats 1000000 in
theorem rshort_any (l : List UInt8) (w : World) (hl : l.length = 32) :
    Calls Tryd.prog 134 #[.agg (l.map u8v).toArray] w fun e w' => e = .returned (.agg ((l.take 16).map u8v).toArray) ∧ Ext w w' := by
  obtain ⟨arr, harr⟩ : ∃ r, (l.map u8v).toArray = r := ⟨_, rfl⟩
  have HA := hide (And.intro harr hl)
  rw [harr]
  clear harr hl
  go_enter Tryd.func134, Tryd.ntmps134
  go_wp2
  go_loopw [4] (fun i wr => ∃ k : Nat, k ≤ 16 ∧ i = .int .i64 k ∧ Hid (Blk wr w.heap.size 95 arr ∧ Blk wr (w.heap.size + 1) 23 (bytesTo 16 []) ∧ Blk wr (w.heap.size + 1 + 1) 23 (bytesTo 16 (l.take k)) ∧ Ext w wr)) (fun i _ => 16 - (intOf i).toNat)
  case atStart => exact ⟨0, Nat.zero_le _, rfl, hide ⟨((Blk.new w _ _).alloc _).alloc _, (Blk.new' _ _ _ (by simp)).alloc _, Blk.new' _ _ _ (by simp), (((Ext.refl w).alloc _).alloc _).alloc _⟩⟩
  case round =>
    obtain ⟨k, hk, rfl, HI⟩ := hrel
    have hlk : (l.take k).length = k := by rw [List.length_take, (unhide HA).2]; omega
    by_cases hlt : k < 16
    · have hc : wr.cell? ⟨w.heap.size, k, none⟩ = some (.int .u8 ((l.getD k 0).toNat : Int)) := by
        rw [(unhide HI).1.cell, ← (unhide HA).1, List.getElem?_toArray, List.getElem?_map, List.getD_eq_getElem?_getD, List.getElem?_eq_getElem (by rw [(unhide HA).2]; omega)]
        rfl
      have HS := hide (show l.take (k + 1) = l.take k ++ [l.getD k 0] from by
        rw [take_step l k (by rw [(unhide HA).2]; omega), List.getD_eq_getElem?_getD, List.getElem?_eq_getElem (by rw [(unhide HA).2]; omega)]
        rfl)
      have hc2 : wr.cell? ⟨w.heap.size + 1 + 1, k, none⟩ = some (.int .u8 0) := by
        rw [(unhide HI).2.2.1.cell]
        exact bytesTo_zero_at (by omega) hlt
      have hf := (unhide HI).2.2.1.frozen k
      generalize l.getD k 0 = x at *
      have b1 : (k : Int) < 32 := by omega
      have b2 : (k : Int) < 16 := by omega
      have HL := hide hlk
      clear hlk
      go_wp2
      go_roundw
      case rel =>
        obtain ⟨q1, q2, q3, q4⟩ := unhide HI
        have h1 := q3.set_ k (.int .u8 (x.toNat : Int))
        rw [bytesTo_set _ (unhide HL) hlt, ← unhide HS] at h1
        exact ⟨k + 1, by omega, by go_num, hide ⟨q1.far' (by omega) _ _, q2.far' (by omega) _ _, h1, q4.setCell (by simp; omega) _⟩⟩
      case measure => simp [intOf]; omega
    · obtain rfl : k = 16 := by omega
      obtain ⟨res, hres⟩ : ∃ r, ((l.take 16).map u8v).toArray = r := ⟨_, rfl⟩
      have HR := hide (show bytesTo 16 (l.take 16) = res from by rw [bytesTo_all hlk, hres])
      have HS := hide (show res.size = 16 ∧ res.all (·.oneCell') = true from by rw [← hres]; exact ⟨by simpa using hlk, bytes_one _⟩)
      have HRE := hide hres
      clear hres
      rw [unhide HR] at HI
      clear hlk
      go_wp2_with (first
        | (refine wpList_loadB (ty := 23) (t := 23) (x := .tmp 3) rfl rfl digest_wide rfl (unhide HI).2.2.1 (unhide HS).1 ?_)
        | (refine wpList_storeB (ty := 23) (t := 23) (x := .tmp 2) (y := .tmp 15) rfl rfl digest_wide rfl rfl (unhide HI).2.1 (bytesTo_size (by simp)) (unhide HS).1 (unhide HS).2 ?_; intro w2 hb2 hc2 hz2; have H2 := hide (And.intro hb2 hc2); clear hb2 hc2 hz2))
      refine bodyPost_ret (v := .agg res) (results_blk digest_wide rfl (unhide H2).1 (unhide HS).1 rfl) rfl ⟨by rw [unhide HRE], ?_⟩
      exact (unhide HI).2.2.2.trans' (unhide H2).2 (fun _ _ h => h) (fun i hi e => by omega)

end Go.Proofs.YtgndblhpfjkfhaaDoor

/-
  The reference's Sum.
-/
namespace Go.Proofs.YtgndblhpfjkfhaaDoor
open Go.RowKit

def hexFirst : ByteArray := { data := #[54, 97, 48, 57, 101, 54, 54, 55, 98, 98, 54, 55, 97, 101, 56, 53, 51, 99, 54, 101, 102, 51, 55, 50, 97, 53, 52, 102, 102, 53, 51, 97, 53, 49, 48, 101, 53, 50, 55, 102, 57, 98, 48, 53, 54, 56, 56, 99, 49, 102, 56, 51, 100, 57, 97, 98, 53, 98, 101, 48, 99, 100, 49, 57] }
def hexConsts : ByteArray := { data := ((([52, 50, 56, 97, 50, 102, 57, 56, 55, 49, 51, 55, 52, 52, 57, 49, 98, 53, 99, 48, 102, 98, 99, 102, 101, 57, 98, 53, 100, 98, 97, 53, 51, 57, 53, 54, 99, 50, 53, 98, 53, 57, 102, 49, 49, 49, 102, 49, 57, 50, 51, 102, 56, 50, 97, 52, 97, 98, 49, 99, 53, 101, 100, 53].append [100, 56, 48, 55, 97, 97, 57, 56, 49, 50, 56, 51, 53, 98, 48, 49, 50, 52, 51, 49, 56, 53, 98, 101, 53, 53, 48, 99, 55, 100, 99, 51, 55, 50, 98, 101, 53, 100, 55, 52, 56, 48, 100, 101, 98, 49, 102, 101, 57, 98, 100, 99, 48, 54, 97, 55, 99, 49, 57, 98, 102, 49, 55, 52]).append ([101, 52, 57, 98, 54, 57, 99, 49, 101, 102, 98, 101, 52, 55, 56, 54, 48, 102, 99, 49, 57, 100, 99, 54, 50, 52, 48, 99, 97, 49, 99, 99, 50, 100, 101, 57, 50, 99, 54, 102, 52, 97, 55, 52, 56, 52, 97, 97, 53, 99, 98, 48, 97, 57, 100, 99, 55, 54, 102, 57, 56, 56, 100, 97].append [57, 56, 51, 101, 53, 49, 53, 50, 97, 56, 51, 49, 99, 54, 54, 100, 98, 48, 48, 51, 50, 55, 99, 56, 98, 102, 53, 57, 55, 102, 99, 55, 99, 54, 101, 48, 48, 98, 102, 51, 100, 53, 97, 55, 57, 49, 52, 55, 48, 54, 99, 97, 54, 51, 53, 49, 49, 52, 50, 57, 50, 57, 54, 55])).append (([50, 55, 98, 55, 48, 97, 56, 53, 50, 101, 49, 98, 50, 49, 51, 56, 52, 100, 50, 99, 54, 100, 102, 99, 53, 51, 51, 56, 48, 100, 49, 51, 54, 53, 48, 97, 55, 51, 53, 52, 55, 54, 54, 97, 48, 97, 98, 98, 56, 49, 99, 50, 99, 57, 50, 101, 57, 50, 55, 50, 50, 99, 56, 53].append [97, 50, 98, 102, 101, 56, 97, 49, 97, 56, 49, 97, 54, 54, 52, 98, 99, 50, 52, 98, 56, 98, 55, 48, 99, 55, 54, 99, 53, 49, 97, 51, 100, 49, 57, 50, 101, 56, 49, 57, 100, 54, 57, 57, 48, 54, 50, 52, 102, 52, 48, 101, 51, 53, 56, 53, 49, 48, 54, 97, 97, 48, 55, 48]).append ([49, 57, 97, 52, 99, 49, 49, 54, 49, 101, 51, 55, 54, 99, 48, 56, 50, 55, 52, 56, 55, 55, 52, 99, 51, 52, 98, 48, 98, 99, 98, 53, 51, 57, 49, 99, 48, 99, 98, 51, 52, 101, 100, 56, 97, 97, 52, 97, 53, 98, 57, 99, 99, 97, 52, 102, 54, 56, 50, 101, 54, 102, 102, 51].append [55, 52, 56, 102, 56, 50, 101, 101, 55, 56, 97, 53, 54, 51, 54, 102, 56, 52, 99, 56, 55, 56, 49, 52, 56, 99, 99, 55, 48, 50, 48, 56, 57, 48, 98, 101, 102, 102, 102, 97, 97, 52, 53, 48, 54, 99, 101, 98, 98, 101, 102, 57, 97, 51, 102, 55, 99, 54, 55, 49, 55, 56, 102, 50]))).toArray }
theorem hex_first : (List.range 8).map (hexWord hexFirst.data.toList) = shaH0 := by decide +kernel
theorem hex_consts : (List.range 64).map (hexWord hexConsts.data.toList) = shaK := by decide +kernel
theorem first_any (w : World) : Calls Tryd.prog 159 #[.string hexFirst, .int .i64 8] w fun e w' => ∃ A c, e = .returned (.slice A 8 c) ∧ Reads w' 1 (.slice A 8 c) 8 (shaH0.map w32) ∧ Ext w w' := by
  refine (words_any hexFirst 8 8 rfl w (by decide +kernel) (by decide +kernel)).mono ?_
  rintro e w' ⟨A, c, rfl, ho, hE⟩
  rw [hex_first] at ho
  exact ⟨A, c, rfl, Reads.of_own ho, hE⟩
theorem consts_any (w : World) : Calls Tryd.prog 159 #[.string hexConsts, .int .i64 64] w fun e w' => ∃ A c, e = .returned (.slice A 64 c) ∧ Reads w' 1 (.slice A 64 c) 64 (shaK.map w32) ∧ Ext w w' := by
  refine (words_any hexConsts 64 64 rfl w (by decide +kernel) (by decide +kernel)).mono ?_
  rintro e w' ⟨A, c, rfl, ho, hE⟩
  rw [hex_consts] at ho
  exact ⟨A, c, rfl, Reads.of_own ho, hE⟩

theorem own_empty' (w : World) (B : Nat) (e : TypeId) (size : Nat) {g : Nat} (hg : g = w.heap.size) (hb : B ≤ w.heap.size) : (w.alloc (.cells #[] e)).ownsRow B e size (.slice (some ⟨g, 0, none⟩) 0 0) 0 [] := by subst hg; exact own_empty w B e size hb
/-- A new slice of bytes, copied into an empty one. -/
theorem gb_first {w w1 : World} {l : List UInt8} {A1 : Option Addr} {c1 : Nat} {zs : Array Value} {T : TypeId} (ho : w1.ownsRow (w.heap.size + 1) 5 1 (.slice A1 (0 + l.length) c1) (0 + l.length) ([] ++ l.map u8v))
    (hc : Chg (fun k => (Value.slice (some ⟨w.heap.size + 1, 0, none⟩) 0 0).ownBlock = some k) ((w.alloc (.cells zs T)).alloc (.cells #[] 5)) w1) :
    GB w (w.heap.size + 1) (.slice A1 l.length c1) l.length l w1 ∧ Blk w1 w.heap.size T zs := by
  rw [Nat.zero_add, List.nil_append] at ho
  refine ⟨⟨ho, (((Ext.refl w).alloc _).alloc _).trans' hc (fun _ _ h => h) (fun i hi e => ?_), by omega, ?_⟩, Blk.chg ((Blk.new w _ _).alloc _) hc ?_⟩
  · simp [Value.ownBlock] at e; omega
  · have := hc.size; simp at this; omega
  · simp [Value.ownBlock]
def zerosFor (n : Nat) : Nat := (119 - n % 64) % 64
def rpad (l : List UInt8) (k : Nat) : List UInt8 := l ++ [128] ++ List.replicate k 0
theorem rpad_own {w : World} {B : Nat} {v : Value} {n : Nat} {l : List UInt8} (h : w.ownsRow B 5 1 v n (l.map u8v ++ [.int .u8 128])) : w.ownsRow B 5 1 v n ((rpad l 0).map u8v) := by
  unfold rpad; rw [List.replicate_zero, List.append_nil, List.map_append]; exact h
theorem rpad_step (l : List UInt8) (k : Nat) : rpad l (k + 1) = rpad l k ++ [0] := by unfold rpad; rw [List.replicate_succ', List.append_assoc, List.append_assoc, List.append_assoc]
theorem rpad_end (l : List UInt8) : rpad l (zerosFor l.length) ++ beBytes (8 * l.length) 8 = shaPad l := rfl
theorem rpad_length (l : List UInt8) (k : Nat) : (rpad l k).length = l.length + 1 + k := by simp [rpad]; omega

theorem flat4_length (st : List UInt32) : (st.flatMap fun w => beBytes w.toNat 4).length = 4 * st.length := by
  induction st with
  | nil => rfl
  | cons x l ih => rw [List.flatMap_cons, List.length_append, ih, beBytes_length, List.length_cons]; omega
theorem flat4_get (st : List UInt32) : ∀ (q r : Nat), q < st.length → r < 4 → (st.flatMap fun w => beBytes w.toNat 4)[4 * q + r]? = some (UInt8.ofNat ((st.getD q 0).toNat / 256 ^ (3 - r))) := by
  induction st with
  | nil => intro q r h; simp at h
  | cons x l ih =>
    intro q r hq hr
    rw [List.flatMap_cons]
    cases q with
    | zero =>
      rw [Nat.mul_zero, Nat.zero_add, List.getElem?_append_left (by rw [beBytes_length]; exact hr), beBytes_get _ _ _ hr]
      rfl
    | succ q =>
      rw [List.getElem?_append_right (by rw [beBytes_length]; omega), beBytes_length, show 4 * (q + 1) + r - 4 = 4 * q + r from by omega, ih q r (by simpa using hq) hr]
      rfl
theorem flat4_step (st : List UInt32) (q r : Nat) (hq : q < st.length) (hr : r < 4) : (st.flatMap fun w => beBytes w.toNat 4).take (4 * q + r + 1) = (st.flatMap fun w => beBytes w.toNat 4).take (4 * q + r) ++ [UInt8.ofNat ((st.getD q 0).toNat / 256 ^ (3 - r))] := by
  rw [List.take_add_one, flat4_get st q r hq hr]
  rfl

set_option maxRecDepth 100000 in
set_option maxHeartbeats 4000000 in
theorem rsum_any (l : List UInt8) (v : Value) (w : World) (hr : Reads w 1 v l.length (l.map u8v)) (hl : l.length ≤ 100000000) :
    Calls Tryd.prog 154 #[v] w fun e w' => e = .returned (.agg ((sha l).map u8v).toArray) ∧ Ext w w' := by
  have HR := hide hr
  obtain ⟨A, c, rfl⟩ : ∃ A c, v = .slice A l.length c := by obtain ⟨_, A, c, h, _⟩ := hr; exact ⟨A, c, h⟩
  clear hr
  go_enter Tryd.func154, Tryd.ntmps154
  go_wp2_with (first
    | (at_builtin; refine wpList_app (s := .tmp 11) (x := .tmp 12) rfl rfl u8_row rfl (own_empty' _ (w.heap.size + 1) _ _ (by simp) (by simp)) rfl ((unhide HR).ext (((Ext.refl w).alloc _).alloc _)) (AllOne.u8 l) (by omega) (by simp) ?_; intro A1 c1 w1 ho hc hv; have H0 := hide (And.intro ho hc); clear ho hc hv
       have H1 := hide (gb_first (unhide H0).1 (unhide H0).2)
       clear H0)
    | (at_builtin; refine wpList_app (s := .tmp 13) (x := .tmp 14) rfl rfl u8_row rfl (ownsRow_ext (unhide H1).1.own ((Ext.refl _).alloc _)) rfl (Reads.new1 _ _ _) (AllOne.one rfl) (by omega) (Nat.le_trans (unhide H1).1.room (by simp)) ?_; intro A2 c2 w2 ho hc hv; have H0 := hide (And.intro ho hc); clear ho hc hv
       have H2 := hide (And.intro (GB.step (l' := rpad l 0) (unhide H1).1 ((Ext.refl _).alloc _) (unhide H0).2 (rpad_own (unhide H0).1)) ((unhide H1).1.blk ((Ext.refl _).alloc _) (unhide H0).2 (unhide H1).2 (Nat.lt_succ_self _)))
       clear H0))
  clear H1
  go_loopw [3] (fun b wr => ∃ (k : Nat) (A : Option Addr) (c : Nat), k ≤ zerosFor l.length ∧ b = .slice A (l.length + 1 + k) c ∧ Hid (GB w (w.heap.size + 1) (.slice A (l.length + 1 + k) c) (l.length + 1 + k) (rpad l k) wr ∧ Blk wr w.heap.size 95 (bytesTo 32 []))) (fun b _ => match b with | .slice _ n _ => l.length + 1 + zerosFor l.length - n | _ => 0)
  case atStart => exact ⟨0, _, _, Nat.zero_le _, rfl, H2⟩
  case round =>
    clear H2
    obtain ⟨k, A1, c1, hk, rfl, HI⟩ := hrel
    by_cases hlt : k < zerosFor l.length
    · have ht2 : ((((l.length + 1 + k : Nat) : Int) % 64) == 56) = false := by unfold zerosFor at hlt; simp; omega
      have hkb : k < 64 := by unfold zerosFor at hlt; omega
      go_wp2_with (at_builtin; refine wpList_app rfl rfl u8_row rfl (ownsRow_ext (unhide HI).1.own ((Ext.refl _).alloc _)) rfl (Reads.new1 _ _ _) (AllOne.one rfl) (by omega) (Nat.le_trans (unhide HI).1.room (by simp)) ?_; intro A' c' w3 ho hc hv; have HQ := hide (And.intro ho hc); clear ho hc hv)
      go_roundw
      case rel =>
        refine ⟨k + 1, A', c', hlt, rfl, hide ⟨GB.step (unhide HI).1 ((Ext.refl _).alloc _) (unhide HQ).2 ?_, (unhide HI).1.blk ((Ext.refl _).alloc _) (unhide HQ).2 (unhide HI).2 (Nat.lt_succ_self _)⟩⟩
        rw [rpad_step, List.map_append]
        exact (unhide HQ).1
      case measure => simp; omega
    · obtain rfl : k = zerosFor l.length := by omega
      have ht2 : ((((l.length + 1 + zerosFor l.length : Nat) : Int) % 64) == 56) = true := by unfold zerosFor; simp; omega
      have ht3 : (((l.length : Int) + 1 + (zerosFor l.length : Int)) % 64 != 56) = false := by unfold zerosFor; simp; omega
      have hkb : zerosFor l.length < 64 := by unfold zerosFor; omega
      have HN := hide (show (l.length + 1 + zerosFor l.length) % 64 = 56 from by unfold zerosFor; omega)
      clear hlt hk
      go_wp2
      clear ht2 ht3
      obtain ⟨w4, rfl⟩ : ∃ w4 : World, w4 = wr := ⟨_, rfl⟩
      have HP := hide (rpad_end l)
      have hn0 : l.length + 1 + zerosFor l.length ≤ 100000100 := by omega
      generalize rpad l (zerosFor l.length) = pl at *
      generalize l.length + 1 + zerosFor l.length = n0 at *
      go_loopw [3, 5] (fun b i wr => ∃ (k : Nat) (A : Option Addr) (c : Nat), k ≤ 8 ∧ i = .int .i64 ((k : Int) - 1) ∧ b = .slice A (n0 + (8 - k)) c ∧ Hid (GB w (w.heap.size + 1) (.slice A (n0 + (8 - k)) c) (n0 + (8 - k)) (pl ++ (beBytes (8 * l.length) 8).take (8 - k)) wr ∧ Blk wr w.heap.size 95 (bytesTo 32 []))) (fun _ i _ => (intOf i + 1).toNat)
      case atStart => exact ⟨8, _, _, Nat.le_refl _, rfl, rfl, by rw [Nat.sub_self, List.take_zero, List.append_nil]; exact HI⟩
      case round =>
        clear HI
        obtain ⟨k, A2, c2, hk, rfl, rfl, HI⟩ := hrel
        by_cases hk0 : 0 < k
        · have e0 : (0 : Int) ≤ (k : Int) - 1 := by omega
          have e1 : IntKind.i64.wrap (8 * ((k : Int) - 1)) = ((8 * (k - 1) : Nat) : Int) := by rw [IntWalk.i64_in _ (by omega)]; omega
          have hb := byte_of (8 * l.length) (k - 1)
          have hcast : ((8 * l.length : Nat) : Int) = 8 * (l.length : Int) := by omega
          rw [hcast] at hb
          clear hcast
          have HX := hide (beBytes_step (8 * l.length) 8 k hk0 hk)
          generalize UInt8.ofNat (8 * l.length / 256 ^ (k - 1)) = z at *
          go_wp2_with (at_builtin; refine wpList_app rfl rfl u8_row rfl (ownsRow_ext (unhide HI).1.own ((Ext.refl _).alloc _)) rfl (Reads.new1 _ _ _) (AllOne.one rfl) (by omega) (Nat.le_trans (unhide HI).1.room (by simp)) ?_; intro A' c' w3 ho hc hv; have HQ := hide (And.intro ho hc); clear ho hc hv)
          go_roundw
          case rel =>
            refine ⟨k - 1, A', c', by omega, by go_num, by rw [show n0 + (8 - (k - 1)) = n0 + (8 - k) + 1 from by omega], hide ⟨?_, (unhide HI).1.blk ((Ext.refl _).alloc _) (unhide HQ).2 (unhide HI).2 (Nat.lt_succ_self _)⟩⟩
            rw [show n0 + (8 - (k - 1)) = n0 + (8 - k) + 1 from by omega]
            refine GB.step (unhide HI).1 ((Ext.refl _).alloc _) (unhide HQ).2 ?_
            rw [unhide HX, ← List.append_assoc, List.map_append]
            exact (unhide HQ).1
          case measure => simp [intOf]; omega
        · obtain rfl : k = 0 := by omega
          clear hk0 hk
          have HJ := hide (show GB w (w.heap.size + 1) (.slice A2 (n0 + 8) c2) (n0 + 8) (shaPad l) wr ∧ Blk wr w.heap.size 95 (bytesTo 32 []) from by
            have := unhide HI
            rw [Nat.sub_zero, List.take_of_length_le (by rw [beBytes_length]; exact Nat.le_refl _), unhide HP] at this
            exact this)
          obtain ⟨w5, rfl⟩ : ∃ w5 : World, w5 = wr := ⟨_, rfl⟩
          clear HI
          have z1 : ((0 : Nat) : Int) - 1 = -1 := rfl
          have z2 : n0 + (8 - 0) = n0 + 8 := rfl
          rw [z1, z2]
          clear z1 z2
          go_wp2_with fail
          refine (first_any _).mono ?_
          rintro e w6 ⟨A6, c6, rfl, hr6, hE6⟩
          have H6 := hide (And.intro hr6 hE6)
          clear hr6 hE6
          go_wp2_with fail
          refine (consts_any _).mono ?_
          rintro e w7 ⟨A7, c7, rfl, hr7, hE7⟩
          have H7 := hide (And.intro hr7 hE7)
          clear hr7 hE7
          go_wp2
          obtain ⟨m, hm⟩ : ∃ m, n0 + 8 = 64 * m := ⟨(n0 + 8) / 64, by have := unhide HN; omega⟩
          have HLN := hide (unhide HJ).1.len
          have HB7 := hide (show Reads w7 1 (.slice A2 (n0 + 8) c2) (n0 + 8) ((shaPad l).map u8v) ∧ Blk w7 w.heap.size 95 (bytesTo 32 []) ∧ Ext w w7 ∧ Reads w7 1 (.slice A6 8 c6) 8 (shaH0.map w32) ∧ Reads w7 1 (.slice A7 64 c7) 64 (shaK.map w32) from
            ⟨(unhide HJ).1.reads.ext ((unhide H6).2.trans (unhide H7).2), (unhide HJ).2.ext ((unhide H6).2.trans (unhide H7).2), (unhide HJ).1.ext.trans ((unhide H6).2.trans (unhide H7).2), (unhide H6).1.ext (unhide H7).2, (unhide H7).1⟩)
          obtain ⟨g2, o2, c2', hA2, hc2, hc2m, _, _⟩ := (unhide HB7).1.sub 0 64 (by omega) (by omega)
          cases hA2
          clear HJ H6 H7
          unfold maxLen at hc2m
          have HM := hide hm
          have hm1 : n0 + 8 ≤ 64 * m := by omega
          have hm2 : 64 * m ≤ n0 + 8 := by omega
          clear hm
          go_loopw [6, 8] (fun v i wr => ∃ (j : Nat) (A : Option Addr) (c : Nat), j ≤ m ∧ i = .int .i64 ((64 * j : Nat) : Int) ∧ v = .slice A 8 c ∧ Hid (Reads wr 1 (.slice A 8 c) 8 ((shaFold (shaPad l) (List.range j) shaH0).map w32) ∧ Ext w7 wr)) (fun _ i _ => 64 * m - (intOf i).toNat)
          case atStart => exact ⟨0, A6, c6, Nat.zero_le _, rfl, rfl, hide ⟨(unhide HB7).2.2.2.1, Ext.refl _⟩⟩
          case round =>
            obtain ⟨j, A8, c8, hj, rfl, rfl, HI⟩ := hrel
            by_cases hlt : j < m
            · have hb1 : 64 * j + 64 ≤ n0 + 8 := by omega
              have d1 : decide (64 * j < n0 + 8) = true := decide_eq_true (by omega)
              have HX := hide (show shaFold (shaPad l) (List.range (j + 1)) shaH0 = shaBlock (shaFold (shaPad l) (List.range j) shaH0) (((shaPad l).drop (64 * j)).take 64) from by unfold shaFold; rw [List.range_succ, List.foldl_append]; rfl)
              have HL8 := hide (shaFold_length (shaPad l) (List.range j) shaH0 rfl)
              have HBL := hide (show (((shaPad l).drop (64 * j)).take 64).length = 64 from by have := unhide HLN; simp; omega)
              have HBR := hide (show Reads wr 1 (.slice (some ⟨g2, o2 + 64 * j, none⟩) 64 (c2 - 64 * j)) 64 ((((shaPad l).drop (64 * j)).take 64).map u8v) from by
                obtain ⟨b, o, c, e, _, _, _, h⟩ := ((unhide HB7).1.ext (unhide HI).2).sub (64 * j) 64 (by omega) (by omega)
                cases e
                rw [List.map_take, List.map_drop]
                exact h)
              go_wp2_with fail
              refine (rcompress_any _ _ _ _ _ _ (unhide HL8) (unhide HBL) (unhide HI).1 (unhide HBR) ((unhide HB7).2.2.2.2.ext (unhide HI).2)).mono ?_
              rintro e w8 ⟨A9, rfl, hr9, hE9⟩
              have H9 := hide (And.intro hr9 hE9)
              clear hr9 hE9
              have q64 : IntKind.i64.wrap (64 * (j : Int) + 64) = ((64 * (j + 1) : Nat) : Int) := by rw [IntWalk.i64_in _ (by omega)]; omega
              go_wp2
              go_roundw
              case rel =>
                refine ⟨j + 1, A9, 8, hlt, by go_num, rfl, hide ⟨?_, (unhide HI).2.trans (unhide H9).2⟩⟩
                rw [unhide HX]
                exact (unhide H9).1
              case measure => simp [intOf]; omega
            --BEGINX
            · obtain rfl : j = m := by omega
              have d1 : decide (64 * j < n0 + 8) = false := decide_eq_false (by omega)
              clear hlt hj
              have HSH := hide (show (shaFold (shaPad l) (List.range j) shaH0).flatMap (fun w => beBytes w.toNat 4) = sha l from by
                rw [shaFold_blocks]
                unfold sha
                rw [unhide HLN, unhide HM, Nat.mul_div_cancel_left _ (by omega)])
              have HL8 := hide (shaFold_length (shaPad l) (List.range j) shaH0 rfl)
              generalize shaFold (shaPad l) (List.range j) shaH0 = st at *
              obtain ⟨w9, rfl⟩ : ∃ w9 : World, w9 = wr := ⟨_, rfl⟩
              obtain ⟨g8, o8, c8', hA8, hc8, hc8m, hg8, _⟩ := (unhide HI).1.sub 0 8 (by omega) (by omega)
              cases hA8
              go_wp2_with (refine wpList_storeB (ty := 95) (t := 95) (x := .tmp 9) (y := .tmp 55) rfl rfl arr32_wide rfl rfl (Blk.new w9 _ _) rfl rfl (by rw [← Array.all_toList]; rfl) ?_; intro w10 hb10 hc10 hz10; have H10 := hide (And.intro hb10 (And.intro hc10 hz10)); clear hb10 hc10 hz10)
              clear d1
              have H11 := hide (show Blk w10 w9.heap.size 95 (bytesTo 32 []) ∧ Blk w10 w.heap.size 95 (bytesTo 32 []) ∧ Ext w w10 ∧ Reads w10 1 (.slice (some ⟨g8, o8, none⟩) 8 c8) 8 (st.map w32) ∧ w.heap.size < w9.heap.size from by
                have hlt := ((unhide HB7).2.1.ext (unhide HI).2).lt
                have hE : Ext w9 w10 := ((Ext.refl w9).alloc _).trans' (unhide H10).2.1 (fun _ _ h => h) (fun i hi e => by omega)
                exact ⟨(unhide H10).1, ((unhide HB7).2.1.ext (unhide HI).2).ext hE, ((unhide HB7).2.2.1.trans (unhide HI).2).trans hE, (unhide HI).1.ext hE, hlt⟩)
              have HSL := hide (sha_length l)
              clear H10 HI
              go_loopw [10] (fun i wr => ∃ k : Nat, k ≤ 32 ∧ i = .int .i64 k ∧ Hid (Blk wr w9.heap.size 95 (bytesTo 32 ((sha l).take k)) ∧ Blk wr w.heap.size 95 (bytesTo 32 []) ∧ Ext w wr ∧ Reads wr 1 (.slice (some ⟨g8, o8, none⟩) 8 c8) 8 (st.map w32))) (fun i _ => 32 - (intOf i).toNat)
              case atStart => exact ⟨0, Nat.zero_le _, rfl, hide ⟨(unhide H11).1, (unhide H11).2.1, (unhide H11).2.2.1, (unhide H11).2.2.2.1⟩⟩
              case round =>
                obtain ⟨k, hk, rfl, HI⟩ := hrel
                by_cases hlt : k < 32
                · obtain ⟨q, r, rfl, hr4⟩ : ∃ q r, k = 4 * q + r ∧ r < 4 := ⟨k / 4, k % 4, by omega, by omega⟩
                  have hc1 := (unhide HI).2.2.2.wordAt (j := q) (by rw [unhide HL8]; omega)
                  have hc2 : wr.cell? ⟨w9.heap.size, 4 * q + r, none⟩ = some (.int .u8 0) := by
                    rw [(unhide HI).1.cell]
                    exact bytesTo_zero_at (by rw [List.length_take, unhide HSL]; omega) hlt
                  have hf := (unhide HI).1.frozen (4 * q + r)
                  have HX := hide (show (sha l).take (4 * q + r + 1) = (sha l).take (4 * q + r) ++ [UInt8.ofNat ((st.getD q 0).toNat / 256 ^ (3 - r))] from by
                    rw [← unhide HSH]
                    exact flat4_step st q r (by rw [unhide HL8]; omega) hr4)
                  have HBY := hide (byte_of (st.getD q 0).toNat (3 - r))
                  generalize st.getD q 0 = x at *
                  have hx := x.toNat_lt
                  have hq : q < 8 := by omega
                  have e1 : (4 * (q : Int) + (r : Int)) / 4 = (q : Int) := by omega
                  have e2 : (4 * (q : Int) + (r : Int)) % 4 = (r : Int) := by omega
                  have e3 : 24 - 8 * (r : Int) = ((8 * (3 - r) : Nat) : Int) := by omega
                  go_wp2
                  go_roundw
                  case rel =>
                    obtain ⟨q1, q2, q3, q4⟩ := unhide HI
                    have h1 := q1.set_ (4 * q + r) (.int .u8 ((UInt8.ofNat (x.toNat / 256 ^ (3 - r))).toNat : Int))
                    rw [bytesTo_set _ (by rw [List.length_take, unhide HSL]; omega) hlt, ← unhide HX] at h1
                    refine ⟨4 * q + r + 1, by omega, by go_num, hide ?_⟩
                    rw [unhide HBY]
                    have hlw := (unhide H11).2.2.2.2
                    refine ⟨h1, q2.far' (by omega) _ _, q3.setCell (by simp; omega) _, q4.chg (Chg.setCell (S := fun k => k = w9.heap.size) (Chg.refl _ _) (.inl rfl) _) (fun k _ hk e => by simp [Value.ownBlock] at hk; omega)⟩
                  case measure => simp [intOf]; omega
                · obtain rfl : k = 32 := by omega
                  obtain ⟨res, hres⟩ : ∃ r, ((sha l).map u8v).toArray = r := ⟨_, rfl⟩
                  have HR2 := hide (show bytesTo 32 ((sha l).take 32) = res from by rw [List.take_of_length_le (by rw [unhide HSL]; omega), bytesTo_all (unhide HSL), hres])
                  have HS := hide (show res.size = 32 ∧ res.all (·.oneCell') = true from by rw [← hres]; exact ⟨by simpa using unhide HSL, bytes_one _⟩)
                  have HRE := hide hres
                  clear hres
                  rw [unhide HR2] at HI
                  go_wp2_with (first
                    | (refine wpList_loadB (ty := 95) (t := 95) (x := .tmp 9) rfl rfl arr32_wide rfl (unhide HI).1 (unhide HS).1 ?_)
                    | (refine wpList_storeB (ty := 95) (t := 95) (x := .tmp 2) (y := .tmp 73) rfl rfl arr32_wide rfl rfl (unhide HI).2.1 (bytesTo_size (by simp)) (unhide HS).1 (unhide HS).2 ?_; intro w12 hb12 hc12 hz12; have H12 := hide (And.intro hb12 hc12); clear hb12 hc12 hz12))
                  refine bodyPost_ret (v := .agg res) (results_blk arr32_wide rfl (unhide H12).1 (unhide HS).1 rfl) rfl ⟨by rw [unhide HRE], ?_⟩
                  exact (unhide HI).2.2.1.trans' (unhide H12).2 (fun _ _ h => h) (fun i hi e => by omega)
            --ENDX

end Go.Proofs.YtgndblhpfjkfhaaDoor
