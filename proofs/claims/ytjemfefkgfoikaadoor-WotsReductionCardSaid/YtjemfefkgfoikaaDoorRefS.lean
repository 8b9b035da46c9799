/-
  The reference's rot, word, words.
-/
import Derived.Test.YtjemfefkgfoikaaDoorShaC
import Derived.Outline
namespace Go.Proofs.YtjemfefkgfoikaaDoor
open Go.RowKit

theorem rot_any (x : UInt32) (n : Nat) (nI : Int) (hI : nI = (n : Int)) (w : World) (hn : 0 < n) (hn2 : n < 32) :
    Calls Tryd.prog 94 #[.int .u32 (x.toNat : Int), .int .i64 nI] w fun e w' => e = .returned (.int .u32 ((rotrW x (UInt32.ofNat n)).toNat : Int)) ∧ ∃ k, w' = w.drewN k := by
  subst hI
  have h0 := hide (show bits BinOp.or IntKind.u32 ((x.toNat : Int) / 2 ^ n) ((x.toNat : Int) * 2 ^ (32 - n) % 4294967296) = ((rotrW x (UInt32.ofNat n)).toNat : Int) from by
    rw [shl32 x (32 - n) (by omega), shr32 x n hn2, or32]
    unfold rotrW
    have e : UInt32.ofNat (32 - n) = 32 - UInt32.ofNat n := by
      apply UInt32.toNat_inj.1
      rw [UInt32.toNat_sub]
      simp
      omega
    rw [e])
  have hx := x.toNat_lt
  have h2 : IntKind.i64.wrap (32 - (n : Int)) = ((32 - n : Nat) : Int) := by
    rw [show (32 : Int) - (n : Int) = ((32 - n : Nat) : Int) by omega]
    exact IntWalk.i64_in _ (by omega)
  go_enter Tryd.func94, Tryd.ntmps94
  go_wp2
  go_quiet (fail)
  go_wp2
  go_ret
  exact ⟨ret_int (unhide h0), _, rfl⟩

theorem u32_row : SlTy Tryd.prog 108 92 1 4 := SlTy.mk' (z := .int .u32 0) (by kernel_rfl) (by kernel_rfl) rfl (by omega) (by omega)
/-- A hexadecimal digit, and word i of a hexadecimal text. -/
def hexD (c : UInt8) : UInt32 := if 97 ≤ c.toNat then (c - 97 + 10).toUInt32 else (c - 48).toUInt32
def hexAt (l : List UInt8) (i k : Nat) : UInt32 := ((l.drop (8 * i)).take k).foldl (fun w c => 16 * w + hexD c) 0
def hexWord (l : List UInt8) (i : Nat) : UInt32 := hexAt l i 8
theorem hexAt_step (l : List UInt8) (i k : Nat) (h : 8 * i + k < l.length) : hexAt l i (k + 1) = 16 * hexAt l i k + hexD l[8 * i + k] := by
  unfold hexAt
  rw [take_step _ k (by simp; omega), List.foldl_append]
  simp
theorem hex_lo (c : UInt8) (h : c.toNat < 97) : ((c.toNat : Int) - 48) % 256 = ((hexD c).toNat : Int) := by
  unfold hexD
  rw [if_neg (by omega), UInt8.toNat_toUInt32, UInt8.toNat_sub, show (48 : UInt8).toNat = 48 from rfl]
  have := c.toNat_lt
  omega
theorem hex_hi (c : UInt8) (h : 97 ≤ c.toNat) : (c.toNat : Int) - 97 + 10 = ((hexD c).toNat : Int) := by
  unfold hexD
  rw [if_pos h, UInt8.toNat_toUInt32, UInt8.toNat_add, UInt8.toNat_sub, show (97 : UInt8).toNat = 97 from rfl, show (10 : UInt8).toNat = 10 from rfl]
  have := c.toNat_lt
  omega
theorem hex_next (a d : UInt32) : (16 * (a.toNat : Int) % 4294967296 + (d.toNat : Int)) % 4294967296 = ((16 * a + d).toNat : Int) := by
  rw [UInt32.toNat_add, UInt32.toNat_mul]
  simp

set_option maxHeartbeats 1000000 in
theorem word_any (s : ByteArray) (i : Nat) (w : World) (hs : s.size ≤ 100000) (hi : 8 * i + 8 ≤ s.size) :
    Calls Tryd.prog 93 #[.string s, .int .i64 (i : Int)] w fun e w' => e = .returned (.int .u32 ((hexWord s.data.toList i).toNat : Int)) ∧ w = w' := by
  have e8 : IntKind.i64.wrap (8 * (i : Int)) = 8 * (i : Int) := IntWalk.i64_in _ (by omega)
  go_enter Tryd.func93, Tryd.ntmps93
  go_wp2
  go_loop [5, 6] (fun a b => ∃ k : Nat, k ≤ 8 ∧ b = .int .i64 ((8 * i + k : Nat) : Int) ∧ a = .int .u32 ((hexAt s.data.toList i k).toNat : Int)) (fun _ b => 8 * i + 8 - (intOf b).toNat)
  case atStart => exact ⟨0, Nat.zero_le _, by simp, rfl⟩
  case round =>
    obtain ⟨k, hk, rfl, rfl⟩ := hrel
    by_cases hlt : k < 8
    · have hj : 8 * i + k < s.size := by omega
      have HS := hide (hexAt_step s.data.toList i k (by rw [Array.length_toList]; exact hj))
      have hc := s[8 * i + k].toNat_lt
      have HC : Hid (s.data.toList[8 * i + k]'(by rw [Array.length_toList]; exact hj) = s[8 * i + k]) := hide (by rw [Array.getElem_toList]; rfl)
      have ha := (hexAt s.data.toList i k).toNat_lt
      have HN := hide (fun d => hex_next (hexAt s.data.toList i k) d)
      generalize hexAt s.data.toList i k = acc at *
      have e1 : decide (((8 * i + k : Nat) : Int) < 8 * (i : Int) + 8) = true := decide_eq_true (by omega)
      by_cases h97 : 97 ≤ s[8 * i + k].toNat
      · have HX := hide (hex_hi s[8 * i + k] h97)
        go_wp2
        go_round
        case rel => exact ⟨k + 1, by omega, by go_num, int_eq (by rw [unhide HX, unhide HS, unhide HC]; exact unhide HN _)⟩
        case measure => simp [intOf]; omega
      · have HX := hide (hex_lo s[8 * i + k] (by omega))
        go_wp2
        go_round
        case rel => exact ⟨k + 1, by omega, by go_num, int_eq (by rw [unhide HX, unhide HS, unhide HC]; exact unhide HN _)⟩
        case measure => simp [intOf]; omega
    · obtain rfl : k = 8 := by omega
      have e1 : decide (((8 * i + 8 : Nat) : Int) < 8 * (i : Int) + 8) = false := decide_eq_false (by omega)
      go_wp2
      go_ret
      exact ⟨rfl, rfl⟩


set_option maxHeartbeats 1000000 in
theorem words_any (s : ByteArray) (n : Nat) (nI : Int) (hI : nI = (n : Int)) (w : World) (hs : s.size ≤ 100000) (hn : 8 * n ≤ s.size) :
    Calls Tryd.prog 84 #[.string s, .int .i64 nI] w fun e w' => ∃ A c, e = .returned (.slice A n c) ∧ w'.ownsRow w.heap.size 92 1 (.slice A n c) n (((List.range n).map (hexWord s.data.toList)).map w32) ∧ Ext w w' := by
  subst hI
  go_enter Tryd.func84, Tryd.ntmps84
  go_wp2
  go_loopw [5, 6] (fun b i wr => ∃ (k : Nat) (A : Option Addr) (c : Nat), k ≤ n ∧ i = .int .i64 k ∧ b = .slice A k c ∧ Hid (wr.ownsRow w.heap.size 92 1 (.slice A k c) k (((List.range k).map (hexWord s.data.toList)).map w32) ∧ Ext w wr)) (fun _ i _ => n - (intOf i).toNat)
  case atStart => exact ⟨0, none, 0, Nat.zero_le _, rfl, rfl, hide ⟨World.ownsRow_nil _ _ _ _, Ext.refl _⟩⟩
  case round =>
    obtain ⟨k, A, c, hk, rfl, rfl, HI⟩ := hrel
    by_cases hlt : k < n
    · have HX := hide (show ((List.range (k + 1)).map (hexWord s.data.toList)).map w32 = ((List.range k).map (hexWord s.data.toList)).map w32 ++ [w32 (hexWord s.data.toList k)] from by rw [List.range_succ]; simp)
      have HW := hide (fun W => word_any s k W hs (by omega))
      generalize hexWord s.data.toList k = x at *
      go_wp2_with (first
        | (go_at_call 93; refine (unhide HW _).mono ?_; rintro e w' ⟨rfl, rfl⟩)
        | (at_builtin; refine wpList_app rfl rfl u32_row rfl (ownsRow_ext (unhide HI).1 ((Ext.refl _).alloc _)) rfl (Reads.new1 _ _ _) (AllOne.one rfl) (by omega) (Nat.le_trans (unhide HI).2.size' (by simp)) ?_; intro A' c' w2 ho hc hv; have HQ := hide (And.intro ho (And.intro hc hv)); clear ho hc hv))
      go_roundw
      case rel =>
        refine ⟨k + 1, A', c', by omega, by go_num, rfl, hide ⟨by rw [unhide HX]; exact (unhide HQ).1, ?_⟩⟩
        exact Onto.new_ext (unhide HI).2 (((Onto.refl _ _).ext ((Ext.refl wr).alloc _)).trans (Onto.app (unhide HQ).2.1 (unhide HQ).2.2)) (fun q hq => ((unhide HI).1.lt q hq).1)
      case measure => simp [intOf]; omega
    · obtain rfl : k = n := by omega
      go_wp2
      go_ret
      exact ⟨_, _, rfl, (unhide HI).1, (unhide HI).2⟩

end Go.Proofs.YtjemfefkgfoikaaDoor
