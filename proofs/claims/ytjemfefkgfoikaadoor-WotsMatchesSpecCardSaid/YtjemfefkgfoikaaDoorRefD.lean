/-
  The reference's All and short.
-/
import Derived.Test.YtjemfefkgfoikaaDoorMore
import Derived.Test.YtjemfefkgfoikaaDoorShaI
namespace Go.Proofs.YtjemfefkgfoikaaDoor
open Go.RowKit

theorem own_less {w : World} {B B' : Nat} {e : TypeId} {size n : Nat} {v : Value} {xs : List Value} (h : w.ownsRow B e size v n xs) (hB : B' ≤ B) : w.ownsRow B' e size v n xs := by
  refine ⟨h.1, ?_⟩
  rcases h.2 with h | ⟨g, cap, cur, hv, hb, h⟩
  · exact .inl h
  · exact .inr ⟨g, cap, cur, hv, Nat.le_trans hB hb, h⟩

set_option maxRecDepth 100000 in
set_option maxHeartbeats 1000000 in
theorem rall_any (l : List UInt8) (w : World) (hl : l.length = 32) :
    Calls Tryd.prog 100 #[.agg (l.map u8v).toArray] w fun e w' => ∃ A c, e = .returned (.slice A 32 c) ∧ GB w w.heap.size (.slice A 32 c) 32 l w' := by
  obtain ⟨arr, harr⟩ : ∃ r, (l.map u8v).toArray = r := ⟨_, rfl⟩
  have HA := hide (And.intro harr hl)
  rw [harr]
  clear harr hl
  go_enter Tryd.func100, Tryd.ntmps100
  go_wp2
  go_loopw [3, 4] (fun b i wr => ∃ (k : Nat) (A : Option Addr) (c : Nat), k ≤ 32 ∧ i = .int .i64 k ∧ b = .slice A k c ∧ Hid (GB w (w.heap.size + 1) (.slice A k c) k (l.take k) wr ∧ Blk wr w.heap.size 78 arr)) (fun _ i _ => 32 - (intOf i).toNat)
  case atStart => exact ⟨0, none, 0, Nat.zero_le _, rfl, rfl, hide ⟨GB.nil ((Ext.refl w).alloc _) (by omega) (by simp), Blk.new _ _ _⟩⟩
  case round =>
    obtain ⟨k, A, c, hk, rfl, rfl, HI⟩ := hrel
    by_cases hlt : k < 32
    · have hc : wr.cell? ⟨w.heap.size, k, none⟩ = some (.int .u8 ((l.getD k 0).toNat : Int)) := by
        rw [(unhide HI).2.cell, ← (unhide HA).1, List.getElem?_toArray, List.getElem?_map, List.getD_eq_getElem?_getD, List.getElem?_eq_getElem (by rw [(unhide HA).2]; exact hlt)]
        rfl
      have HS := hide (show l.take (k + 1) = l.take k ++ [l.getD k 0] from by
        rw [take_step l k (by rw [(unhide HA).2]; exact hlt), List.getD_eq_getElem?_getD, List.getElem?_eq_getElem (by rw [(unhide HA).2]; exact hlt)]
        rfl)
      generalize l.getD k 0 = x at *
      have b1 : (k : Int) < 32 := by omega
      go_wp2_with (at_builtin; refine wpList_app rfl rfl u8_row rfl (ownsRow_ext (unhide HI).1.own ((Ext.refl _).alloc _)) rfl (Reads.new1 _ _ _) (AllOne.one rfl) (by omega) (Nat.le_trans (unhide HI).1.room (by simp)) ?_; intro A' c' w2 ho hc2 hv; have HQ := hide (And.intro ho hc2); clear ho hc2 hv)
      go_roundw
      case rel =>
        refine ⟨k + 1, A', c', by omega, by go_num, rfl, hide ⟨(unhide HI).1.step ((Ext.refl _).alloc _) (unhide HQ).2 (by rw [unhide HS, List.map_append]; exact (unhide HQ).1), (unhide HI).1.blk ((Ext.refl _).alloc _) (unhide HQ).2 (unhide HI).2 (by omega)⟩⟩
      case measure => simp [intOf]; omega
    · obtain rfl : k = 32 := by omega
      go_wp2
      go_ret
      have h := (unhide HI).1
      rw [List.take_of_length_le (by rw [(unhide HA).2]; omega)] at h
      exact ⟨_, _, rfl, own_less h.own (by omega), h.ext, Nat.le_refl _, h.ext.size'⟩

set_option maxRecDepth 100000 in
set_option maxHeartbeats 1000000 in
theorem rshort_any (l : List UInt8) (w : World) (hl : l.length = 32) :
    Calls Tryd.prog 64 #[.agg (l.map u8v).toArray] w fun e w' => e = .returned (.agg ((l.take 16).map u8v).toArray) ∧ Ext w w' := by
  obtain ⟨arr, harr⟩ : ∃ r, (l.map u8v).toArray = r := ⟨_, rfl⟩
  have HA := hide (And.intro harr hl)
  rw [harr]
  clear harr hl
  go_enter Tryd.func64, Tryd.ntmps64
  go_wp2
  go_loopw [4] (fun i wr => ∃ k : Nat, k ≤ 16 ∧ i = .int .i64 k ∧ Hid (Blk wr w.heap.size 78 arr ∧ Blk wr (w.heap.size + 1) 23 (bytesTo 16 []) ∧ Blk wr (w.heap.size + 1 + 1) 23 (bytesTo 16 (l.take k)) ∧ Ext w wr)) (fun i _ => 16 - (intOf i).toNat)
  case atStart => exact ⟨0, Nat.zero_le _, rfl, hide ⟨((Blk.new w _ _).alloc _).alloc _, (Blk.new' _ _ _ (by simp)).alloc _, Blk.new' _ _ _ (by simp), (((Ext.refl w).alloc _).alloc _).alloc _⟩⟩
  case round =>
    obtain ⟨k, hk, rfl, HI⟩ := hrel
    have hlk : (l.take k).length = k := by rw [List.length_take, (unhide HA).2]; omega
    by_cases hlt : k < 16
    · have hc : wr.cell? ⟨w.heap.size, k, none⟩ = some (.int .u8 ((l.getD k 0).toNat : Int)) := by
        rw [(unhide HI).1.cell, ← (unhide HA).1, List.getElem?_toArray, List.getElem?_map, List.getD_eq_getElem?_getD, List.getElem?_eq_getElem (by rw [(unhide HA).2]; omega)]
        rfl
      have HS := hide (show l.take (k + 1) = l.take k ++ [l.getD k 0] from by
        rw [take_step l k (by rw [(unhide HA).2]; omega), List.getD_eq_getElem?_getD, List.getElem?_eq_getElem (by rw [(unhide HA).2]; omega)]
        rfl)
      have hc2 : wr.cell? ⟨w.heap.size + 1 + 1, k, none⟩ = some (.int .u8 0) := by
        rw [(unhide HI).2.2.1.cell]
        exact bytesTo_zero_at (by omega) hlt
      have hf := (unhide HI).2.2.1.frozen k
      generalize l.getD k 0 = x at *
      have b1 : (k : Int) < 32 := by omega
      have b2 : (k : Int) < 16 := by omega
      have HL := hide hlk
      clear hlk
      go_wp2
      go_roundw
      case rel =>
        obtain ⟨q1, q2, q3, q4⟩ := unhide HI
        have h1 := q3.set_ k (.int .u8 (x.toNat : Int))
        rw [bytesTo_set _ (unhide HL) hlt, ← unhide HS] at h1
        exact ⟨k + 1, by omega, by go_num, hide ⟨q1.far' (by omega) _ _, q2.far' (by omega) _ _, h1, q4.setCell (by simp; omega) _⟩⟩
      case measure => simp [intOf]; omega
    · obtain rfl : k = 16 := by omega
      obtain ⟨res, hres⟩ : ∃ r, ((l.take 16).map u8v).toArray = r := ⟨_, rfl⟩
      have HR := hide (show bytesTo 16 (l.take 16) = res from by rw [bytesTo_all hlk, hres])
      have HS := hide (show res.size = 16 ∧ res.all (·.oneCell') = true from by rw [← hres]; exact ⟨by simpa using hlk, bytes_one _⟩)
      have HRE := hide hres
      clear hres
      rw [unhide HR] at HI
      clear hlk
      go_wp2_with (first
        | (refine wpList_loadB (ty := 23) (t := 23) (x := .tmp 3) rfl rfl digest_wide rfl (unhide HI).2.2.1 (unhide HS).1 ?_)
        | (refine wpList_storeB (ty := 23) (t := 23) (x := .tmp 2) (y := .tmp 15) rfl rfl digest_wide rfl rfl (unhide HI).2.1 (bytesTo_size (by simp)) (unhide HS).1 (unhide HS).2 ?_; intro w2 hb2 hc2 hz2; have H2 := hide (And.intro hb2 hc2); clear hb2 hc2 hz2))
      refine bodyPost_ret (v := .agg res) (results_blk digest_wide rfl (unhide H2).1 (unhide HS).1 rfl) rfl ⟨by rw [unhide HRE], ?_⟩
      exact (unhide HI).2.2.2.trans' (unhide H2).2 (fun _ _ h => h) (fun i hi e => by omega)

end Go.Proofs.YtjemfefkgfoikaaDoor
