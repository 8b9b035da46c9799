
/-
  HMAC's closure: the key, padded and combined with a byte.
-/
import Derived.Test.YtoefmncdloffaaaDoorRep
namespace Go.Proofs.YtoefmncdloffaaaDoor
open Go.RowKit

theorem Reads.set {w : World} {g n c : Nat} {xs : List Value} (h : Reads w 1 (.slice (some ⟨g, 0, none⟩) n c) n xs) {k : Nat} (hk : k < n) (u : Value) : Reads (w.setCell ⟨g, k, none⟩ u) 1 (.slice (some ⟨g, 0, none⟩) n c) n (xs.set k u) := by
  obtain ⟨hl, A, c2, e, h1, h2, h3⟩ := h
  cases e
  refine ⟨by rw [List.length_set]; exact hl, _, _, rfl, h1, h2, fun hn => ⟨g, 0, rfl, fun j v hj => ?_⟩⟩
  obtain ⟨b, o, e, hc⟩ := h3 hn
  cases e
  rw [Nat.zero_add]
  by_cases hjk : k = j
  · subst hjk
    rw [List.getElem?_set_self (by omega)] at hj
    cases hj
    have := hc k _ (List.getElem?_eq_getElem (by omega))
    rw [Nat.zero_add] at this
    exact World.cell?_setCell_same' _ _ _ (by rw [this]; rfl)
  · rw [List.getElem?_set_ne hjk] at hj
    have := hc j v hj
    rw [Nat.zero_add] at this
    rw [World.cell?_setCell_other (h := fun e => hjk (by cases e; rfl))]
    exact this

/-- The padded key: the first k bytes of the key are in. -/
def padG (n : Nat) (key : List UInt8) (x : UInt8) (k : Nat) : List UInt8 := (List.range n).map fun i => if i < k then x ^^^ key.getD i 0 else x
def padN (n : Nat) (key : List UInt8) (x : UInt8) : List UInt8 := (List.range n).map fun i => key.getD i 0 ^^^ x
theorem padG_zero (n : Nat) (key : List UInt8) (x : UInt8) : (padG n key x 0).map u8v = List.replicate n (u8v x) := by
  unfold padG
  apply List.ext_getElem
  · simp
  · intro i h1 h2; simp
theorem padG_length (n : Nat) (key : List UInt8) (x : UInt8) (k : Nat) : (padG n key x k).length = n := by simp [padG]
theorem padG_get (n : Nat) (key : List UInt8) (x : UInt8) (k i : Nat) (h : i < n) : (padG n key x k)[i]? = some (if i < k then x ^^^ key.getD i 0 else x) := by
  unfold padG
  rw [List.getElem?_map, List.getElem?_range h]
  rfl
theorem padG_step (n : Nat) (key : List UInt8) (x : UInt8) (k : Nat) : padG n key x (k + 1) = (padG n key x k).set k (x ^^^ key.getD k 0) := by
  apply List.ext_getElem?
  intro i
  by_cases hi : i < n
  · rw [padG_get n key x (k + 1) i hi, List.getElem?_set, padG_get n key x k i hi, padG_length]
    by_cases hik : k = i
    · subst hik
      rw [if_pos rfl, if_pos hi, if_pos (by omega)]
    · rw [if_neg hik]
      by_cases h : i < k
      · rw [if_pos h, if_pos (by omega)]
      · rw [if_neg h, if_neg (by omega)]
  · rw [List.getElem?_eq_none (by rw [padG_length]; omega), List.getElem?_eq_none (by rw [List.length_set, padG_length]; omega)]
theorem padG_end (n : Nat) (key : List UInt8) (x : UInt8) : padG n key x key.length = padN n key x := by
  unfold padG padN
  apply List.map_congr_left
  intro i _
  by_cases h : i < key.length
  · rw [if_pos h, UInt8.xor_comm]
  · rw [if_neg h, List.getD_eq_getElem?_getD, List.getElem?_eq_none (by omega)]; simp
theorem padG_at (n : Nat) (key : List UInt8) (x : UInt8) (k : Nat) (h : k < n) : ((padG n key x k).map u8v)[k]? = some (u8v x) := by
  rw [List.getElem?_map, List.getElem?_eq_getElem (by rw [padG_length]; exact h)]
  simp [padG]
def padPart (key : List UInt8) (x : UInt8) (k : Nat) : List UInt8 := padG 64 key x k
def padOf (key : List UInt8) (x : UInt8) : List UInt8 := padN 64 key x
theorem padPart_zero (key : List UInt8) (x : UInt8) : (padPart key x 0).map u8v = List.replicate 64 (u8v x) := padG_zero 64 key x
theorem padPart_step (key : List UInt8) (x : UInt8) (k : Nat) : padPart key x (k + 1) = (padPart key x k).set k (x ^^^ key.getD k 0) := padG_step 64 key x k
theorem padPart_end (key : List UInt8) (x : UInt8) : padPart key x key.length = padOf key x := padG_end 64 key x
theorem padPart_at (key : List UInt8) (x : UInt8) (k : Nat) (h : k < 64) : ((padPart key x k).map u8v)[k]? = some (u8v x) := padG_at 64 key x k h
theorem padOf_length (key : List UInt8) (x : UInt8) : (padOf key x).length = 64 := by unfold padOf padN; rw [List.length_map, List.length_range]

set_option maxHeartbeats 1000000 in
theorem pad_any (x : UInt8) (xI : Int) (hx : xI = (x.toNat : Int)) (key : List UInt8) (kb : Nat) (v : Value) (w : World) (hk : w.cell? ⟨kb, 0, none⟩ = some v) (hr : Reads w 1 v key.length (key.map u8v)) (hl : key.length ≤ 64) :
    Calls Tryd.prog 93 #[.int .u8 xI, .pointer (some ⟨kb, 0, none⟩)] w fun e w' => ∃ g, e = .returned (.slice (some ⟨g, 0, none⟩) 64 64) ∧ Reads w' 1 (.slice (some ⟨g, 0, none⟩) 64 64) 64 ((padOf key x).map u8v) ∧ Ext w w' := by
  subst hx
  have HR := hide hr
  obtain ⟨A, c, rfl⟩ : ∃ A c, v = .slice A key.length c := by obtain ⟨_, A, c, h, _⟩ := hr; exact ⟨A, c, h⟩
  have HK := hide hk
  have HL := hide (lt_of_cell hk)
  clear hr hk
  go_enter Tryd.func93, Tryd.ntmps93
  go_wp2_with fail
  refine (repeat_any x _ _ ?hr).mono ?_
  case hr => exact Reads.new1 _ _ _
  rintro e w1 ⟨g, rfl, hR, hE, hg, hf⟩
  have hk1 : w1.cell? ⟨kb, 0, none⟩ = some (.slice A key.length c) := Ext.cellv (((Ext.refl w).alloc _).trans hE) (unhide HK)
  have HG := hide (show w.heap.size ≤ g from Nat.le_trans (((Ext.refl w).alloc (.cells #[u8v x] 5)).size') hg)
  have HE := hide (((Ext.refl w).alloc (.cells #[u8v x] 5)).trans hE)
  have HQ := hide (And.intro hR hf)
  clear hR hE hg hf
  go_wp2
  clear hk1
  go_loopw [12] (fun i wr => ∃ k : Nat, k ≤ key.length ∧ i = .int .i64 k ∧ Hid (Reads wr 1 (.slice (some ⟨g, 0, none⟩) 64 64) 64 ((padPart key x k).map u8v) ∧ (∀ i, wr.frozen? ⟨g, i, none⟩ = false) ∧ Ext w wr)) (fun i _ => key.length - (intOf i).toNat)
  case atStart => exact ⟨0, Nat.zero_le _, rfl, hide ⟨by rw [padPart_zero]; exact (unhide HQ).1, (unhide HQ).2, unhide HE⟩⟩
  case round =>
    obtain ⟨k, hk, rfl, HI⟩ := hrel
    by_cases hlt : k < key.length
    · obtain ⟨b, o, c', u, hv, _, _, hb, hu, hcc⟩ := ((unhide HR).ext (unhide HI).2.2).at1 hlt
      cases hv
      rw [List.getElem?_map, List.getElem?_eq_getElem hlt] at hu
      cases hu
      have ho : wr.cell? ⟨g, k, none⟩ = some (u8v x) := by
        obtain ⟨_, _, _, e, _, _, h⟩ := (unhide HI).1
        cases e
        obtain ⟨b2, o2, e2, h2⟩ := h (by omega)
        cases e2
        have := h2 k _ (padPart_at key x k (by omega))
        rwa [Nat.zero_add] at this
      have hf := (unhide HI).2.1 k
      unfold u8v at hcc ho
      have HS := hide (show padPart key x (k + 1) = (padPart key x k).set k (x ^^^ key[k]) from by rw [padPart_step key x k, List.getD_eq_getElem?_getD, List.getElem?_eq_getElem hlt]; rfl)
      have hk64 : (k : Int) < 64 := by omega
      generalize key[k] = z at *
      have hX := xor8 x z
      have HX := hide hX
      clear hX
      go_wp2
      go_roundw
      case rel =>
        refine ⟨k + 1, by omega, by go_num, hide ⟨?_, fun i => by rw [World.frozen?_setCell]; exact (unhide HI).2.1 i, (unhide HI).2.2.setCell (unhide HG) _⟩⟩
        rw [unhide HS, List.map_set]
        have := (unhide HI).1.set (k := k) (by omega) (u8v (x ^^^ z))
        rw [unhide HX]
        exact this
      case measure => simp [intOf]; omega
    · obtain rfl : k = key.length := by omega
      go_wp2
      go_ret
      refine ⟨g, rfl, ?_, (unhide HI).2.2⟩
      rw [← padPart_end]
      exact (unhide HI).1

end Go.Proofs.YtoefmncdloffaaaDoor
