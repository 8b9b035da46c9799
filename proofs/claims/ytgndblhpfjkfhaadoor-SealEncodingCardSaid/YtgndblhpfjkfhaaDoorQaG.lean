/-
  Several texts in one file: each has its own heading below.
-/
import Derived.Test.YtgndblhpfjkfhaaDoorQaF
import Derived.Deep.RegionLaw
import Derived.WalkKit
import Derived.Laws.BitsAllLaws
import Derived.Test.YtgndblhpfjkfhaaDoorQaE
import Derived.Outline
import Derived.Test.YtgndblhpfjkfhaaDoorQaA
import Derived.Laws.IdiomStrings
import Derived.Laws.BytesArg
import Derived.Lib.AppendStr

/-
  HMAC's closure: the key, padded and combined with a byte.
-/
namespace Go.Proofs.YtgndblhpfjkfhaaDoor
open Go.RowKit

theorem Reads.set {w : World} {g n c : Nat} {xs : List Value} (h : Reads w 1 (.slice (some ⟨g, 0, none⟩) n c) n xs) {k : Nat} (hk : k < n) (u : Value) : Reads (w.setCell ⟨g, k, none⟩ u) 1 (.slice (some ⟨g, 0, none⟩) n c) n (xs.set k u) := by
  obtain ⟨hl, A, c2, e, h1, h2, h3⟩ := h
  cases e
  refine ⟨by rw [List.length_set]; exact hl, _, _, rfl, h1, h2, fun hn => ⟨g, 0, rfl, fun j v hj => ?_⟩⟩
  obtain ⟨b, o, e, hc⟩ := h3 hn
  cases e
  rw [Nat.zero_add]
  by_cases hjk : k = j
  · subst hjk
    rw [List.getElem?_set_self (by omega)] at hj
    cases hj
    have := hc k _ (List.getElem?_eq_getElem (by omega))
    rw [Nat.zero_add] at this
    exact World.cell?_setCell_same' _ _ _ (by rw [this]; rfl)
  · rw [List.getElem?_set_ne hjk] at hj
    have := hc j v hj
    rw [Nat.zero_add] at this
    rw [World.cell?_setCell_other (h := fun e => hjk (by cases e; rfl))]
    exact this

/-- The padded key: the first k bytes of the key are in. -/
def padG (n : Nat) (key : List UInt8) (x : UInt8) (k : Nat) : List UInt8 := (List.range n).map fun i => if i < k then x ^^^ key.getD i 0 else x
def padN (n : Nat) (key : List UInt8) (x : UInt8) : List UInt8 := (List.range n).map fun i => key.getD i 0 ^^^ x
theorem padG_zero (n : Nat) (key : List UInt8) (x : UInt8) : (padG n key x 0).map u8v = List.replicate n (u8v x) := by
  unfold padG
  apply List.ext_getElem
  · simp
  · intro i h1 h2; simp
theorem padG_length (n : Nat) (key : List UInt8) (x : UInt8) (k : Nat) : (padG n key x k).length = n := by simp [padG]
theorem padG_get (n : Nat) (key : List UInt8) (x : UInt8) (k i : Nat) (h : i < n) : (padG n key x k)[i]? = some (if i < k then x ^^^ key.getD i 0 else x) := by
  unfold padG
  rw [List.getElem?_map, List.getElem?_range h]
  rfl
theorem padG_step (n : Nat) (key : List UInt8) (x : UInt8) (k : Nat) : padG n key x (k + 1) = (padG n key x k).set k (x ^^^ key.getD k 0) := by
  apply List.ext_getElem?
  intro i
  by_cases hi : i < n
  · rw [padG_get n key x (k + 1) i hi, List.getElem?_set, padG_get n key x k i hi, padG_length]
    by_cases hik : k = i
    · subst hik
      rw [if_pos rfl, if_pos hi, if_pos (by omega)]
    · rw [if_neg hik]
      by_cases h : i < k
      · rw [if_pos h, if_pos (by omega)]
      · rw [if_neg h, if_neg (by omega)]
  · rw [List.getElem?_eq_none (by rw [padG_length]; omega), List.getElem?_eq_none (by rw [List.length_set, padG_length]; omega)]
theorem padG_end (n : Nat) (key : List UInt8) (x : UInt8) : padG n key x key.length = padN n key x := by
  unfold padG padN
  apply List.map_congr_left
  intro i _
  by_cases h : i < key.length
  · rw [if_pos h, UInt8.xor_comm]
  · rw [if_neg h, List.getD_eq_getElem?_getD, List.getElem?_eq_none (by omega)]; simp
theorem padG_at (n : Nat) (key : List UInt8) (x : UInt8) (k : Nat) (h : k < n) : ((padG n key x k).map u8v)[k]? = some (u8v x) := by
  rw [List.getElem?_map, List.getElem?_eq_getElem (by rw [padG_length]; exact h)]
  simp [padG]
def padPart (key : List UInt8) (x : UInt8) (k : Nat) : List UInt8 := padG 64 key x k
def padOf (key : List UInt8) (x : UInt8) : List UInt8 := padN 64 key x
theorem padPart_zero (key : List UInt8) (x : UInt8) : (padPart key x 0).map u8v = List.replicate 64 (u8v x) := padG_zero 64 key x
theorem padPart_step (key : List UInt8) (x : UInt8) (k : Nat) : padPart key x (k + 1) = (padPart key x k).set k (x ^^^ key.getD k 0) := padG_step 64 key x k
theorem padPart_end (key : List UInt8) (x : UInt8) : padPart key x key.length = padOf key x := padG_end 64 key x
theorem padPart_at (key : List UInt8) (x : UInt8) (k : Nat) (h : k < 64) : ((padPart key x k).map u8v)[k]? = some (u8v x) := padG_at 64 key x k h
theorem padOf_length (key : List UInt8) (x : UInt8) : (padOf key x).length = 64 := by unfold padOf padN; rw [List.length_map, List.length_range]

set_option maxHeartbeats 1000000 in
theorem pad_any (x : UInt8) (xI : Int) (hx : xI = (x.toNat : Int)) (key : List UInt8) (kb : Nat) (v : Value) (w : World) (hk : w.cell? ⟨kb, 0, none⟩ = some v) (hr : Reads w 1 v key.length (key.map u8v)) (hl : key.length ≤ 64) :
    Calls Tryd.prog 96 #[.int .u8 xI, .pointer (some ⟨kb, 0, none⟩)] w fun e w' => ∃ g, e = .returned (.slice (some ⟨g, 0, none⟩) 64 64) ∧ Reads w' 1 (.slice (some ⟨g, 0, none⟩) 64 64) 64 ((padOf key x).map u8v) ∧ Ext w w' := by
  subst hx
  have HR := hide hr
  obtain ⟨A, c, rfl⟩ : ∃ A c, v = .slice A key.length c := by obtain ⟨_, A, c, h, _⟩ := hr; exact ⟨A, c, h⟩
  have HK := hide hk
  have HL := hide (lt_of_cell hk)
  clear hr hk
  go_enter Tryd.func96, Tryd.ntmps96
  go_wp2_with fail
  refine (repeat_any x _ _ ?hr).mono ?_
  case hr => exact Reads.new1 _ _ _
  rintro e w1 ⟨g, rfl, hR, hE, hg, hf⟩
  have hk1 : w1.cell? ⟨kb, 0, none⟩ = some (.slice A key.length c) := Ext.cellv (((Ext.refl w).alloc _).trans hE) (unhide HK)
  have HG := hide (show w.heap.size ≤ g from Nat.le_trans (((Ext.refl w).alloc (.cells #[u8v x] 5)).size') hg)
  have HE := hide (((Ext.refl w).alloc (.cells #[u8v x] 5)).trans hE)
  have HQ := hide (And.intro hR hf)
  clear hR hE hg hf
  go_wp2
  clear hk1
  go_loopw [12] (fun i wr => ∃ k : Nat, k ≤ key.length ∧ i = .int .i64 k ∧ Hid (Reads wr 1 (.slice (some ⟨g, 0, none⟩) 64 64) 64 ((padPart key x k).map u8v) ∧ (∀ i, wr.frozen? ⟨g, i, none⟩ = false) ∧ Ext w wr)) (fun i _ => key.length - (intOf i).toNat)
  case atStart => exact ⟨0, Nat.zero_le _, rfl, hide ⟨by rw [padPart_zero]; exact (unhide HQ).1, (unhide HQ).2, unhide HE⟩⟩
  case round =>
    obtain ⟨k, hk, rfl, HI⟩ := hrel
    by_cases hlt : k < key.length
    · obtain ⟨b, o, c', u, hv, _, _, hb, hu, hcc⟩ := ((unhide HR).ext (unhide HI).2.2).at1 hlt
      cases hv
      rw [List.getElem?_map, List.getElem?_eq_getElem hlt] at hu
      cases hu
      have ho : wr.cell? ⟨g, k, none⟩ = some (u8v x) := by
        obtain ⟨_, _, _, e, _, _, h⟩ := (unhide HI).1
        cases e
        obtain ⟨b2, o2, e2, h2⟩ := h (by omega)
        cases e2
        have := h2 k _ (padPart_at key x k (by omega))
        rwa [Nat.zero_add] at this
      have hf := (unhide HI).2.1 k
      unfold u8v at hcc ho
      have HS := hide (show padPart key x (k + 1) = (padPart key x k).set k (x ^^^ key[k]) from by rw [padPart_step key x k, List.getD_eq_getElem?_getD, List.getElem?_eq_getElem hlt]; rfl)
      have hk64 : (k : Int) < 64 := by omega
      generalize key[k] = z at *
      have hX := xor8 x z
      have HX := hide hX
      clear hX
      go_wp2
      go_roundw
      case rel =>
        refine ⟨k + 1, by omega, by go_num, hide ⟨?_, fun i => by rw [World.frozen?_setCell]; exact (unhide HI).2.1 i, (unhide HI).2.2.setCell (unhide HG) _⟩⟩
        rw [unhide HS, List.map_set]
        have := (unhide HI).1.set (k := k) (by omega) (u8v (x ^^^ z))
        rw [unhide HX]
        exact this
      case measure => simp [intOf]; omega
    · obtain rfl : k = key.length := by omega
      go_wp2
      go_ret
      refine ⟨g, rfl, ?_, (unhide HI).2.2⟩
      rw [← padPart_end]
      exact (unhide HI).1

end Go.Proofs.YtgndblhpfjkfhaaDoor

/-
  sha.HMAC.
-/
namespace Go.Proofs.YtgndblhpfjkfhaaDoor
open Go.RowKit

theorem hmac_eq (key m : List UInt8) : hmac key m = sha (padOf (if key.length > 64 then sha key else key) 92 ++ sha (padOf (if key.length > 64 then sha key else key) 54 ++ m)) := rfl
theorem sha_length (l : List UInt8) : (sha l).length = 32 := by
  have h : (shaBlocks ((shaPad l).length / 64) shaH0 (shaPad l)).length = 8 := by rw [← shaFold_blocks]; exact shaFold_length _ _ _ rfl
  have h2 := outAt_length (shaBlocks ((shaPad l).length / 64) shaH0 (shaPad l)) 8 (by omega)
  unfold outAt at h2
  rw [List.take_of_length_le (by omega)] at h2
  exact h2
theorem hmac_length (key m : List UInt8) : (hmac key m).length = 32 := by rw [hmac_eq]; exact sha_length _

set_option maxRecDepth 100000 in
set_option maxHeartbeats 4000000 in
theorem hmac_any (key b : List UInt8) (kv bv : Value) (w : World) (hM : ShaMem w) (hk : Reads w 1 kv key.length (key.map u8v)) (hb : Reads w 1 bv b.length (b.map u8v)) (hkl : key.length ≤ 1000000) (hbl : b.length ≤ 1000000) :
    Calls Tryd.prog 55 #[kv, bv] w fun e w' => e = .returned (.agg ((hmac key b).map u8v).toArray) ∧ Ext w w' := by
  have HM := hide hM
  have HB := hide hb
  obtain ⟨A, c, rfl⟩ : ∃ A c, kv = .slice A key.length c := by obtain ⟨_, A, c, h, _⟩ := hk; exact ⟨A, c, h⟩
  have HK0 := hide hk
  clear hM hk hb
  rw [hmac_eq]
  by_cases hlen : key.length > 64
  · rw [if_pos hlen]
    have d64 : decide ((64 : Int) < (key.length : Int)) = true := decide_eq_true (by omega)
    have hl' : (sha key).length ≤ 64 := by rw [sha_length]; omega
    obtain ⟨k', hk'⟩ : ∃ k', sha key = k' := ⟨_, rfl⟩
    rw [hk'] at hl' ⊢
    have HKK := hide hk'
    clear hk' hlen
    go_enter Tryd.func55, Tryd.ntmps55
    go_wp2_with fail
    refine (sum_any key _ _ ((unhide HM).ext (((Ext.refl w).alloc _).alloc _)) ((unhide HK0).ext (((Ext.refl w).alloc _).alloc _)) (by omega)).mono ?_
    rintro e w1 ⟨rfl, hE1⟩
    clear d64
    rw [unhide HKK]
    have H1 := hide hE1
    clear hE1
    have HS1 := hide (show ((k'.map u8v).toArray).size = 32 from by rw [← unhide HKK]; simpa using sha_length _)
    have c0 : w1.cell? ⟨w.heap.size, 0, none⟩ = some (.slice A key.length c) := Ext.cellv (unhide H1) (old_cell _ _ (new_cell _ _ _ rfl rfl))
    have f0 : w1.frozen? ⟨w.heap.size, 0, none⟩ = false := Ext.frozenv (unhide H1) (((Blk.new w 29 #[.slice A key.length c]).alloc _).frozen 0) (by simp; omega)
    have HC0 := hide (And.intro c0 (And.intro f0 (lt_of_cell c0)))
    clear c0 f0
    go_wp2_with (refine wpList_storeB (ty := 95) (t := 95) (x := .tmp 5) (y := .tmp 12) rfl rfl arr32_wide rfl rfl (Blk.new w1 _ _) rfl (unhide HS1) (bytes_one _) ?_; intro w2 hb2 hc2 hz2; have c0 := Chg.cellv (hc2) (old_cell _ _ (unhide HC0).1) (Nat.ne_of_lt (unhide HC0).2.2); have f0 := Chg.frozenv hc2 (Ext.frozenv ((Ext.refl w1).alloc _) (unhide HC0).2.1 (unhide HC0).2.2) (by have := (unhide HC0).2.2; simp; omega) (Nat.ne_of_lt (unhide HC0).2.2); have HW2 := hide (And.intro hb2 (And.intro hc2 hz2)); clear hb2 hc2 hz2)
    obtain ⟨kv', hkv'⟩ : ∃ v, v = Value.slice (some ⟨w1.heap.size, 0, none⟩) 32 32 := ⟨_, rfl⟩
    have hwl : w.heap.size + 2 ≤ w1.heap.size := by have := (unhide H1).size'; simp at this; omega
    have e32 : k'.length = 32 := by rw [← unhide HKK]; exact sha_length _
    have hX0 : Chg (fun k => k = w.heap.size) w1 (w2.setCell ⟨w.heap.size, 0, none⟩ kv') := by
      have h1 : Chg (fun k => k = w.heap.size) w1 w2 := ((Ext.refl w1).alloc _).trans' (unhide HW2).2.1 (fun _ _ h => h.elim) (fun i hi e => by omega)
      exact h1.setCell (p := ⟨w.heap.size, 0, none⟩) (.inl rfl) _
    have HK : Hid ((w2.setCell ⟨w.heap.size, 0, none⟩ kv').cell? ⟨w.heap.size, 0, none⟩ = some kv' ∧ Reads (w2.setCell ⟨w.heap.size, 0, none⟩ kv') 1 kv' k'.length (k'.map u8v) ∧ Ext w (w2.setCell ⟨w.heap.size, 0, none⟩ kv') ∧
        Blk (w2.setCell ⟨w.heap.size, 0, none⟩ kv') (w.heap.size + 1) 95 (Array.replicate 32 (.int .u8 0))) := hide (by
      refine ⟨World.cell?_setCell_same' _ _ _ (by rw [c0]; rfl), ?_, ?_, ?_⟩
      · have hb := (unhide HW2).1.far' (show ¬ w1.heap.size = w.heap.size by omega) 0 kv'
        have := Reads.of_blk hb (i := 0) (n := 32) (c := 32) (by rw [unhide HS1]; omega) (by omega) (by unfold maxLen; omega)
        simp only [List.drop_zero] at this
        rw [List.take_of_length_le (by rw [List.length_map]; omega)] at this
        rw [e32, hkv']
        rw [hkv'] at this
        exact this
      · exact ((((Ext.refl w).alloc _).alloc _).trans (unhide H1)).trans' hX0 (fun _ _ h => h) (fun i hi e => by omega)
      · have h1 : Blk ((w.alloc (.cells #[.slice A key.length c] 29)).alloc (.cells (Array.replicate 32 (.int .u8 0)) 95)) (w.heap.size + 1) 95 (Array.replicate 32 (.int .u8 0)) := Blk.new' _ _ _ (by simp)
        exact (h1.ext (unhide H1)).chg hX0 (by omega))
    subst hkv'
    clear c0 f0 hX0 hwl e32 HC0
    have HL' := hide hl'
    go_wp2_with fail
    refine (pad_any 54 _ rfl k' w.heap.size (.slice (some ⟨w1.heap.size, 0, none⟩) 32 32) _ (unhide HK).1 (unhide HK).2.1 hl').mono ?_
    rintro e w2 ⟨g2, rfl, hR2, hE2⟩
    have H2 := hide (And.intro hR2 hE2)
    clear hR2 hE2
    go_wp2_with (at_builtin; refine wpList_appF rfl rfl u8_row rfl (unhide H2).1 (by omega) rfl (((unhide HB).ext (unhide HK).2.2.1).ext (unhide H2).2) (AllOne.u8 b) (by omega) ?_; intro A3 c3 w3 hr3 hE3; have H3 := hide (And.intro hr3 hE3); clear hr3 hE3)
    refine (sum_any (padOf k' 54 ++ b) _ _ (((unhide HM).ext (unhide HK).2.2.1).ext ((unhide H2).2.trans (unhide H3).2)) ?hr (by rw [List.length_append, padOf_length]; omega)).mono ?_
    case hr => have := (unhide H3).1; rw [← List.map_append] at this; rw [List.length_append, padOf_length]; exact this
    rintro e w4 ⟨rfl, hE4⟩
    obtain ⟨in1, hin1⟩ : ∃ r, ((sha (padOf k' 54 ++ b)).map u8v).toArray = r := ⟨_, rfl⟩
    have HI1 := hide hin1
    have HI2 := hide (show in1.size = 32 ∧ in1.all (·.oneCell') = true from by rw [← hin1]; exact ⟨by simpa using sha_length _, bytes_one _⟩)
    rw [hin1]
    have H4 := hide ((unhide H2).2.trans ((unhide H3).2.trans hE4))
    clear hin1 hE4
    go_wp2_with (refine wpList_storeB (ty := 95) (t := 95) (x := .tmp 7) (y := .tmp 19) rfl rfl arr32_wide rfl rfl (Blk.new w4 _ _) rfl (unhide HI2).1 (unhide HI2).2 ?_; intro w5 hb5 hc5 hz5; have H5 := hide (And.intro hb5 (And.intro hc5 hz5)); clear hb5 hc5 hz5)
    have HE5 := hide ((unhide H4).trans (((Ext.refl w4).alloc (.cells #[Value.int IntKind.u8 0, Value.int IntKind.u8 0, Value.int IntKind.u8 0, Value.int IntKind.u8 0, Value.int IntKind.u8 0, Value.int IntKind.u8 0, Value.int IntKind.u8 0, Value.int IntKind.u8 0, Value.int IntKind.u8 0, Value.int IntKind.u8 0, Value.int IntKind.u8 0, Value.int IntKind.u8 0, Value.int IntKind.u8 0, Value.int IntKind.u8 0, Value.int IntKind.u8 0, Value.int IntKind.u8 0, Value.int IntKind.u8 0, Value.int IntKind.u8 0, Value.int IntKind.u8 0, Value.int IntKind.u8 0, Value.int IntKind.u8 0, Value.int IntKind.u8 0, Value.int IntKind.u8 0, Value.int IntKind.u8 0, Value.int IntKind.u8 0, Value.int IntKind.u8 0, Value.int IntKind.u8 0, Value.int IntKind.u8 0, Value.int IntKind.u8 0, Value.int IntKind.u8 0, Value.int IntKind.u8 0, Value.int IntKind.u8 0] 95)).trans' (unhide H5).2.1 (fun _ _ h => h) (fun i hi e => by omega)))
    have HR7 := hide (show Reads w5 1 (.slice (some ⟨w4.heap.size, 0, none⟩) 32 32) 32 ((sha (padOf k' 54 ++ b)).map u8v) from by
      have := Reads.of_blk (unhide H5).1 (i := 0) (n := 32) (c := 32) (by rw [(unhide HI2).1]; omega) (by omega) (by unfold maxLen; omega)
      rw [← unhide HI1] at this
      simp only [List.drop_zero] at this
      rwa [List.take_of_length_le (by rw [List.length_map, sha_length]; omega)] at this)
    go_region_law (first
      | (refine step_appF (s := .tmp 21) (x := .tmp 22) rfl rfl u8_row rfl (unhide H6).1 (by omega) rfl ((unhide HR7).ext (((Ext.refl w5).drew).trans (unhide H6).2)) (AllOne.u8 _) (by omega) ?_; intro A8 c8 w8 hr8 hE8; have H8 := hide (And.intro hr8 hE8); clear hr8 hE8)
      | (go_simp; go_at_call 96; refine (pad_any 92 _ rfl k' w.heap.size (.slice (some ⟨w1.heap.size, 0, none⟩) 32 32) _ (Ext.cellv ((unhide HE5).drew) (unhide HK).1) ((unhide HK).2.1.ext ((unhide HE5).drew)) hl').mono ?_; rintro e w6 ⟨g6, rfl, hR6, hE6⟩; have H6 := hide (And.intro hR6 hE6); clear hR6 hE6)
      | (rename_i K hK; go_simp; go_at_call 95; refine (sum_any (padOf k' 92 ++ sha (padOf k' 54 ++ b)) _ _ ((((unhide HM).ext (unhide HK).2.2.1).ext (unhide HE5)).ext (((Ext.refl w5).drew).trans ((unhide H6).2.trans (unhide H8).2))) ?_ ?_).mono ?_; (focus (have := (unhide H8).1; rw [← List.map_append] at this; rw [List.length_append, padOf_length, sha_length]; exact this)); (focus (rw [List.length_append, padOf_length, sha_length]; omega)); rintro e w9 ⟨rfl, hE9⟩; have H9 := hide ((unhide HE5).trans (((Ext.refl w5).drew).trans ((unhide H6).2.trans ((unhide H8).2.trans hE9)))); clear hE9
         dsimp only
         refine hK _ _ ?_
         clear hK K
         refine wpAny_ready (rs := [5]) (by kernel_rfl) (by simp) (AllReady.cons rfl (fun J hJ => ?_) AllReady.nil)
         refine step_storeB (ty := 95) (t := 95) (x := .tmp 4) (y := .tmp 24) rfl rfl arr32_wide rfl rfl ((unhide HK).2.2.2.ext (unhide H9)) ?_ ?_ ?_ ?_
         · rw [Array.size_replicate]
         · simpa using sha_length _
         · exact bytes_one _
         intro w10 hb10 hc10 hz10
         have H10 := hide (And.intro hb10 hc10)
         clear hb10 hc10 hz10
         refine hJ _ _ ?_
         clear hJ J))
    go_wp2
    refine bodyPost_ret (v := .agg ((sha (padOf k' 92 ++ sha (padOf k' 54 ++ b))).map u8v).toArray) (results_blk arr32_wide rfl (unhide H10).1 (by simpa using sha_length _) rfl) rfl ⟨rfl, ?_⟩
    exact ((unhide HK).2.2.1.trans (unhide H9)).trans' (unhide H10).2 (fun _ _ h => h) (fun i hi e => by omega)
  · rw [if_neg hlen]
    have hl' : key.length ≤ 64 := by omega
    have d64 : decide ((64 : Int) < (key.length : Int)) = false := decide_eq_false (by omega)
    obtain ⟨k', hk'⟩ : ∃ k', k' = key := ⟨_, rfl⟩
    subst hk'
    obtain ⟨kv', hkv'⟩ : ∃ v, v = Value.slice A k'.length c := ⟨_, rfl⟩
    have HK : Hid ((((w.alloc (.cells #[.slice A k'.length c] 29)).alloc (.cells (Array.replicate 32 (.int .u8 0)) 95)).cell? ⟨w.heap.size, 0, none⟩ = some kv') ∧
        Reads ((w.alloc (.cells #[.slice A k'.length c] 29)).alloc (.cells (Array.replicate 32 (.int .u8 0)) 95)) 1 kv' k'.length (k'.map u8v) ∧ Ext w ((w.alloc (.cells #[.slice A k'.length c] 29)).alloc (.cells (Array.replicate 32 (.int .u8 0)) 95)) ∧
        Blk ((w.alloc (.cells #[.slice A k'.length c] 29)).alloc (.cells (Array.replicate 32 (.int .u8 0)) 95)) (w.heap.size + 1) 95 (Array.replicate 32 (.int .u8 0))) := hide ⟨by rw [hkv']; exact old_cell _ _ (new_cell _ _ _ rfl rfl), by rw [hkv']; exact (unhide HK0).ext (((Ext.refl w).alloc _).alloc _), ((Ext.refl w).alloc _).alloc _, Blk.new' _ _ _ (by simp)⟩
    have HKV := hide hkv'
    clear hkv' hlen
    go_enter Tryd.func55, Tryd.ntmps55
    have HL' := hide hl'
    go_wp2_with fail
    refine (pad_any 54 _ rfl k' w.heap.size kv' _ (unhide HK).1 (unhide HK).2.1 hl').mono ?_
    rintro e w2 ⟨g2, rfl, hR2, hE2⟩
    have H2 := hide (And.intro hR2 hE2)
    clear hR2 hE2
    go_wp2_with (at_builtin; refine wpList_appF rfl rfl u8_row rfl (unhide H2).1 (by omega) rfl (((unhide HB).ext (unhide HK).2.2.1).ext (unhide H2).2) (AllOne.u8 b) (by omega) ?_; intro A3 c3 w3 hr3 hE3; have H3 := hide (And.intro hr3 hE3); clear hr3 hE3)
    refine (sum_any (padOf k' 54 ++ b) _ _ (((unhide HM).ext (unhide HK).2.2.1).ext ((unhide H2).2.trans (unhide H3).2)) ?hr (by rw [List.length_append, padOf_length]; omega)).mono ?_
    case hr => have := (unhide H3).1; rw [← List.map_append] at this; rw [List.length_append, padOf_length]; exact this
    rintro e w4 ⟨rfl, hE4⟩
    obtain ⟨in1, hin1⟩ : ∃ r, ((sha (padOf k' 54 ++ b)).map u8v).toArray = r := ⟨_, rfl⟩
    have HI1 := hide hin1
    have HI2 := hide (show in1.size = 32 ∧ in1.all (·.oneCell') = true from by rw [← hin1]; exact ⟨by simpa using sha_length _, bytes_one _⟩)
    rw [hin1]
    have H4 := hide ((unhide H2).2.trans ((unhide H3).2.trans hE4))
    clear hin1 hE4
    go_wp2_with (refine wpList_storeB (ty := 95) (t := 95) (x := .tmp 7) (y := .tmp 19) rfl rfl arr32_wide rfl rfl (Blk.new w4 _ _) rfl (unhide HI2).1 (unhide HI2).2 ?_; intro w5 hb5 hc5 hz5; have H5 := hide (And.intro hb5 (And.intro hc5 hz5)); clear hb5 hc5 hz5)
    have HE5 := hide ((unhide H4).trans (((Ext.refl w4).alloc (.cells #[Value.int IntKind.u8 0, Value.int IntKind.u8 0, Value.int IntKind.u8 0, Value.int IntKind.u8 0, Value.int IntKind.u8 0, Value.int IntKind.u8 0, Value.int IntKind.u8 0, Value.int IntKind.u8 0, Value.int IntKind.u8 0, Value.int IntKind.u8 0, Value.int IntKind.u8 0, Value.int IntKind.u8 0, Value.int IntKind.u8 0, Value.int IntKind.u8 0, Value.int IntKind.u8 0, Value.int IntKind.u8 0, Value.int IntKind.u8 0, Value.int IntKind.u8 0, Value.int IntKind.u8 0, Value.int IntKind.u8 0, Value.int IntKind.u8 0, Value.int IntKind.u8 0, Value.int IntKind.u8 0, Value.int IntKind.u8 0, Value.int IntKind.u8 0, Value.int IntKind.u8 0, Value.int IntKind.u8 0, Value.int IntKind.u8 0, Value.int IntKind.u8 0, Value.int IntKind.u8 0, Value.int IntKind.u8 0, Value.int IntKind.u8 0] 95)).trans' (unhide H5).2.1 (fun _ _ h => h) (fun i hi e => by omega)))
    have HR7 := hide (show Reads w5 1 (.slice (some ⟨w4.heap.size, 0, none⟩) 32 32) 32 ((sha (padOf k' 54 ++ b)).map u8v) from by
      have := Reads.of_blk (unhide H5).1 (i := 0) (n := 32) (c := 32) (by rw [(unhide HI2).1]; omega) (by omega) (by unfold maxLen; omega)
      rw [← unhide HI1] at this
      simp only [List.drop_zero] at this
      rwa [List.take_of_length_le (by rw [List.length_map, sha_length]; omega)] at this)
    go_region_law (first
      | (refine step_appF (s := .tmp 21) (x := .tmp 22) rfl rfl u8_row rfl (unhide H6).1 (by omega) rfl ((unhide HR7).ext (((Ext.refl w5).drew).trans (unhide H6).2)) (AllOne.u8 _) (by omega) ?_; intro A8 c8 w8 hr8 hE8; have H8 := hide (And.intro hr8 hE8); clear hr8 hE8)
      | (go_simp; go_at_call 96; refine (pad_any 92 _ rfl k' w.heap.size kv' _ (Ext.cellv ((unhide HE5).drew) (unhide HK).1) ((unhide HK).2.1.ext ((unhide HE5).drew)) hl').mono ?_; rintro e w6 ⟨g6, rfl, hR6, hE6⟩; have H6 := hide (And.intro hR6 hE6); clear hR6 hE6)
      | (rename_i K hK; go_simp; go_at_call 95; refine (sum_any (padOf k' 92 ++ sha (padOf k' 54 ++ b)) _ _ ((((unhide HM).ext (unhide HK).2.2.1).ext (unhide HE5)).ext (((Ext.refl w5).drew).trans ((unhide H6).2.trans (unhide H8).2))) ?_ ?_).mono ?_; (focus (have := (unhide H8).1; rw [← List.map_append] at this; rw [List.length_append, padOf_length, sha_length]; exact this)); (focus (rw [List.length_append, padOf_length, sha_length]; omega)); rintro e w9 ⟨rfl, hE9⟩; have H9 := hide ((unhide HE5).trans (((Ext.refl w5).drew).trans ((unhide H6).2.trans ((unhide H8).2.trans hE9)))); clear hE9
         dsimp only
         refine hK _ _ ?_
         clear hK K
         refine wpAny_ready (rs := [5]) (by kernel_rfl) (by simp) (AllReady.cons rfl (fun J hJ => ?_) AllReady.nil)
         refine step_storeB (ty := 95) (t := 95) (x := .tmp 4) (y := .tmp 24) rfl rfl arr32_wide rfl rfl ((unhide HK).2.2.2.ext (unhide H9)) ?_ ?_ ?_ ?_
         · rw [Array.size_replicate]
         · simpa using sha_length _
         · exact bytes_one _
         intro w10 hb10 hc10 hz10
         have H10 := hide (And.intro hb10 hc10)
         clear hb10 hc10 hz10
         refine hJ _ _ ?_
         clear hJ J))
    go_wp2
    refine bodyPost_ret (v := .agg ((sha (padOf k' 92 ++ sha (padOf k' 54 ++ b))).map u8v).toArray) (results_blk arr32_wide rfl (unhide H10).1 (by simpa using sha_length _) rfl) rfl ⟨rfl, ?_⟩
    exact ((unhide HK).2.2.1.trans (unhide H9)).trans' (unhide H10).2 (fun _ _ h => h) (fun i hi e => by omega)

end Go.Proofs.YtgndblhpfjkfhaaDoor

/-
  The encodings of integers and byte strings, as plain functions.
-/
namespace Go.Proofs.YtgndblhpfjkfhaaDoor
open Go.RowKit

def zig (n : Int) : Nat := if 0 ≤ n then (2 * n).toNat else (-2 * n - 1).toNat
def varint : Nat → Nat → List UInt8
  | 0, u => [UInt8.ofNat u]
  | f + 1, u => if u < 128 then [UInt8.ofNat u] else UInt8.ofNat (128 + u % 128) :: varint f (u / 128)
def wInt (n : Int) : List UInt8 := varint 9 (zig n)
def wBytes (l : List UInt8) : List UInt8 := wInt l.length ++ l
theorem varint_small {f u : Nat} (h : u < 128) : varint f u = [UInt8.ofNat u] := by cases f with
  | zero => rfl
  | succ f => rw [varint, if_pos h]
theorem varint_big {f u : Nat} (h : ¬ u < 128) : varint (f + 1) u = UInt8.ofNat (128 + u % 128) :: varint f (u / 128) := by rw [varint, if_neg h]
theorem varint_length (f u : Nat) : (varint f u).length ≤ f + 1 := by
  induction f generalizing u with
  | zero => simp [varint]
  | succ f ih =>
    rw [varint]
    split
    · simp
    · simp; exact ih _
theorem wInt_length (n : Int) : (wInt n).length ≤ 10 := varint_length 9 _
theorem wBytes_length (l : List UInt8) : (wBytes l).length ≤ 10 + l.length := by unfold wBytes; have := wInt_length l.length; simp; omega
theorem zig_lt {n : Int} (h1 : -9223372036854775808 ≤ n) (h2 : n < 9223372036854775808) : zig n < 18446744073709551616 := by unfold zig; split <;> omega
theorem or128 : ∀ x, x < 256 → x ||| 128 = 128 + x % 128 := by decide +kernel
theorem or_byte (u : Nat) : bits BinOp.or IntKind.u8 ((u : Int) % 256) 128 = ((UInt8.ofNat (128 + u % 128)).toNat : Int) := by
  rw [u8_or _ _ (by omega) (by omega) (by omega) (by omega)]
  have e : ((u : Int) % 256).toNat = u % 256 := by omega
  rw [e, show (128 : Int).toNat = 128 from rfl, or128 _ (by omega)]
  simp
  omega
theorem byte_mod (u : Nat) : (u : Int) % 256 = ((UInt8.ofNat u).toNat : Int) := by simp

end Go.Proofs.YtgndblhpfjkfhaaDoor

/-
  wire.Int, wire.Bytes and the reference's Int, Bytes.
-/
namespace Go.Proofs.YtgndblhpfjkfhaaDoor
open Go.RowKit

/-- Below 2 ^ 64. -/
def IsU64 (x : Nat) : Prop := x < 18446744073709551616
/-- What the loops over the groups of seven bits keep. -/
def WI (n : Int) (w : World) (x f m : Nat) (v : Value) (wr : World) : Prop :=
  ∃ pre : List UInt8, wInt n = pre ++ varint f x ∧ m = pre.length ∧ x < 128 ^ (f + 1) ∧ f ≤ 9 ∧ wr.ownsRow w.heap.size 5 1 v m (pre.map u8v) ∧ Ext w wr
theorem WI.small {n : Int} {w wr : World} {x f m : Nat} {v : Value} (h : WI n w x f m v wr) : m ≤ 10 := by
  obtain ⟨pre, h1, rfl, _⟩ := h
  have := wInt_length n
  rw [h1] at this
  simp at this
  omega
theorem WI.app {n : Int} {w wr w3 : World} {x f m : Nat} {A A' : Option Addr} {c c' : Nat} (h : WI n w x f m (.slice A m c) wr) (hx : ¬ x < 128)
    (ho : w3.ownsRow w.heap.size 5 1 (.slice A' (m + 1) c') (m + 1) ((h.choose).map u8v ++ [u8v (UInt8.ofNat (128 + x % 128))])) {o : Obj} (hc : Chg (fun k => (Value.slice A m c).ownBlock = some k) (wr.alloc o) w3) :
    ∃ g, WI n w (x / 128) g (m + 1) (.slice A' (m + 1) c') w3 := by
  obtain ⟨h1, h2, h3, h4, h5, h6⟩ := h.choose_spec
  generalize h.choose = pre at *
  cases f with
  | zero => simp at h3; omega
  | succ g =>
    rw [varint_big hx] at h1
    refine ⟨g, pre ++ [UInt8.ofNat (128 + x % 128)], by rw [h1]; simp, by simp [h2], ?_, by omega, by simpa using ho, (h6.alloc o).trans' hc (fun _ _ h => h) (fun i hi e => by have := h5.lt i e; omega)⟩
    rw [Nat.pow_succ] at h3
    exact Nat.div_lt_of_lt_mul (by rw [Nat.mul_comm]; exact h3)
theorem WI.last {n : Int} {w wr w3 : World} {x f m : Nat} {A A' : Option Addr} {c c' : Nat} (h : WI n w x f m (.slice A m c) wr) (hx : x < 128)
    (ho : w3.ownsRow w.heap.size 5 1 (.slice A' (m + 1) c') (m + 1) ((h.choose).map u8v ++ [u8v (UInt8.ofNat x)])) {o : Obj} (hc : Chg (fun k => (Value.slice A m c).ownBlock = some k) (wr.alloc o) w3) :
    m + 1 = (wInt n).length ∧ w3.ownsRow w.heap.size 5 1 (.slice A' (m + 1) c') (m + 1) ((wInt n).map u8v) ∧ Ext w w3 := by
  obtain ⟨h1, h2, h3, h4, h5, h6⟩ := h.choose_spec
  generalize h.choose = pre at *
  rw [varint_small hx] at h1
  refine ⟨by rw [h1]; simp [h2], by rw [h1]; simpa using ho, (h6.alloc o).trans' hc (fun _ _ h => h) (fun i hi e => by have := h5.lt i e; omega)⟩
theorem not64 (a : Nat) (h : a < 18446744073709551616) : bits BinOp.xor IntKind.u64 IntKind.u64.max (a : Int) = ((18446744073709551615 - a : Nat) : Int) := by
  have e := u64_xor IntKind.u64.max (a : Int) (by decide) (by decide) (by omega) (by omega)
  rw [e]
  have h1 : (UInt64.ofNat a).toNat = a := by simp; omega
  have h2 : (-1 ^^^ UInt64.ofNat a).toNat = 18446744073709551615 - a := by
    rw [UInt64.neg_one_xor, UInt64.toNat_not, h1]
    rfl
  rw [UInt64.toNat_xor, h1] at h2
  rw [← h2]
  rfl
theorem zig_pos (n : Int) (h0 : 0 ≤ n) (h2 : n < 9223372036854775808) : IntKind.u64.wrap (IntKind.u64.wrap n * 2) = (zig n : Int) := by
  rw [IntKind.wrap_u64, IntKind.wrap_u64]; unfold zig; rw [if_pos h0]; omega
theorem zig_neg (n : Int) (h0 : n < 0) (h1 : -9223372036854775808 ≤ n) : bits BinOp.xor IntKind.u64 IntKind.u64.max (IntKind.u64.wrap (IntKind.u64.wrap n * 2)) = (zig n : Int) := by
  have e : IntKind.u64.wrap (IntKind.u64.wrap n * 2) = ((2 * n + 18446744073709551616).toNat : Int) := by rw [IntKind.wrap_u64, IntKind.wrap_u64]; omega
  rw [e, not64 _ (by omega)]; unfold zig; rw [if_neg (by omega)]; omega
theorem WI.start {n : Int} (h1 : -9223372036854775808 ≤ n) (h2 : n < 9223372036854775808) (w : World) : WI n w (zig n) 9 0 (.slice none 0 0) w :=
  ⟨[], rfl, rfl, Nat.lt_of_lt_of_le (zig_lt h1 h2) (by decide), by omega, World.ownsRow_nil _ _ _ _, Ext.refl _⟩

set_option maxHeartbeats 1000000 in
theorem zigzag_any (n : Int) (w : World) (h1 : -9223372036854775808 ≤ n) (h2 : n < 9223372036854775808) :
    Calls Tryd.prog 101 #[.int .i64 n] w fun e w' => e = .returned (.int .u64 (zig n : Int)) ∧ w = w' := by
  by_cases h0 : 0 ≤ n
  · have hz := hide (show ((zig n : Nat) : Int) = 2 * n from by unfold zig; rw [if_pos h0]; omega)
    go_enter Tryd.func101, Tryd.ntmps101
    go_wp2
    go_ret
    exact ⟨ret_int (by first | exact (unhide hz).symm | (rw [unhide hz]; omega) | (rw [unhide hz]; simp [IntKind.wrap_u64]; omega)), rfl⟩
  · have hz := hide (show ((zig n : Nat) : Int) = -2 * n - 1 from by unfold zig; rw [if_neg h0]; omega)
    have d0 : decide (0 ≤ n) = false := decide_eq_false h0
    have hn : n < 0 := by omega
    clear h0
    go_enter Tryd.func101, Tryd.ntmps101
    go_wp2
    go_ret
    exact ⟨ret_int (by first | exact (unhide hz).symm | (rw [unhide hz]; omega) | (rw [unhide hz]; simp [IntKind.wrap_u64]; omega)), rfl⟩

set_option maxRecDepth 100000 in
set_option maxHeartbeats 1000000 in
theorem rint_any (n : Int) (w : World) (h1 : -9223372036854775808 ≤ n) (h2 : n < 9223372036854775808) :
    Calls Tryd.prog 60 #[.int .i64 n] w fun e w' => ∃ A c, e = .returned (.slice A (wInt n).length c) ∧ w'.ownsRow w.heap.size 5 1 (.slice A (wInt n).length c) (wInt n).length ((wInt n).map u8v) ∧ Ext w w' := by
  have HI := hide (WI.start h1 h2 w)
  have HZ := hide (show IsU64 (zig n) from zig_lt h1 h2)
  have HZZ := hide (fun w => zigzag_any n w h1 h2)
  clear h1 h2
  go_enter Tryd.func60, Tryd.ntmps60
  go_wp2_with (go_at_call 101; refine (unhide HZZ _).mono ?_; rintro e w' ⟨rfl, rfl⟩)
  generalize zig n = z at *
  go_loopw [3, 4] (fun u b wr => ∃ (x f m : Nat) (A : Option Addr) (c : Nat), u = .int .u64 (x : Int) ∧ IsU64 x ∧ b = .slice A m c ∧ Hid (WI n w x f m (.slice A m c) wr)) (fun u _ _ => (intOf u).toNat)
  case atStart => exact ⟨z, 9, 0, none, 0, rfl, unhide HZ, rfl, HI⟩
  case round =>
    clear HI HZ
    obtain ⟨x, f, m, A, c, rfl, hx64, rfl, HI⟩ := hrel
    have hm := (unhide HI).small
    by_cases hlt : x < 128
    · have HB := hide (show (x : Int) = ((UInt8.ofNat x).toNat : Int) from by simp; omega)
      go_wp2_with (at_builtin; refine wpList_app rfl rfl u8_row rfl (ownsRow_ext (unhide HI).choose_spec.2.2.2.2.1 ((Ext.refl wr).alloc _)) rfl (Reads.new1 _ _ _) (AllOne.one rfl) (by omega) (by have := (unhide HI).choose_spec.2.2.2.2.2.size'; simp; omega) ?_; intro A' c' w3 ho hc hv; have HQ := hide (And.intro ho hc); clear ho hc hv)
      go_ret
      obtain ⟨q1, q2⟩ := unhide HQ
      rw [unhide HB] at q1
      obtain ⟨q3, q4, q5⟩ := (unhide HI).last hlt q1 q2
      rw [q3] at q4 ⊢
      exact ⟨_, _, rfl, q4, q5⟩
    · have hwq : IntKind.u64.wrap ((x : Int) / 128) = ((x / 128 : Nat) : Int) := by rw [IntKind.wrap_u64]; unfold IsU64 at hx64; omega
      have HB := hide (show 128 + (x : Int) % 128 = ((UInt8.ofNat (128 + x % 128)).toNat : Int) from by simp; omega)
      go_wp2_with (at_builtin; refine wpList_app rfl rfl u8_row rfl (ownsRow_ext (unhide HI).choose_spec.2.2.2.2.1 ((Ext.refl wr).alloc _)) rfl (Reads.new1 _ _ _) (AllOne.one rfl) (by omega) (by have := (unhide HI).choose_spec.2.2.2.2.2.size'; simp; omega) ?_; intro A' c' w3 ho hc hv; have HQ := hide (And.intro ho hc); clear ho hc hv)
      go_roundw
      case rel =>
        obtain ⟨q1, q2⟩ := unhide HQ
        rw [unhide HB] at q1
        obtain ⟨g, q3⟩ := (unhide HI).app hlt q1 q2
        exact ⟨x / 128, g, m + 1, A', c', by go_num, by unfold IsU64 at hx64 ⊢; omega, rfl, hide q3⟩
      case measure => simp [intOf]; omega

set_option maxRecDepth 100000 in
set_option maxHeartbeats 1000000 in
theorem wint_any (n : Int) (w : World) (h1 : -9223372036854775808 ≤ n) (h2 : n < 9223372036854775808) :
    Calls Tryd.prog 17 #[.int .i64 n] w fun e w' => ∃ A c, e = .returned (.slice A (wInt n).length c) ∧ w'.ownsRow w.heap.size 5 1 (.slice A (wInt n).length c) (wInt n).length ((wInt n).map u8v) ∧ Ext w w' := by
  have HI := hide (WI.start h1 h2 w)
  have HZ := hide (show IsU64 (zig n) from zig_lt h1 h2)
  rcases Int.lt_or_le n 0 with h0 | h0
  · have hz := zig_neg n h0 h1
    have d0 : decide (n < 0) = true := decide_eq_true h0
    clear h1 h2
    go_enter Tryd.func17, Tryd.ntmps17
    go_wp2
    go_step3
    go_wp2
    go_step3
    go_wp2
    generalize zig n = z at *
    clear hz d0
    go_loopw [3, 4] (fun u b wr => ∃ (x f m : Nat) (A : Option Addr) (c : Nat), u = .int .u64 (x : Int) ∧ IsU64 x ∧ b = .slice A m c ∧ Hid (WI n w x f m (.slice A m c) wr)) (fun u _ _ => (intOf u).toNat)
    case atStart => exact ⟨z, 9, 0, none, 0, rfl, unhide HZ, rfl, HI⟩
    case round =>
      clear HI HZ
      obtain ⟨x, f, m, A, c, rfl, hx64, rfl, HI⟩ := hrel
      have hm := (unhide HI).small
      by_cases hlt : x < 128
      · have HB := hide (show (x : Int) = ((UInt8.ofNat x).toNat : Int) from by simp; omega)
        go_wp2_with (at_builtin; refine wpList_app rfl rfl u8_row rfl (ownsRow_ext (unhide HI).choose_spec.2.2.2.2.1 ((Ext.refl wr).alloc _)) rfl (Reads.new1 _ _ _) (AllOne.one rfl) (by omega) (by have := (unhide HI).choose_spec.2.2.2.2.2.size'; simp; omega) ?_; intro A' c' w3 ho hc hv; have HQ := hide (And.intro ho hc); clear ho hc hv)
        try rw [Exit.noGoto_ret]
        go_ret
        obtain ⟨q1, q2⟩ := unhide HQ
        rw [unhide HB] at q1
        obtain ⟨q3, q4, q5⟩ := (unhide HI).last hlt q1 q2
        rw [q3] at q4 ⊢
        exact ⟨_, _, rfl, q4, q5⟩
      · have hwq : (x : Int).fdiv (2 ^ min (Int.toNat 7) IntKind.u64.bits) = ((x / 128 : Nat) : Int) := by
          show (x : Int).fdiv 128 = _
          rw [Int.fdiv_eq_ediv_of_nonneg _ (by omega)]; omega
        have HB := hide (or_byte x)
        go_wp2_with (at_builtin; refine wpList_app rfl rfl u8_row rfl (ownsRow_ext (unhide HI).choose_spec.2.2.2.2.1 ((Ext.refl wr).alloc _)) rfl (Reads.new1 _ _ _) (AllOne.one rfl) (by omega) (by have := (unhide HI).choose_spec.2.2.2.2.2.size'; simp; omega) ?_; intro A' c' w3 ho hc hv; have HQ := hide (And.intro ho hc); clear ho hc hv)
        go_roundw
        case rel =>
          obtain ⟨q1, q2⟩ := unhide HQ
          rw [unhide HB] at q1
          obtain ⟨g, q3⟩ := (unhide HI).app hlt q1 q2
          exact ⟨x / 128, g, m + 1, A', c', by go_num, by unfold IsU64 at hx64 ⊢; omega, rfl, hide q3⟩
        case measure => simp [intOf]; omega
  · have hz := zig_pos n h0 h2
    have d0 : decide (n < 0) = false := decide_eq_false (by omega)
    clear h1 h2
    go_enter Tryd.func17, Tryd.ntmps17
    go_wp2
    go_step3
    go_wp2
    go_step3
    go_wp2
    generalize zig n = z at *
    clear hz d0
    go_loopw [3, 4] (fun u b wr => ∃ (x f m : Nat) (A : Option Addr) (c : Nat), u = .int .u64 (x : Int) ∧ IsU64 x ∧ b = .slice A m c ∧ Hid (WI n w x f m (.slice A m c) wr)) (fun u _ _ => (intOf u).toNat)
    case atStart => exact ⟨z, 9, 0, none, 0, rfl, unhide HZ, rfl, HI⟩
    case round =>
      clear HI HZ
      obtain ⟨x, f, m, A, c, rfl, hx64, rfl, HI⟩ := hrel
      have hm := (unhide HI).small
      by_cases hlt : x < 128
      · have HB := hide (show (x : Int) = ((UInt8.ofNat x).toNat : Int) from by simp; omega)
        go_wp2_with (at_builtin; refine wpList_app rfl rfl u8_row rfl (ownsRow_ext (unhide HI).choose_spec.2.2.2.2.1 ((Ext.refl wr).alloc _)) rfl (Reads.new1 _ _ _) (AllOne.one rfl) (by omega) (by have := (unhide HI).choose_spec.2.2.2.2.2.size'; simp; omega) ?_; intro A' c' w3 ho hc hv; have HQ := hide (And.intro ho hc); clear ho hc hv)
        try rw [Exit.noGoto_ret]
        go_ret
        obtain ⟨q1, q2⟩ := unhide HQ
        rw [unhide HB] at q1
        obtain ⟨q3, q4, q5⟩ := (unhide HI).last hlt q1 q2
        rw [q3] at q4 ⊢
        exact ⟨_, _, rfl, q4, q5⟩
      · have hwq : (x : Int).fdiv (2 ^ min (Int.toNat 7) IntKind.u64.bits) = ((x / 128 : Nat) : Int) := by
          show (x : Int).fdiv 128 = _
          rw [Int.fdiv_eq_ediv_of_nonneg _ (by omega)]; omega
        have HB := hide (or_byte x)
        go_wp2_with (at_builtin; refine wpList_app rfl rfl u8_row rfl (ownsRow_ext (unhide HI).choose_spec.2.2.2.2.1 ((Ext.refl wr).alloc _)) rfl (Reads.new1 _ _ _) (AllOne.one rfl) (by omega) (by have := (unhide HI).choose_spec.2.2.2.2.2.size'; simp; omega) ?_; intro A' c' w3 ho hc hv; have HQ := hide (And.intro ho hc); clear ho hc hv)
        go_roundw
        case rel =>
          obtain ⟨q1, q2⟩ := unhide HQ
          rw [unhide HB] at q1
          obtain ⟨g, q3⟩ := (unhide HI).app hlt q1 q2
          exact ⟨x / 128, g, m + 1, A', c', by go_num, by unfold IsU64 at hx64 ⊢; omega, rfl, hide q3⟩
        case measure => simp [intOf]; omega

end Go.Proofs.YtgndblhpfjkfhaaDoor

/-
  Strings and bytes: conversions, appending a string.
-/
namespace Go.Proofs.YtgndblhpfjkfhaaDoor
open Go.RowKit

def strOf (l : List UInt8) : ByteArray := ⟨l.toArray⟩
theorem strOf_toList (s : ByteArray) : strOf s.data.toList = s := by cases s; simp [strOf]
theorem strOf_list (l : List UInt8) : (strOf l).data.toList = l := by simp [strOf]
theorem strOf_size (l : List UInt8) : (strOf l).size = l.length := by simp [strOf, ByteArray.size]
theorem strOf_inj {a b : List UInt8} (h : strOf a = strOf b) : a = b := by rw [← strOf_list a, h, strOf_list]
def byteV (b : UInt8) : Value := .int .u8 (b.toNat : Int)

section
variable {P : Program}
/-- 'string(b)'. -/
theorem run_str_of {src dst e : TypeId} (hs : P.underlying src = some (.slice e)) (he : P.underlying e = some (.int .u8)) (hd : P.underlying dst = some .string) {w : World} {v : Value} {n : Nat} {l : List UInt8} (hr : Reads w 1 v n (l.map byteV)) :
    (convert src dst v).run P w = .ok (.string (strOf l)) w := by
  obtain ⟨hl, A, c, rfl, _, _, hc⟩ := hr
  rw [List.length_map, Nat.mul_one] at hl
  subst hl
  cases A with
  | none =>
    have : l = [] := by
      cases l with
      | nil => rfl
      | cons x l => obtain ⟨b, o, e, _⟩ := hc (by simp); cases e
    subst this
    exact run_convert_bytes_nil w src e hs he _ c dst hd
  | some a =>
    refine run_convert_bytes_back w src dst e a c l hs he hd fun j hj => ?_
    obtain ⟨b, o, e2, hcc⟩ := hc (by omega)
    cases e2
    rw [add_lit]
    exact hcc j _ (by rw [List.getElem?_map, List.getElem?_eq_getElem hj]; rfl)
/-- '[]byte(s)'. -/
theorem run_bytes_of {src dst e : TypeId} (hs : P.underlying src = some .string) (hd : P.underlying dst = some (.slice e)) (he : P.underlying e = some (.int .u8)) (w : World) (s : ByteArray) (hm : s.size ≤ maxLen) :
    ∃ c w', (convert src dst (.string s)).run P w = .ok (.slice (some ⟨w.heap.size, 0, none⟩) s.size c) w' ∧ Reads w' 1 (.slice (some ⟨w.heap.size, 0, none⟩) s.size c) s.size (s.data.toList.map byteV) ∧ Ext w w' ∧ (∀ i, i < s.size → w'.frozen? ⟨w.heap.size, i, none⟩ = false) := by
  refine ⟨_, _, run_bytes_of_string w src dst e s hs hd he, ⟨by rw [List.length_map, Array.length_toList, Nat.mul_one]; rfl, _, _, rfl, ?_, grownCap_le_maxLen w s.size 0 e hm, fun _ => ⟨_, _, rfl, fun j u hu => ?_⟩⟩, ((Ext.refl w).drew).alloc _, fun i hi => ?_⟩
  · simpa using grownCap_ge w s.size 0 e
  · have hj : j < s.data.size := by
      rcases Nat.lt_or_ge j s.data.size with h | h
      · exact h
      · rw [List.getElem?_eq_none (by simpa using h)] at hu; cases hu
    have h1 := World.cell?_alloc_mark w.drew (bytesRow s (grownCap w s.size 0 e)) e ((bytesRow s (grownCap w s.size 0 e)).size, (bytesRow s (grownCap w s.size 0 e)).size + 1) j
    rw [Nat.zero_add]
    refine Eq.trans h1 ?_
    rw [bytesRow_at s _ j hj, ← hu, List.getElem?_map, Array.getElem?_toList, Array.getElem?_eq_getElem hj]
    rfl
  · have hsz : (bytesRow s (grownCap w s.size 0 e)).size ≥ s.size := by unfold bytesRow; rw [Array.size_append, Array.size_map]; exact Nat.le_add_right _ _
    show (w.drew.alloc (.cells (bytesRow s (grownCap w s.size 0 e)) e ((bytesRow s (grownCap w s.size 0 e)).size, (bytesRow s (grownCap w s.size 0 e)).size + 1))).frozen? ⟨w.drew.heap.size, i, none⟩ = false
    have : (w.drew.alloc (.cells (bytesRow s (grownCap w s.size 0 e)) e ((bytesRow s (grownCap w s.size 0 e)).size, (bytesRow s (grownCap w s.size 0 e)).size + 1))).heap[w.drew.heap.size]? = some (.cells (bytesRow s (grownCap w s.size 0 e)) e ((bytesRow s (grownCap w s.size 0 e)).size, (bytesRow s (grownCap w s.size 0 e)).size + 1)) := heap_alloc_new _ _
    unfold World.frozen?
    rw [this]
    simp
    omega

theorem wpList_bytesOf {ops : Array Oper} {rest : List Oper} {o : Oper} {a : Act} {w : World} {Q : Exit → Act → World → Prop} (hgd : o.guard = none) {src dst e : TypeId} {x : Operand} (ho : o.op = .convert src dst x)
    (hs : P.underlying src = some .string) (hd : P.underlying dst = some (.slice e)) (he : P.underlying e = some (.int .u8)) {s : ByteArray} (hx : a.eval x = .string s) (hm : s.size ≤ maxLen)
    (h : ∀ c w', Reads w' 1 (.slice (some ⟨w.heap.size, 0, none⟩) s.size c) s.size (s.data.toList.map byteV) → Ext w w' → (∀ i, i < s.size → w'.frozen? ⟨w.heap.size, i, none⟩ = false) → wpList P ops Q rest (a.put o.dst (.slice (some ⟨w.heap.size, 0, none⟩) s.size c)) w') : wpList P ops Q (o :: rest) a w :=
  wpList_plain hgd fun _ hK => by
    obtain ⟨c, w', hrun, h1, h2, h3⟩ := run_bytes_of (P := P) hs hd he w s hm
    unfold Oper.wp execOp
    simp only [ho, hx, hrun, Sem.run_bind, Sem.run_pure, Result.andThen_ok]
    exact hK _ _ (h c w' h1 h2 h3)
theorem wpList_strOf {ops : Array Oper} {rest : List Oper} {o : Oper} {a : Act} {w : World} {Q : Exit → Act → World → Prop} (hgd : o.guard = none) {src dst e : TypeId} {x : Operand} (ho : o.op = .convert src dst x)
    (hs : P.underlying src = some (.slice e)) (he : P.underlying e = some (.int .u8)) (hd : P.underlying dst = some .string) {v : Value} (hx : a.eval x = v) {n : Nat} {l : List UInt8} (hr : Reads w 1 v n (l.map byteV))
    (h : wpList P ops Q rest (a.put o.dst (.string (strOf l))) w) : wpList P ops Q (o :: rest) a w :=
  wpList_plain hgd fun _ hK => by
    have hrun := run_str_of (P := P) hs he hd hr
    unfold Oper.wp execOp
    simp only [ho, hx, hrun, Sem.run_bind, Sem.run_pure, Result.andThen_ok]
    exact hK _ _ h
theorem wpList_appS {ops : Array Oper} {rest : List Oper} {o : Oper} {a : Act} {w : World} {Q : Exit → Act → World → Prop} (hgd : o.guard = none) {sl x : Operand} {t u : TypeId}
    (ho : o.op = .call { callee := .builtin .append, args := #[sl, x], argTypes := #[t, u] })
    {B : Nat} {e : TypeId} (T : SlTy P t e 1 1) (hz : (P.info? e).map (·.zero) = some (some (.int .u8 0))) (hu : P.underlying u = some .string) {v : Value} {n : Nat} {xs : List Value} (hs : a.eval sl = v) (hown : w.ownsRow B e 1 v n xs) {s : ByteArray} (hx : a.eval x = .string s)
    (hbytes : n + s.size ≤ 140737488355328) (hbase : B ≤ w.heap.size)
    (h : ∀ (A' : Option Addr) (c' : Nat) w', w'.ownsRow B e 1 (.slice A' (n + s.size) c') (n + s.size) (xs ++ s.data.toList.map byteV) → Chg (fun k => v.ownBlock = some k) w w' → wpList P ops Q rest (a.put o.dst (.slice A' (n + s.size) c')) w') : wpList P ops Q (o :: rest) a w := by
  obtain ⟨ht, ⟨i, z, hi, hz2, hsize, hby, hzs⟩, _, _⟩ := T
  have hz' : i.zero = some (.int .u8 0) := by rw [hi] at hz; simpa using hz
  refine Lib.wpList_append_own_string (P := P) (w := w) hgd sl x t u ho B e i ht hu hi hz' hsize hby v n xs hs hown s hx (by unfold maxLen; omega) hbytes hbase fun v' w' h1 h2 _ => ?_
  obtain ⟨A', c', rfl⟩ := own_slice h1
  exact h A' c' w' h1 ⟨h2.os, h2.tape, h2.output, h2.size, fun k hk hn => h2.block k hk (fun e => hn e.symm)⟩
end

end Go.Proofs.YtgndblhpfjkfhaaDoor

/-
  wire.Bytes and the reference's Bytes.
-/
namespace Go.Proofs.YtgndblhpfjkfhaaDoor
open Go.RowKit

theorem u8_zero : (Tryd.prog.info? 5).map (·.zero) = some (some (.int .u8 0)) := by kernel_rfl
theorem wBytes_len (s : ByteArray) : (wBytes s.data.toList).length = (wInt s.size).length + s.size := by
  unfold wBytes
  rw [List.length_append, Array.length_toList]
  rfl
theorem wBytes_map (s : ByteArray) : (wBytes s.data.toList).map u8v = (wInt s.size).map u8v ++ s.data.toList.map byteV := by
  unfold wBytes
  rw [List.map_append, Array.length_toList]
  rfl

set_option maxHeartbeats 400000 in
theorem wbytes_any (s : ByteArray) (w : World) (hs : s.size ≤ 1000000000) :
    Calls Tryd.prog 18 #[.string s] w fun e w' => ∃ A c, e = .returned (.slice A (wBytes s.data.toList).length c) ∧ w'.ownsRow w.heap.size 5 1 (.slice A (wBytes s.data.toList).length c) (wBytes s.data.toList).length ((wBytes s.data.toList).map u8v) ∧ Ext w w' := by
  have HW := hide (fun w => wint_any (s.size : Int) w (by omega) (by omega))
  have HL := hide (wBytes_len s)
  have HM := hide (wBytes_map s)
  have hl := wInt_length (s.size : Int)
  go_enter Tryd.func18, Tryd.ntmps18
  go_wp2_with fail
  refine (unhide HW _).mono ?_
  rintro e w1 ⟨A, c, rfl, ho, hE⟩
  have HO := hide (And.intro ho hE)
  clear ho hE
  go_wp2_with (at_builtin; refine wpList_appS rfl rfl u8_row u8_zero Tryd.underlying9 rfl (unhide HO).1 rfl (by omega) (unhide HO).2.size' ?_; intro A' c' w2 ho hc; have HQ := hide (And.intro ho hc); clear ho hc)
  go_ret
  obtain ⟨h1, h2⟩ := unhide HQ
  rw [← unhide HL, ← unhide HM] at h1
  exact ⟨A', c', by rw [unhide HL]; rfl, h1, (unhide HO).2.trans' h2 (fun _ _ h => h) (fun i hi e => by have := ((unhide HO).1.lt i e).1; omega)⟩

set_option maxHeartbeats 400000 in
theorem rbytes_any (s : ByteArray) (w : World) (hs : s.size ≤ 1000000000) :
    Calls Tryd.prog 72 #[.string s] w fun e w' => ∃ A c, e = .returned (.slice A (wBytes s.data.toList).length c) ∧ w'.ownsRow w.heap.size 5 1 (.slice A (wBytes s.data.toList).length c) (wBytes s.data.toList).length ((wBytes s.data.toList).map u8v) ∧ Ext w w' := by
  have HW := hide (fun w => rint_any (s.size : Int) w (by omega) (by omega))
  have HL := hide (wBytes_len s)
  have HM := hide (wBytes_map s)
  have hl := wInt_length (s.size : Int)
  go_enter Tryd.func72, Tryd.ntmps72
  go_wp2_with fail
  refine (unhide HW _).mono ?_
  rintro e w1 ⟨A, c, rfl, ho, hE⟩
  have HO := hide (And.intro ho hE)
  clear ho hE
  go_wp2_with (first
    | (refine wpList_bytesOf (src := 9) (dst := 29) (x := .tmp 6) (s := s) rfl rfl Tryd.underlying9 Tryd.underlying29 Tryd.underlying5 rfl (by unfold maxLen; omega) ?_; intro c2 w2 hr2 hE2 hf2; have HR := hide (And.intro hr2 hE2); clear hr2 hE2 hf2)
    | (at_builtin; refine wpList_app rfl rfl u8_row rfl (ownsRow_ext (unhide HO).1 (unhide HR).2) rfl (unhide HR).1 (AllOne.map (fun _ => rfl) _) (by omega) (Nat.le_trans (unhide HO).2.size' (unhide HR).2.size') ?_; intro A' c' w3 ho hc hv; have HQ := hide (And.intro ho hc); clear ho hc hv))
  go_ret
  obtain ⟨h1, h2⟩ := unhide HQ
  rw [← unhide HL, ← unhide HM] at h1
  exact ⟨A', c', by rw [unhide HL]; rfl, h1, ((unhide HO).2.trans (unhide HR).2).trans' h2 (fun _ _ h => h) (fun i hi e => by have := ((unhide HO).1.lt i e).1; omega)⟩

end Go.Proofs.YtgndblhpfjkfhaaDoor

/-
  sha's short, MAC, join, Digest, Derive.
-/
namespace Go.Proofs.YtgndblhpfjkfhaaDoor
open Go.RowKit

theorem digest_wide : Wide Tryd.prog 23 16 := ⟨⟨_, Tryd.underlying23, rfl⟩, by kernel_rfl⟩
theorem slices_row : SlTy Tryd.prog 92 29 1 24 := SlTy.mk' (z := .slice none 0 0) (by kernel_rfl) (by kernel_rfl) rfl (by omega) (by omega)

set_option maxHeartbeats 1000000 in
theorem short_any (l : List UInt8) (w : World) (hl : l.length = 32) :
    Calls Tryd.prog 54 #[.agg (l.map u8v).toArray] w fun e w' => e = .returned (.agg ((l.take 16).map u8v).toArray) ∧ Ext w w' := by
  obtain ⟨arr, harr⟩ : ∃ r, (l.map u8v).toArray = r := ⟨_, rfl⟩
  obtain ⟨res, hres⟩ : ∃ r, ((l.take 16).map u8v).toArray = r := ⟨_, rfl⟩
  have HA := hide (And.intro harr hl)
  have HR := hide hres
  have HS := hide (show res.size = 16 ∧ res.all (·.oneCell') = true from by rw [← hres]; exact ⟨by simp; omega, bytes_one _⟩)
  rw [harr, hres]
  clear harr hres hl
  have hat := fun X => run_arrayAt (P := Tryd.prog) Tryd.underlying23 (ad := some ⟨w.heap.size, 0, none⟩) (len := 16) (c := 32) (by omega) X
  go_enter Tryd.func54, Tryd.ntmps54
  go_wp2_with (first
    | (refine wpList_loadR (ty := 23) (x := .tmp 4) rfl rfl digest_wide rfl (arr := res) (cs := (l.take 16).map u8v) ?_ ?_ (unhide HR) ?_; (focus (refine rangeAt_chg (w := w.alloc (.cells arr 95)) (S := Non) (fun j v hj => ?_) ((Ext.refl _).alloc _) (fun h => h); rw [Nat.zero_add, (Blk.new w _ arr).cell, ← (unhide HA).1]; rw [List.map_take, List.getElem?_take] at hj; split at hj; (simpa using hj); (cases hj))); (focus (have := (unhide HA).2; simp; omega)))
    | (refine wpList_storeB (ty := 23) (t := 23) (x := .tmp 2) (y := .tmp 5) rfl rfl digest_wide rfl rfl (Blk.new' _ _ _ ?_) rfl (unhide HS).1 (unhide HS).2 ?_; (focus (simp; done)); intro w2 hb2 hc2 hz2; have H2 := hide (And.intro hb2 hc2); clear hb2 hc2 hz2))
  refine bodyPost_ret (v := .agg res) (results_blk digest_wide rfl (unhide H2).1 (unhide HS).1 rfl) rfl ⟨rfl, ?_⟩
  exact (((Ext.refl w).alloc _).alloc _).trans' (unhide H2).2 (fun _ _ h => h) (fun i hi e => by omega)

theorem mac_short (key b : List UInt8) (w : World) : Calls Tryd.prog 54 #[.agg ((hmac key b).map u8v).toArray] w fun e w' => e = .returned (.agg ((mac key b).map u8v).toArray) ∧ Ext w w' := short_any _ _ (hmac_length _ _)
theorem mac_length (key b : List UInt8) : (mac key b).length = 16 := by unfold mac; rw [List.length_take, hmac_length]; omega
set_option maxHeartbeats 1000000 in
theorem mac_any (key b : List UInt8) (kv bv : Value) (w : World) (hM : ShaMem w) (hk : Reads w 1 kv key.length (key.map u8v)) (hb : Reads w 1 bv b.length (b.map u8v)) (hkl : key.length ≤ 1000000) (hbl : b.length ≤ 1000000) :
    Calls Tryd.prog 16 #[kv, bv] w fun e w' => e = .returned (.agg ((mac key b).map u8v).toArray) ∧ Ext w w' := by
  have HH := hide (hmac_any key b kv bv _ (hM.ext ((Ext.refl w).alloc (.cells (Array.replicate 16 (.int .u8 0)) 23))) (hk.ext ((Ext.refl w).alloc _)) (hb.ext ((Ext.refl w).alloc _)) hkl hbl)
  have HL := hide (mac_length key b)
  clear hM hk hb
  go_enter Tryd.func16, Tryd.ntmps16
  go_wp2_with fail
  refine (unhide HH).mono ?_
  rintro e w1 ⟨rfl, hE1⟩
  go_wp2_with fail
  refine (mac_short key b _).mono ?_
  rintro e w2 ⟨rfl, hE2⟩
  have hB := (Blk.new w 23 (Array.replicate 16 (.int .u8 0))).ext (hE1.trans hE2)
  have HB := hide (And.intro hB (hE1.trans hE2))
  clear hB hE1 hE2
  go_wp2_with (refine wpList_storeB (ty := 23) (t := 23) (x := .tmp 4) (y := .tmp 8) rfl rfl digest_wide rfl rfl (unhide HB).1 (by simp) ?_ (bytes_one _) ?_; (focus (simpa using unhide HL)); intro w3 hb3 hc3 hz3; have H3 := hide (And.intro hb3 hc3); clear hb3 hc3 hz3)
  refine bodyPost_ret (v := .agg ((mac key b).map u8v).toArray) (results_blk digest_wide rfl (unhide H3).1 (by simpa using unhide HL) rfl) rfl ⟨rfl, ?_⟩
  exact (((Ext.refl w).alloc _).trans (unhide HB).2).trans' (unhide H3).2 (fun _ _ h => h) (fun i hi e => by omega)

/-- A slice of slices of bytes. -/
def Parts (w : World) (v : Value) (ps : List (List UInt8)) : Prop := ∃ vs : List Value, vs.length = ps.length ∧ Reads w 1 v ps.length vs ∧ ∀ (i : Nat) (p : List UInt8), ps[i]? = some p → ∃ u, vs[i]? = some u ∧ Reads w 1 u p.length (p.map u8v)
theorem Parts.ext {w w' : World} {v : Value} {ps : List (List UInt8)} (h : Parts w v ps) (hE : Ext w w') : Parts w' v ps := by
  obtain ⟨vs, h1, h2, h3⟩ := h
  refine ⟨vs, h1, h2.ext hE, fun i p hp => ?_⟩
  obtain ⟨u, h4, h5⟩ := h3 i p hp
  exact ⟨u, h4, h5.ext hE⟩
theorem Parts.chg {S : Nat → Prop} {w w' : World} {v : Value} {ps : List (List UInt8)} (h : Parts w v ps) {B : Nat} (hB : w.heap.size = B) (hE : Chg S w w') (hS : ∀ k, S k → B ≤ k) : Parts w' v ps :=
  h.ext (hE.mono fun k hk hs => by have := hS k hs; omega)
theorem Parts.nil (w : World) : Parts w (.slice none 0 0) [] := ⟨[], rfl, Reads.nil w 1, fun i p h => by simp at h⟩

/-- The encodings of the parts, one behind the other. -/
def encs (ps : List (List UInt8)) : List UInt8 := ps.flatMap wBytes
theorem encs_step (ps : List (List UInt8)) (k : Nat) (h : k < ps.length) : encs (ps.take (k + 1)) = encs (ps.take k) ++ wBytes ps[k] := by
  unfold encs
  rw [take_step ps k h, List.flatMap_append]
  simp
theorem encs_bound (ps : List (List UInt8)) (M : Nat) (h : ∀ p ∈ ps, p.length ≤ M) : (encs ps).length ≤ ps.length * (M + 10) := by
  unfold encs
  induction ps with
  | nil => simp
  | cons p ps ih =>
    have h1 := ih fun q hq => h q (List.mem_cons_of_mem _ hq)
    have h2 := h p List.mem_cons_self
    have h3 := wBytes_length p
    rw [List.flatMap_cons, List.length_append, List.length_cons, Nat.succ_mul]
    omega

end Go.Proofs.YtgndblhpfjkfhaaDoor

/-
  sha's join, Digest, Derive, Stream.
-/
namespace Go.Proofs.YtgndblhpfjkfhaaDoor
open Go.RowKit

theorem own_one (w : World) (B : Nat) (e : TypeId) (x : Value) (hB : B ≤ w.heap.size) : (w.alloc (.cells #[x] e)).ownsRow B e 1 (.slice (some ⟨w.heap.size, 0, none⟩) 1 1) 1 [x] :=
  ⟨by simp, .inr ⟨w.heap.size, 1, #[x], rfl, hB, heap_alloc_new w _, Nat.le_refl _, by unfold maxLen; omega, rfl, rfl⟩⟩

theorem own_one' (w : World) (B : Nat) (e : TypeId) (x : Value) {g : Nat} (hg : g = w.heap.size) (hB : B ≤ w.heap.size) : (w.alloc (.cells #[x] e)).ownsRow B e 1 (.slice (some ⟨g, 0, none⟩) 1 1) 1 [x] := by subst hg; exact own_one w B e x hB
set_option maxRecDepth 100000 in
set_option maxHeartbeats 1000000 in
theorem join_any (v : Value) (l : List UInt8) (pv : Value) (ps : List (List UInt8)) (B : Nat) (w : World) (h : w.ownsRow B 5 1 v l.length (l.map u8v)) (hB : B ≤ w.heap.size) (hp : Parts w pv ps)
    (hl : l.length ≤ 1000000) (hps : ps.length ≤ 1000) (hpl : ∀ p ∈ ps, p.length ≤ 1000000) (hS : ∀ X, Chg (fun k => v.ownBlock = some k) w X → Parts X pv ps) :
    Calls Tryd.prog 53 #[v, pv] w fun e w' => ∃ A c, e = .returned (.slice A (l ++ encs ps).length c) ∧ w'.ownsRow B 5 1 (.slice A (l ++ encs ps).length c) (l ++ encs ps).length ((l ++ encs ps).map u8v) ∧ Onto w v w' (.slice A (l ++ encs ps).length c) := by
  have H0 := hide h
  have HP := hide hp
  have HS := hide hS
  have HPL := hide hpl
  obtain ⟨A1, c1, rfl⟩ : ∃ A c, pv = .slice A ps.length c := by obtain ⟨vs, _, ⟨_, A, c, h, _⟩, _⟩ := hp; exact ⟨A, c, h⟩
  obtain ⟨A0, c0, rfl⟩ := own_slice h
  clear h hp hS hpl
  go_enter Tryd.func53, Tryd.ntmps53
  go_wp2
  go_loopw [0, 9] (fun b i wr => ∃ (k n : Nat) (A : Option Addr) (c : Nat), k ≤ ps.length ∧ i = .int .i64 k ∧ b = .slice A n c ∧ n ≤ 1000000 + k * 1000010 ∧ Hid (n = (l ++ encs (ps.take k)).length ∧ wr.ownsRow B 5 1 (.slice A n c) n ((l ++ encs (ps.take k)).map u8v) ∧ Onto w (.slice A0 l.length c0) wr (.slice A n c))) (fun _ i _ => ps.length - (intOf i).toNat)
  case atStart => exact ⟨0, l.length, A0, c0, Nat.zero_le _, rfl, rfl, by omega, hide ⟨by simp [encs], by simpa [encs] using unhide H0, Onto.refl _ _⟩⟩
  case round =>
    obtain ⟨k, n, A, c, hk, rfl, rfl, hn, HI⟩ := hrel
    by_cases hlt : k < ps.length
    · have hpw : Parts wr (.slice A1 ps.length c1) ps := unhide HS wr (unhide HI).2.2.chg
      obtain ⟨vs, q1, q2, q3⟩ := hpw
      obtain ⟨u, q4, q5⟩ := q3 k ps[k] (List.getElem?_eq_getElem hlt)
      obtain ⟨b, o, c', u', hv, _, _, hb, hu, hcc⟩ := q2.at1 hlt
      cases hv
      rw [q4] at hu
      cases hu
      obtain ⟨Au, cu, rfl⟩ : ∃ A c, u = .slice A ps[k].length c := by obtain ⟨_, A, c, h, _⟩ := q5; exact ⟨A, c, h⟩
      have hpk := unhide HPL ps[k] (List.getElem_mem hlt)
      have HQ5 := hide q5
      have HE := hide (encs_step ps k hlt)
      clear q1 q2 q3 q4 q5
      have hwl := wBytes_length ps[k]
      generalize ps[k] = p at *
      have HW := hide (fun w => wbytes_any (strOf p) w (by rw [strOf_size]; omega))
      rw [strOf_list] at HW
      go_wp2_with (first
        | (refine wpList_strOf (src := 29) (dst := 9) (x := .tmp 14) (l := p) rfl rfl Tryd.underlying29 Tryd.underlying5 Tryd.underlying9 rfl (unhide HQ5) ?_)
        | (go_at_call 18; refine (unhide HW _).mono ?_; rintro e w3 ⟨A3, c3, rfl, ho3, hE3⟩; have H3 := hide (And.intro ho3 hE3); clear ho3 hE3)
        | (at_builtin; refine wpList_app rfl rfl u8_row rfl (ownsRow_ext (unhide HI).2.1 (unhide H3).2) rfl (Reads.of_own (unhide H3).1) (AllOne.u8 _) (by omega) (Nat.le_trans hB (Nat.le_trans (unhide HI).2.2.chg.size (unhide H3).2.size')) ?_; intro A' c4 w4 ho hc hv; have H4 := hide (And.intro ho (((unhide HI).2.2.ext (unhide H3).2).trans (Onto.app hc hv))); clear ho hc hv))
      go_roundw
      case rel =>
        refine ⟨k + 1, n + (wBytes p).length, A', c4, by omega, by go_num, rfl, by rw [Nat.succ_mul]; omega, hide ⟨?_, ?_, (unhide H4).2⟩⟩
        · rw [unhide HE, ← List.append_assoc, List.length_append, ← (unhide HI).1]
        · rw [unhide HE, ← List.append_assoc, List.map_append]
          exact (unhide H4).1
      case measure => simp [intOf]; omega
    · obtain rfl : k = ps.length := by omega
      go_wp2
      go_ret
      obtain ⟨h1, h2, h3⟩ := unhide HI
      rw [List.take_length] at h1 h2
      subst h1
      exact ⟨A, c, rfl, h2, h3⟩

def tagByte (t : Int) : UInt8 := UInt8.ofNat (t % 256).toNat
theorem tag_wrap (t : Int) : t % 256 = ((tagByte t).toNat : Int) := by
  unfold tagByte; simp; omega
def digestS (tag : Int) (ps : List (List UInt8)) : List UInt8 := (sha ([tagByte tag] ++ encs ps)).take 16
def deriveS (key label : List UInt8) (ps : List (List UInt8)) : List UInt8 := mac key (wBytes label ++ encs ps)
theorem digestS_length (tag : Int) (ps : List (List UInt8)) : (digestS tag ps).length = 16 := by unfold digestS; rw [List.length_take, sha_length]; omega
theorem deriveS_length (key label : List UInt8) (ps : List (List UInt8)) : (deriveS key label ps).length = 16 := mac_length _ _
theorem digest_short (tag : Int) (ps : List (List UInt8)) (w : World) : Calls Tryd.prog 54 #[.agg ((sha ([tagByte tag] ++ encs ps)).map u8v).toArray] w fun e w' => e = .returned (.agg ((digestS tag ps).map u8v).toArray) ∧ Ext w w' := short_any _ _ (sha_length _)

set_option maxHeartbeats 1000000 in
theorem digest_any (tag : Int) (ps : List (List UInt8)) (pv : Value) (w : World) (hM : ShaMem w) (hp : Parts w pv ps) (hps : ps.length ≤ 1000) (hpl : ∀ p ∈ ps, p.length ≤ 10000) :
    Calls Tryd.prog 82 #[.int .i64 tag, pv] w fun e w' => e = .returned (.agg ((digestS tag ps).map u8v).toArray) ∧ Ext w w' := by
  have HM := hide hM
  have HP := hide hp
  have HPL := hide hpl
  have HT := hide (tag_wrap tag)
  have HB := hide (encs_bound ps 10000 hpl)
  clear hM hp hpl
  go_enter Tryd.func82, Tryd.ntmps82
  go_wp2_with fail
  rw [unhide HT]
  refine (join_any _ [tagByte tag] _ ps (w.heap.size + 1) _ ?h1 ?h2 ?h3 (by simp) hps ?h4 ?h5).mono ?_
  case h1 => exact own_one' _ _ _ _ (by simp) (by simp)
  case h2 => simp
  case h3 => exact (unhide HP).ext (((Ext.refl w).alloc _).alloc _)
  case h4 => intro p hp; have := unhide HPL p hp; omega
  case h5 =>
    intro X hX
    refine (unhide HP).ext ((((Ext.refl w).alloc _).alloc _).trans' hX (fun _ _ h => h) (fun i hi e => ?_))
    simp [Value.ownBlock] at e
    omega
  rintro e w1 ⟨A, c, rfl, ho, hO⟩
  have hE : Ext w w1 := (((Ext.refl w).alloc _).alloc _).trans' hO.chg (fun _ _ h => h) (fun i hi e => by simp [Value.ownBlock] at e; omega)
  have hB : Blk w1 w.heap.size 23 (Array.replicate 16 (.int .u8 0)) := ((Blk.new w 23 (Array.replicate 16 (.int .u8 0))).alloc _).chg hO.chg (by intro e; simp [Value.ownBlock] at e)
  have H1 := hide (And.intro ho (And.intro hE hB))
  clear ho hO hE hB
  go_wp2_with fail
  refine (sum_any ([tagByte tag] ++ encs ps) _ _ ((unhide HM).ext (unhide H1).2.1) ?hr ?hl).mono ?_
  case hr => have := Reads.of_own (unhide H1).1; first | exact this | (rw [List.length_append] at this; rw [List.length_append]; exact this) | (simp only [List.length_append, List.length_cons, List.length_nil] at this ⊢; exact this)
  case hl =>
    have := unhide HB
    have h2 : ps.length * (10000 + 10) ≤ 1000 * (10000 + 10) := Nat.mul_le_mul_right _ hps
    simp
    omega
  rintro e w2 ⟨rfl, hE2⟩
  go_wp2_with fail
  refine (digest_short tag ps _).mono ?_
  rintro e w3 ⟨rfl, hE3⟩
  have H3 := hide (And.intro ((unhide H1).2.1.trans (hE2.trans hE3)) ((unhide H1).2.2.ext (hE2.trans hE3)))
  clear hE2 hE3
  go_wp2_with (refine wpList_storeB (ty := 23) (t := 23) (x := .tmp 4) (y := .tmp 11) rfl rfl digest_wide rfl rfl (unhide H3).2 (by simp) ?_ (bytes_one _) ?_; (focus (simpa using digestS_length tag ps)); intro w4 hb4 hc4 hz4; have H4 := hide (And.intro hb4 hc4); clear hb4 hc4 hz4)
  refine bodyPost_ret (v := .agg ((digestS tag ps).map u8v).toArray) (results_blk digest_wide rfl (unhide H4).1 (by simpa using digestS_length tag ps) rfl) rfl ⟨rfl, ?_⟩
  exact (unhide H3).1.trans' (unhide H4).2 (fun _ _ h => h) (fun i hi e => by omega)

set_option maxHeartbeats 1000000 in
theorem derive_any (key : List UInt8) (kv : Value) (label : ByteArray) (ps : List (List UInt8)) (pv : Value) (w : World) (hM : ShaMem w) (hk : Reads w 1 kv key.length (key.map u8v)) (hkl : key.length ≤ 10000) (hll : label.size ≤ 10000) (hp : Parts w pv ps) (hps : ps.length ≤ 90) (hpl : ∀ p ∈ ps, p.length ≤ 10000) :
    Calls Tryd.prog 15 #[kv, .string label, pv] w fun e w' => e = .returned (.agg ((deriveS key label.data.toList ps).map u8v).toArray) ∧ Ext w w' := by
  have HM := hide hM
  have HK := hide hk
  have HP := hide hp
  have HPL := hide hpl
  have HB := hide (encs_bound ps 10000 hpl)
  have HW := hide (fun w => wbytes_any label w (by omega))
  have HWL := hide (show (wBytes label.data.toList).length ≤ 10 + label.size from wBytes_length label.data.toList)
  clear hM hp hpl hk
  go_enter Tryd.func15, Tryd.ntmps15
  go_wp2_with fail
  refine (unhide HW _).mono ?_
  rintro e w1 ⟨A1, c1, rfl, ho1, hE1⟩
  have H1 := hide (And.intro ho1 hE1)
  clear ho1 hE1
  have hge : Hid (∀ k, (Value.slice A1 (wBytes label.data.toList).length c1).ownBlock = some k → w.heap.size + 1 ≤ k) := hide (fun k hk => by have := ((unhide H1).1.lt k hk).1; simp at this; omega)
  go_wp2_with fail
  refine (join_any _ (wBytes label.data.toList) _ ps (w.heap.size + 1) _ ?h1 ?h2 ?h3 ?h6 (by omega) ?h4 ?h5).mono ?_
  case h1 => have := (unhide H1).1; simp only [World.size_alloc] at this; exact this
  case h2 => have := (unhide H1).2.size'; simp at this; omega
  case h3 => exact (unhide HP).ext (((Ext.refl w).alloc _).trans (unhide H1).2)
  case h6 => have := unhide HWL; omega
  case h4 => intro p hp; have := unhide HPL p hp; omega
  case h5 =>
    intro X hX
    refine (unhide HP).ext ((((Ext.refl w).alloc _).trans (unhide H1).2).trans' hX (fun _ _ h => h) (fun i hi e => ?_))
    have := unhide hge i e
    omega
  rintro e w2 ⟨A, c, rfl, ho, hO⟩
  have hE : Ext w w2 := (((Ext.refl w).alloc _).trans (unhide H1).2).trans' hO.chg (fun _ _ h => h) (fun i hi e => by have := unhide hge i e; omega)
  have hB : Blk w2 w.heap.size 23 (Array.replicate 16 (.int .u8 0)) := ((Blk.new w 23 (Array.replicate 16 (.int .u8 0))).ext (unhide H1).2).chg hO.chg (by intro e; have := unhide hge _ e; omega)
  have H2 := hide (And.intro ho (And.intro hE hB))
  clear ho hO hE hB
  go_wp2_with fail
  refine (mac_any key (wBytes label.data.toList ++ encs ps) _ _ _ ((unhide HM).ext (unhide H2).2.1) ((unhide HK).ext (unhide H2).2.1) ?hr (by omega) ?hl).mono ?_
  case hr => have := Reads.of_own (unhide H2).1; rw [List.length_append] at this; rw [List.length_append]; exact this
  case hl =>
    have := unhide HB
    have := unhide HWL
    have h2 : ps.length * (10000 + 10) ≤ 90 * (10000 + 10) := Nat.mul_le_mul_right _ hps
    simp
    omega
  rintro e w3 ⟨rfl, hE3⟩
  have H3 := hide (And.intro ((unhide H2).2.1.trans hE3) ((unhide H2).2.2.ext hE3))
  clear hE3
  go_wp2_with (refine wpList_storeB (ty := 23) (t := 23) (x := .tmp 6) (y := .tmp 12) rfl rfl digest_wide rfl rfl (unhide H3).2 (by simp) ?_ (bytes_one _) ?_; (focus (first | (simpa using deriveS_length _ _ _) | (simpa using mac_length _ _))); intro w4 hb4 hc4 hz4; have H4 := hide (And.intro hb4 hc4); clear hb4 hc4 hz4)
  refine bodyPost_ret (v := .agg ((deriveS key label.data.toList ps).map u8v).toArray) (results_blk digest_wide rfl (unhide H4).1 (by simpa using deriveS_length _ _ _) rfl) rfl ⟨rfl, ?_⟩
  exact (unhide H3).1.trans' (unhide H4).2 (fun _ _ h => h) (fun i hi e => by omega)

end Go.Proofs.YtgndblhpfjkfhaaDoor

/-
  sha.Stream.
-/
namespace Go.Proofs.YtgndblhpfjkfhaaDoor
open Go.RowKit

def streamCat (key : List UInt8) (k : Nat) : List UInt8 := (List.range k).flatMap fun j : Nat => hmac key (wInt (j : Int))
def streamS (key : List UInt8) (n : Int) : List UInt8 := (streamCat key ((n.toNat + 31) / 32)).take n.toNat
theorem streamCat_step (key : List UInt8) (k : Nat) : streamCat key (k + 1) = streamCat key k ++ hmac key (wInt k) := by
  unfold streamCat; rw [List.range_succ, List.flatMap_append]; simp
theorem streamCat_length (key : List UInt8) (k : Nat) : (streamCat key k).length = 32 * k := by
  induction k with
  | zero => rfl
  | succ k ih => rw [streamCat_step, List.length_append, ih, hmac_length]; omega
theorem streamCat_pre (key : List UInt8) (k d : Nat) : streamCat key k <+: streamCat key (k + d) := by
  induction d with
  | zero => exact List.prefix_refl _
  | succ d ih => exact ih.trans (by rw [← Nat.add_assoc, streamCat_step]; exact List.prefix_append _ _)
theorem take_pre {α : Type} {a b : List α} (h : a <+: b) {n : Nat} (hn : n ≤ a.length) : b.take n = a.take n := by
  obtain ⟨t, rfl⟩ := h
  rw [List.take_append_of_le_length hn]
theorem streamS_of (key : List UInt8) (N k : Nat) (h : N ≤ 32 * k) : (streamCat key k).take N = streamS key N := by
  have h1 : streamS key N = (streamCat key ((N + 31) / 32)).take N := rfl
  rw [h1]
  rcases Nat.le_total k ((N + 31) / 32) with hk | hk
  · obtain ⟨d, hd⟩ := Nat.exists_eq_add_of_le hk
    rw [hd, take_pre (streamCat_pre key k d) (by rw [streamCat_length]; exact h)]
  · obtain ⟨d, hd⟩ := Nat.exists_eq_add_of_le hk
    rw [hd, take_pre (streamCat_pre key ((N + 31) / 32) d) (by rw [streamCat_length]; omega)]
theorem streamS_length (key : List UInt8) (n : Int) : (streamS key n).length = n.toNat := by
  unfold streamS; rw [List.length_take, streamCat_length]; omega
theorem streamS_prefix (key : List UInt8) (n : Int) (m : Nat) : (streamS key (max n 0 + m)).take n.toNat = streamS key n := by
  have e1 : (max n 0 + (m : Int)).toNat = n.toNat + m := by omega
  have h1 : streamS key (max n 0 + m) = streamS key ((n.toNat + m : Nat) : Int) := by unfold streamS; rw [e1]; rfl
  have h2 : streamS key n = streamS key (n.toNat : Int) := by unfold streamS; rfl
  rw [h1, h2, ← streamS_of key (n.toNat + m) (n.toNat + m) (by omega), ← streamS_of key n.toNat (n.toNat + m) (by omega), List.take_take]
  congr 1
  omega

theorem stream_neg (kv : Value) (n : Int) (w : World) (hn : n < 0) :
    Calls Tryd.prog 94 #[kv, .int .i64 n] w fun e w' => e = .returned (.slice none 0 0) ∧ w = w' := by
  have d0 : decide (0 < n) = false := decide_eq_false (by omega)
  go_enter Tryd.func94, Tryd.ntmps94
  go_wp2
  go_loop [5] (fun b => b = .slice none 0 0) (fun _ => 0)
  case atStart => rfl
  case round =>
    subst hrel
    go_wp2
    go_ret
    exact ⟨rfl, rfl⟩

set_option maxRecDepth 100000 in
set_option maxHeartbeats 2000000 in
theorem stream_pos (key : List UInt8) (kv : Value) (N : Nat) (w : World) (hM : ShaMem w) (hk : Reads w 1 kv key.length (key.map u8v)) (hkl : key.length ≤ 10000) (hN : N ≤ 100000) :
    Calls Tryd.prog 94 #[kv, .int .i64 (N : Int)] w fun e w' => ∃ A c, e = .returned (.slice A N c) ∧ w'.ownsRow w.heap.size 5 1 (.slice A N c) N ((streamS key N).map u8v) ∧ Ext w w' := by
  have HM := hide hM
  have HK := hide hk
  clear hM hk
  have hkl : key.length ≤ 1000000 := by omega
  go_enter Tryd.func94, Tryd.ntmps94
  go_wp2
  go_loopw [5, 6] (fun b i wr => ∃ (k m : Nat) (A : Option Addr) (c : Nat), k ≤ N ∧ i = .int .i64 k ∧ b = .slice A m c ∧ m ≤ N ∧ Hid (m = min (32 * k) N ∧ wr.ownsRow w.heap.size 5 1 (.slice A m c) m (((streamCat key k).take N).map u8v) ∧ Ext w wr)) (fun b _ _ => match b with | .slice _ m _ => N - m | _ => 0)
  case atStart => exact ⟨0, 0, none, 0, Nat.zero_le _, rfl, rfl, by omega, hide ⟨by omega, by rw [show streamCat key 0 = [] from rfl, List.take_nil]; exact World.ownsRow_nil _ _ _ _, Ext.refl _⟩⟩
  case round =>
    obtain ⟨k, m, A, c, hkN, rfl, rfl, hm, HI⟩ := hrel
    by_cases hlt : m < N
    · by_cases hq : 32 ≤ N - m
      · go_wp2_with (first
          | (go_at_call 17; refine (wint_any (k : Int) _ (by omega) (by omega)).mono ?_; rintro e w2 ⟨A2, c2, rfl, ho2, hE2⟩; have H2 := hide (And.intro ho2 hE2); clear ho2 hE2)
          | (go_at_call 55; refine (hmac_any key (wInt k) _ _ _ ((unhide HM).ext ((unhide HI).2.2.trans (unhide H2).2)) ((unhide HK).ext ((unhide HI).2.2.trans (unhide H2).2)) (Reads.of_own (unhide H2).1) hkl (by have := wInt_length k; omega)).mono ?_; rintro e w3 ⟨rfl, hE3⟩; have H3 := hide hE3; clear hE3)
          | (refine wpList_storeB (ty := 95) (t := 95) (x := .tmp 7) (y := .tmp 17) rfl rfl arr32_wide rfl rfl (Blk.new _ _ _) rfl ?_ (bytes_one _) ?_; (focus (simpa using hmac_length _ _)); intro w4 hb4 hc4 hz4; have HOW := hide (ownsRow_chg (ownsRow_ext (unhide HI).2.1 (((unhide H2).2.trans (unhide H3)).alloc _)) hc4 (fun q hq e => by have := ((unhide HI).2.1.lt q hq).2; have s := ((unhide H2).2.trans (unhide H3)).size'; omega)); have HEW := hide (show Ext wr w4 from (((unhide H2).2.trans (unhide H3)).alloc _).trans' hc4 (fun _ _ h => h) (fun i hi e => by have s := ((unhide H2).2.trans (unhide H3)).size'; omega)); have HRW := hide (show Reads w4 1 (.slice (some ⟨w3.heap.size, 0, none⟩) (32) 32) (32) (((hmac key (wInt k)).take (32)).map u8v) from by (have := Reads.of_blk hb4 (i := 0) (n := 32) (c := 32) (by rw [List.size_toArray, List.length_map, hmac_length]; omega) (by omega) (by unfold maxLen; omega)); simp only [List.drop_zero] at this; rw [List.map_take]; exact this); clear hb4 hc4 hz4)
          | (at_builtin; refine wpList_app rfl rfl u8_row rfl (unhide HOW) rfl (unhide HRW) (AllOne.u8 _) (by omega) (Nat.le_trans (unhide HI).2.2.size' (unhide HEW).size') ?_; intro A' c' w5 ho hc hv; have H5 := hide (And.intro ho hc); clear ho hc hv))
        go_roundw
        case rel =>
          refine ⟨k + 1, m + (32), A', c', by have := (unhide HI).1; omega, by go_num, rfl, by omega, hide ⟨by have := (unhide HI).1; omega, ?_, ((unhide HI).2.2.trans (unhide HEW)).trans' (unhide H5).2 (fun _ _ h => h) (fun i hi e => by have := ((unhide HI).2.1.lt i e).1; omega)⟩⟩
          have e1 : (streamCat key (k + 1)).take N = (streamCat key k).take N ++ (hmac key (wInt k)).take (32) := by
            have := (unhide HI).1
            rw [streamCat_step, List.take_append, streamCat_length]
            congr 1
            rw [List.take_eq_take_iff, hmac_length]
            omega
          rw [e1, List.map_append]
          exact (unhide H5).1
        case measure => simp; omega
      · obtain ⟨q, hqa, hqb⟩ : ∃ q, m + q ≤ N ∧ N ≤ m + q := ⟨N - m, by omega, by omega⟩
        have hnm : ((N : Int) - (m : Int)) = (q : Int) := by omega
        have hb32 : q ≤ 32 := by omega
        have hb31 : q < 32 := by omega
        have hb33 : (q : Int) ≤ 32 := by omega
        go_wp2_with (first
          | (go_at_call 17; refine (wint_any (k : Int) _ (by omega) (by omega)).mono ?_; rintro e w2 ⟨A2, c2, rfl, ho2, hE2⟩; have H2 := hide (And.intro ho2 hE2); clear ho2 hE2)
          | (go_at_call 55; refine (hmac_any key (wInt k) _ _ _ ((unhide HM).ext ((unhide HI).2.2.trans (unhide H2).2)) ((unhide HK).ext ((unhide HI).2.2.trans (unhide H2).2)) (Reads.of_own (unhide H2).1) hkl (by have := wInt_length k; omega)).mono ?_; rintro e w3 ⟨rfl, hE3⟩; have H3 := hide hE3; clear hE3)
          | (refine wpList_storeB (ty := 95) (t := 95) (x := .tmp 7) (y := .tmp 17) rfl rfl arr32_wide rfl rfl (Blk.new _ _ _) rfl ?_ (bytes_one _) ?_; (focus (simpa using hmac_length _ _)); intro w4 hb4 hc4 hz4; have HOW := hide (ownsRow_chg (ownsRow_ext (unhide HI).2.1 (((unhide H2).2.trans (unhide H3)).alloc _)) hc4 (fun q hq e => by have := ((unhide HI).2.1.lt q hq).2; have s := ((unhide H2).2.trans (unhide H3)).size'; omega)); have HEW := hide (show Ext wr w4 from (((unhide H2).2.trans (unhide H3)).alloc _).trans' hc4 (fun _ _ h => h) (fun i hi e => by have s := ((unhide H2).2.trans (unhide H3)).size'; omega)); have HRW := hide (show Reads w4 1 (.slice (some ⟨w3.heap.size, 0, none⟩) (q) 32) (q) (((hmac key (wInt k)).take (q)).map u8v) from by (have := Reads.of_blk hb4 (i := 0) (n := q) (c := 32) (by rw [List.size_toArray, List.length_map, hmac_length]; omega) (by omega) (by unfold maxLen; omega)); simp only [List.drop_zero] at this; rw [List.map_take]; exact this); clear hb4 hc4 hz4)
          | (at_builtin; refine wpList_app rfl rfl u8_row rfl (unhide HOW) rfl (unhide HRW) (AllOne.u8 _) (by omega) (Nat.le_trans (unhide HI).2.2.size' (unhide HEW).size') ?_; intro A' c' w5 ho hc hv; have H5 := hide (And.intro ho hc); clear ho hc hv))
        go_roundw
        case rel =>
          refine ⟨k + 1, m + (q), A', c', by have := (unhide HI).1; omega, by go_num, rfl, by omega, hide ⟨by have := (unhide HI).1; omega, ?_, ((unhide HI).2.2.trans (unhide HEW)).trans' (unhide H5).2 (fun _ _ h => h) (fun i hi e => by have := ((unhide HI).2.1.lt i e).1; omega)⟩⟩
          have e1 : (streamCat key (k + 1)).take N = (streamCat key k).take N ++ (hmac key (wInt k)).take (q) := by
            have := (unhide HI).1
            rw [streamCat_step, List.take_append, streamCat_length]
            congr 1
            rw [List.take_eq_take_iff, hmac_length]
            omega
          rw [e1, List.map_append]
          exact (unhide H5).1
        case measure => simp; omega
    · obtain rfl : m = N := by omega
      go_wp2
      go_ret
      obtain ⟨h1, h2, h3⟩ := unhide HI
      rw [streamS_of key m k (by omega)] at h2
      exact ⟨A, c, rfl, h2, h3⟩

end Go.Proofs.YtgndblhpfjkfhaaDoor

/-
  box.tag.
-/
namespace Go.Proofs.YtgndblhpfjkfhaaDoor
open Go.RowKit

def labAuth : ByteArray := { data := #[97, 117, 116, 104, 101, 110, 116, 105, 99, 97, 116, 101] }
def labEnc : ByteArray := { data := #[101, 110, 99, 114, 121, 112, 116] }
def tagS (key : List UInt8) (nonce : Int) (c : List UInt8) : List UInt8 := mac (deriveS key labAuth.data.toList []) (wInt nonce ++ wBytes c)
theorem tagS_length (key : List UInt8) (nonce : Int) (c : List UInt8) : (tagS key nonce c).length = 16 := mac_length _ _

set_option maxRecDepth 100000 in
set_option maxHeartbeats 2000000 in
theorem tag_any (key : List UInt8) (nonce : Int) (c : ByteArray) (w : World) (hM : ShaMem w) (hk : key.length = 16) (h1 : -9223372036854775808 ≤ nonce) (h2 : nonce < 9223372036854775808) (hc : c.size ≤ 100000) :
    Calls Tryd.prog 52 #[.agg (key.map u8v).toArray, .int .i64 nonce, .string c] w fun e w' => e = .returned (.agg ((tagS key nonce c.data.toList).map u8v).toArray) ∧ Ext w w' := by
  obtain ⟨arr, harr⟩ : ∃ r, (key.map u8v).toArray = r := ⟨_, rfl⟩
  obtain ⟨dk, hdk⟩ : ∃ d, deriveS key labAuth.data.toList [] = d := ⟨_, rfl⟩
  obtain ⟨res, hres⟩ : ∃ d, tagS key nonce c.data.toList = d := ⟨_, rfl⟩
  have hdl : dk.length = 16 := by rw [← hdk]; exact deriveS_length _ _ _
  have HM := hide hM
  have HW1 := hide (fun w => wint_any nonce w h1 h2)
  have HW2 := hide (fun w => wbytes_any c w (by omega))
  have HB := hide (show (wInt nonce).length ≤ 10 ∧ (wBytes c.data.toList).length ≤ 10 + c.size from ⟨wInt_length _, wBytes_length c.data.toList⟩)
  have HR := hide hres
  have HD := hide hdk
  have HA := hide harr
  rw [harr, hres]
  clear harr hdk hres hM h1 h2
  have hasz : arr.size = 16 := by rw [← unhide HA]; simpa using hk
  go_enter Tryd.func52, Tryd.ntmps52
  go_wp2_with fail
  refine (derive_any key _ labAuth [] _ _ ((unhide HM).ext (((Ext.refl w).alloc _).alloc _)) ?_ (by omega) (by decide) (Parts.nil _) (by simp) (fun p hp => by cases hp)).mono ?_
  · have := Reads.of_blk ((Blk.new w 23 arr).alloc (.cells (Array.replicate 16 (.int .u8 0)) 23)) (i := 0) (n := 16) (c := 16) (by omega) (by omega) (by unfold maxLen; omega)
    rw [← unhide HA] at this
    simp only [List.drop_zero] at this
    rw [List.take_of_length_le (by rw [List.length_map]; omega), unhide HA] at this
    rw [hk]
    exact this
  rintro e w1 ⟨rfl, hE1⟩
  rw [unhide HD]
  have H1 := hide (show Ext w w1 ∧ Blk w1 (w.heap.size + 1) 23 (Array.replicate 16 (.int .u8 0)) ∧ w.heap.size + 2 ≤ w1.heap.size from ⟨(((Ext.refl w).alloc _).alloc _).trans hE1, (Blk.new' (w.alloc (.cells arr 23)) _ _ (by simp)).ext hE1, by have := hE1.size'; simp at this; omega⟩)
  clear hE1
  have HS := hide (show ((dk.map u8v).toArray).size = 16 from by simpa using hdl)
  go_wp2_with (refine wpList_storeB (ty := 23) (t := 23) (x := .tmp 7) (y := .tmp 9) rfl rfl digest_wide rfl rfl (Blk.new w1 _ _) rfl (unhide HS) (bytes_one _) ?_; intro w2 hb2 hc2 hz2; have H2 := hide (show Blk w2 w1.heap.size 23 ((dk.map u8v).toArray) ∧ Ext w w2 ∧ Blk w2 (w.heap.size + 1) 23 (Array.replicate 16 (.int .u8 0)) from ⟨hb2, ((unhide H1).1.alloc _).trans' hc2 (fun _ _ h => h) (fun i hi e => by have := (unhide H1).2.2; omega), ((unhide H1).2.1.alloc _).chg hc2 (by have := (unhide H1).2.2; omega)⟩); clear hb2 hc2 hz2)
  have HK := hide (show Reads w2 1 (.slice (some ⟨w1.heap.size, 0, none⟩) 16 16) dk.length (dk.map u8v) from by
    have := Reads.of_blk (unhide H2).1 (i := 0) (n := 16) (c := 16) (by rw [unhide HS]; omega) (by omega) (by unfold maxLen; omega)
    simp only [List.drop_zero] at this
    rw [List.take_of_length_le (by rw [List.length_map]; omega)] at this
    rw [hdl]
    exact this)
  have HMR := hide (show mac dk (wInt nonce ++ wBytes c.data.toList) = res from by rw [← unhide HR, ← unhide HD]; rfl)
  have HRS := hide (show ((res.map u8v).toArray).size = 16 from by rw [← unhide HR]; simpa using tagS_length _ _ _)
  have hB := hide (show (wInt nonce).length + (wBytes c.data.toList).length ≤ 1000000 from by have := unhide HB; omega)
  go_region_law (first
    | (refine step_app (s := .tmp 12) (x := .tmp 14) rfl rfl u8_row rfl (ownsRow_ext (unhide H3).1 (unhide H4).2.1) rfl (Reads.of_own (unhide H4).1) (AllOne.u8 _) (by have := unhide hB; omega) (Nat.le_trans (unhide H3).2.2 (unhide H4).2.2) ?_; intro A5 c5 w5 ho5 hc5 hv5; have H5 := hide (show Reads w5 1 (.slice A5 ((wInt nonce).length + (wBytes c.data.toList).length) c5) ((wInt nonce).length + (wBytes c.data.toList).length) ((wInt nonce).map u8v ++ (wBytes c.data.toList).map u8v) ∧ Ext w2 w5 from ⟨Reads.of_own ho5, (((unhide H3).2.1.trans (unhide H4).2.1)).trans' hc5 (fun _ _ h => h) (fun i hi e => by have := ((unhide H3).1.lt i e).1; simp at this; omega)⟩); clear ho5 hc5 hv5)
    | (go_simp; go_at_call 17; refine (unhide HW1 _).mono ?_; rintro e w3 ⟨A3, c3, rfl, ho3, hE3⟩; have H3 := hide (And.intro ho3 (And.intro (((Ext.refl w2).drew).trans hE3) hE3.size')); clear ho3 hE3)
    | (go_simp; go_at_call 18; refine (unhide HW2 _).mono ?_; rintro e w4 ⟨A4, c4, rfl, ho4, hE4⟩; have H4 := hide (And.intro ho4 (And.intro hE4 hE4.size')); clear ho4 hE4)
    | (rename_i K hK; go_simp; go_at_call 16
       refine (mac_any dk (wInt nonce ++ wBytes c.data.toList) _ _ _ ((unhide HM).ext ((unhide H2).2.1.trans (unhide H5).2)) ((unhide HK).ext (unhide H5).2) ?_ (by omega) ?_).mono ?_
       (focus (rw [List.map_append, List.length_append]; exact (unhide H5).1))
       (focus (have := unhide hB; rw [List.length_append]; omega))
       rintro e w6 ⟨rfl, hE6⟩
       rw [unhide HMR]
       have H6 := hide (show Ext w w6 ∧ Blk w6 (w.heap.size + 1) 23 (Array.replicate 16 (.int .u8 0)) from ⟨((unhide H2).2.1.trans (unhide H5).2).trans hE6, (unhide H2).2.2.ext ((unhide H5).2.trans hE6)⟩)
       clear hE6
       dsimp only
       refine hK _ _ ?_
       clear hK K
       refine wpAny_ready (rs := [7]) (by kernel_rfl) (by simp) (AllReady.cons rfl (fun J hJ => ?_) AllReady.nil)
       refine step_storeB (ty := 23) (t := 23) (x := .tmp 6) (y := .tmp 16) rfl rfl digest_wide rfl rfl (unhide H6).2 ?_ ?_ ?_ ?_
       · rw [Array.size_replicate]
       · exact unhide HRS
       · exact bytes_one _
       intro w7 hb7 hc7 hz7
       have H7 := hide (And.intro hb7 hc7)
       clear hb7 hc7 hz7
       refine hJ _ _ ?_
       clear hJ J))
  go_wp2
  refine bodyPost_ret (v := .agg ((res.map u8v).toArray)) (results_blk digest_wide rfl (unhide H7).1 (unhide HRS) rfl) rfl ⟨rfl, ?_⟩
  exact (unhide H6).1.trans' (unhide H7).2 (fun _ _ h => h) (fun i hi e => by omega)

end Go.Proofs.YtgndblhpfjkfhaaDoor
