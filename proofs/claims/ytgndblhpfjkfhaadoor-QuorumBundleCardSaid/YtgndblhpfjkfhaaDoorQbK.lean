/-
  Several texts in one file: each has its own heading below.
-/
import Derived.Test.YtgndblhpfjkfhaaDoorQbJ
import Derived.Laws.Bits128
import Derived.Test.YtgndblhpfjkfhaaDoorQbI
import Derived.Deep.RegionLaw
import Derived.Deep.Cut
import Derived.Test.YtgndblhpfjkfhaaDoorQbF
import Derived.RangeFuncBound
import Derived.Test.YtgndblhpfjkfhaaDoorQbA
import Derived.Deep.RegionHeld

/-
  The arrays of digits, plain.
-/
namespace Go.Proofs.YtgndblhpfjkfhaaDoor
open Go.RowKit

theorem and3 (n : Int) : bits .and .i64 n 3 = n % 4 := by
  have h3 : (BitVec.ofInt 64 3).toNat = 2 ^ 2 - 1 := by decide
  have key : (BitVec.ofInt 64 n &&& BitVec.ofInt 64 3).toNat = (n % ((2 ^ 64 : Nat) : Int)).toNat % 2 ^ 2 := by
    rw [BitVec.toNat_and, BitVec.toNat_ofInt, h3, Nat.and_two_pow_sub_one_eq_mod]
  show IntKind.i64.wrap ((BitVec.ofInt 64 n &&& BitVec.ofInt 64 3).toNat : Nat) = n % 4
  rw [key, IntKind.wrap_i64]
  omega
/-- n numbers as cells. -/
def icells (f : Nat → Nat) (n : Nat) : List Value := (List.range n).map fun j => Value.int .i64 ((f j : Nat) : Int)
theorem icells_length (f : Nat → Nat) (n : Nat) : (icells f n).length = n := by unfold icells; simp
theorem icells_get (f : Nat → Nat) {n k : Nat} (h : k < n) : (icells f n)[k]? = some (.int .i64 ((f k : Nat) : Int)) := by
  unfold icells
  rw [List.getElem?_map, List.getElem?_range h]
  rfl
theorem icells_congr {f g : Nat → Nat} {n : Nat} (h : ∀ j, j < n → f j = g j) : icells f n = icells g n := by
  unfold icells
  apply List.map_congr_left
  intro j hj
  rw [h j (List.mem_range.1 hj)]
theorem icells_set (f g : Nat → Nat) {n k : Nat} (v : Nat) (hk : k < n) (h : ∀ j, j < n → g j = if j = k then v else f j) : (icells f n).toArray.setIfInBounds k (.int .i64 (v : Int)) = (icells g n).toArray := by
  apply Array.ext_getElem?
  intro j
  rw [Array.getElem?_setIfInBounds]
  simp only [List.size_toArray, icells_length, List.getElem?_toArray]
  by_cases hj : k = j
  · subst hj
    rw [if_pos rfl, if_pos hk, icells_get g hk, h k hk, if_pos rfl]
  · rw [if_neg hj]
    rcases Nat.lt_or_ge j n with hlt | hge
    · rw [icells_get f hlt, icells_get g hlt, h j hlt, if_neg (fun e => hj e.symm)]
    · rw [List.getElem?_eq_none (by rw [icells_length]; exact hge), List.getElem?_eq_none (by rw [icells_length]; exact hge)]
theorem icells_step (f : Nat → Nat) (n : Nat) : icells f (n + 1) = icells f n ++ [.int .i64 ((f n : Nat) : Int)] := by unfold icells; rw [List.range_succ, List.map_append]; rfl
theorem icells_zero (n : Nat) : (icells (fun _ => 0) n).toArray = Array.replicate n (.int .i64 0) := by
  unfold icells
  apply Array.ext
  · simp
  · intro i h1 h2
    simp
def fillD (m : List UInt8) (k : Nat) : Nat → Nat := fun j => if j < k then dig m j else 0
def fillC (m : List UInt8) (k : Nat) : Nat → Nat := fun j => if j < 64 then dig m j else if 67 - j < k then digC m j else 0
theorem fillD_step (m : List UInt8) (k j : Nat) : fillD m (k + 1) j = if j = k then dig m k else fillD m k j := by
  unfold fillD
  by_cases h : j = k
  · subst h; rw [if_pos (by omega), if_pos rfl]
  · rw [if_neg h]
    by_cases h2 : j < k
    · rw [if_pos (by omega), if_pos h2]
    · rw [if_neg (by omega), if_neg h2]
theorem fillC_step (m : List UInt8) (k j : Nat) (hk : k < 4) (hj : j < 68) : fillC m (k + 1) j = if j = 67 - k then chk m / 4 ^ k % 4 else fillC m k j := by
  unfold fillC
  by_cases h : j = 67 - k
  · subst h
    rw [if_neg (by omega), if_pos (by omega), if_pos rfl, digC, if_neg (by omega), show 67 - (67 - k) = k from by omega]
  · rw [if_neg h]
    by_cases h1 : j < 64
    · rw [if_pos h1, if_pos h1]
    · rw [if_neg h1, if_neg h1]
      by_cases h2 : 67 - j < k
      · rw [if_pos (by omega), if_pos h2]
      · rw [if_neg (by omega), if_neg h2]
theorem fill_meet (m : List UInt8) : (icells (fillD m 64) 68) = icells (fillC m 0) 68 := icells_congr fun j hj => by
  unfold fillD fillC
  split
  · rfl
  · rw [if_neg (by omega)]
theorem fill_end (m : List UInt8) : icells (fillC m 4) 68 = icells (digC m) 68 := icells_congr fun j hj => by
  unfold fillC
  split
  · rename_i h; unfold digC; rw [if_pos h]
  · rw [if_pos (by omega)]
theorem dig_shift (m : List UInt8) (k : Nat) : dig m k = ((m.getD (k / 4) 0).toNat / 2 ^ (6 - 2 * (k % 4))) % 4 := by
  unfold dig
  congr 2
  have : k % 4 < 4 := Nat.mod_lt _ (by omega)
  rcases (by omega : k % 4 = 0 ∨ k % 4 = 1 ∨ k % 4 = 2 ∨ k % 4 = 3) with h | h | h | h <;> rw [h]
/-- A fresh copy, as a list of numbers. -/
def Ints (w : World) (v : Value) (f : Nat → Nat) (n : Nat) : Prop := Reads w 1 v n (icells f n)

end Go.Proofs.YtgndblhpfjkfhaaDoor

/-
  wots.Digits.
-/
namespace Go.Proofs.YtgndblhpfjkfhaaDoor
open Go.RowKit

theorem arr68_wide : Wide Tryd.prog 172 68 := ⟨⟨_, Tryd.underlying172, rfl⟩, by kernel_rfl⟩
set_option maxRecDepth 100000 in
set_option maxHeartbeats 2000000 in
theorem digits_any (m : List UInt8) (w : World) (hm : m.length = 16) :
    Calls Tryd.prog 116 #[.agg (m.map u8v).toArray] w fun e w' => ∃ g, e = .returned (.slice (some ⟨g, 0, none⟩) 68 68) ∧ Blk w' g 172 (icells (digC m) 68).toArray ∧ w.heap.size ≤ g ∧ Ext w w' := by
  obtain ⟨arr, harr⟩ : ∃ r, (m.map u8v).toArray = r := ⟨_, rfl⟩
  have HA := hide (And.intro harr hm)
  rw [harr]
  clear harr
  go_enter Tryd.func116, Tryd.ntmps116
  go_wp2_with fail
  go_loopw [4, 7] (fun s i wr => ∃ k : Nat, k ≤ 64 ∧ i = .int .i64 k ∧ s = .int .i64 ((sumTo m k : Nat) : Int) ∧ Hid (Blk wr w.heap.size 23 arr ∧ Blk wr (w.heap.size + 1) 172 (icells (fillD m k) 68).toArray ∧ Ext w wr)) (fun _ i _ => 64 - (intOf i).toNat)
  case atStart => exact ⟨0, by omega, rfl, rfl, hide ⟨(Blk.new w _ _).alloc _, by rw [show icells (fillD m 0) 68 = icells (fun _ => 0) 68 from icells_congr fun j _ => if_neg (by omega), icells_zero]; exact Blk.new' _ _ _ (by simp), ((Ext.refl w).alloc _).alloc _⟩⟩
  case round =>
    obtain ⟨k, hk, rfl, rfl, HI⟩ := hrel
    by_cases hlt : k < 64
    · have cm : wr.cell? ⟨w.heap.size, k / 4, none⟩ = some (.int .u8 ((m.getD (k / 4) 0).toNat : Int)) := by
        rw [(unhide HI).1.cell, ← (unhide HA).1, List.getElem?_toArray, List.getElem?_map, List.getD_eq_getElem?_getD, List.getElem?_eq_getElem (by omega)]
        rfl
      have co : wr.cell? ⟨w.heap.size + 1, k, none⟩ = some (.int .i64 0) := by
        rw [(unhide HI).2.1.cell, List.getElem?_toArray, icells_get _ (by omega), fillD, if_neg (by omega)]
        rfl
      have fo : wr.frozen? ⟨w.heap.size + 1, k, none⟩ = false := (unhide HI).2.1.frozen k
      have HS := hide (dig_shift m k)
      generalize m.getD (k / 4) 0 = x at *
      have hx := x.toNat_lt
      have hX : bits BinOp.and IntKind.i64 ((x.toNat : Int) / 2 ^ (6 - 2 * (k % 4))) 3 = ((dig m k : Nat) : Int) := by
        rw [and3, unhide HS]
        simp
      have HX := hide hX
      have hd := dig_le m k
      have hsl := sumTo_le m k
      clear hX
      go_wp2
      go_roundw
      case rel =>
        rw [unhide HX]
        refine ⟨k + 1, by omega, by go_num, int_eq ?_, hide ⟨(unhide HI).1.far' (by omega) _ _, ?_, (unhide HI).2.2.setCell (p := ⟨w.heap.size + 1, k, none⟩) (by simp) _⟩⟩
        · rw [sumTo]
          unfold wrap64
          omega
        · have := (unhide HI).2.1.set_ k (.int .i64 ((dig m k : Nat) : Int))
          rw [icells_set (fillD m k) (fillD m (k + 1)) (dig m k) (by omega) (fun j _ => fillD_step m k j)] at this
          exact this
      case measure => simp [intOf]; omega
    · obtain rfl : k = 64 := by omega
      have hc := chk_le m
      have HE := hide (fill_end m)
      rw [fill_meet] at HI
      rw [show sumTo m 64 = chk m from rfl]
      generalize hch : chk m = ch at *
      go_wp2_with fail
      go_loopw [30] (fun i wr => ∃ k : Nat, k ≤ 4 ∧ i = .int .i64 k ∧ Hid (Blk wr (w.heap.size + 1) 172 (icells (fillC m k) 68).toArray ∧ Ext w wr)) (fun i _ => 4 - (intOf i).toNat)
      case atStart => exact ⟨0, by omega, rfl, hide ⟨(unhide HI).2.1, (unhide HI).2.2⟩⟩
      case round =>
        clear HI
        obtain ⟨k, hk, rfl, HI⟩ := hrel
        by_cases hlt : k < 4
        · have co : wr.cell? ⟨w.heap.size + 1, 67 - k, none⟩ = some (.int .i64 0) := by
            rw [(unhide HI).1.cell, List.getElem?_toArray, icells_get _ (by omega), fillC, if_neg (by omega), if_neg (by omega)]
            rfl
          have fo : wr.frozen? ⟨w.heap.size + 1, 67 - k, none⟩ = false := (unhide HI).1.frozen (67 - k)
          have hX : bits BinOp.and IntKind.i64 ((ch : Int) / 2 ^ (2 * k)) 3 = ((ch / 4 ^ k % 4 : Nat) : Int) := by
            rw [and3, Int.pow_mul]
            simp
          have HX := hide hX
          clear hX
          go_wp2
          go_roundw
          case rel =>
            rw [unhide HX]
            refine ⟨k + 1, by omega, by go_num, hide ⟨?_, (unhide HI).2.setCell (p := ⟨w.heap.size + 1, 67 - k, none⟩) (by simp) _⟩⟩
            have := (unhide HI).1.set_ (67 - k) (.int .i64 ((ch / 4 ^ k % 4 : Nat) : Int))
            rw [icells_set (fillC m k) (fillC m (k + 1)) (ch / 4 ^ k % 4) (by omega) (fun j hj => by rw [← hch]; exact fillC_step m k j hlt hj)] at this
            exact this
          case measure => simp [intOf]; omega
        · obtain rfl : k = 4 := by omega
          go_wp2
          go_ret
          exact ⟨_, rfl, by rw [← unhide HE]; exact (unhide HI).1, by omega, (unhide HI).2⟩

end Go.Proofs.YtgndblhpfjkfhaaDoor

/-
  wots.advance, wots.start.
-/
namespace Go.Proofs.YtgndblhpfjkfhaaDoor
open Go.RowKit

set_option maxRecDepth 100000 in
set_option maxHeartbeats 4000000 in
theorem adv_any (k n : Nat) (v : List UInt8) (w : World) (hM : ShaMem w) (hv : v.length = 16) (hk : k < 1000) (hn : n < 1000) :
    Calls Tryd.prog 119 #[.int .i64 (k : Int), .agg (v.map u8v).toArray, .int .i64 (n : Int)] w fun e w' => e = .returned (.agg ((advS k v n).map u8v).toArray) ∧ Ext w w' := by
  have HM := hide hM
  have HW := hide (fun w => wint_any (k : Int) w (by omega) (by omega))
  have HD := hide (fun (j : Nat) (W : World) (A : Option Addr) (c : Nat) (pv : Value) (hE : Ext w W) (h1 : Reads W 1 pv 2 [.slice A (wInt k).length c, .slice (some ⟨w.heap.size, 0, none⟩) 16 16]) (h2 : Reads W 1 (.slice A (wInt k).length c) (wInt k).length ((wInt k).map u8v)) (h3 : Blk W w.heap.size 23 ((advS k v j).map u8v).toArray) =>
    digest_any 3 [wInt k, advS k v j] pv W (hM.ext hE) (Parts.two h1 h2 (h3.digR (advS_length k v hv j))) (by simp) (fun p hp => by have := wInt_length (k : Int); have := advS_length k v hv j; simp at hp; rcases hp with rfl | rfl <;> omega))
  have HL := hide (advS_length k v hv)
  have HS := hide (fun j => show digestS 3 [wInt k, advS k v j] = advS k v (j + 1) from rfl)
  obtain ⟨F, hF⟩ : ∃ F, advS k v = F := ⟨_, rfl⟩
  rw [hF] at HD HL HS ⊢
  have h0 : F 0 = v := by rw [← hF]; rfl
  clear hM
  go_enter Tryd.func119, Tryd.ntmps119
  go_wp2_with fail
  go_loopw [8] (fun i wr => ∃ j : Nat, j ≤ n ∧ i = .int .i64 j ∧ Hid (Blk wr w.heap.size 23 ((F j).map u8v).toArray ∧ Blk wr (w.heap.size + 1) 23 (Array.replicate 16 (.int .u8 0)) ∧ Ext w wr)) (fun i _ => n - (intOf i).toNat)
  case atStart => exact ⟨0, by omega, rfl, hide ⟨by rw [h0]; exact (Blk.new w _ _).alloc _, Blk.new' _ _ _ (by simp), ((Ext.refl w).alloc _).alloc _⟩⟩
  case round =>
    obtain ⟨j, hj, rfl, HI⟩ := hrel
    by_cases hlt : j < n
    · have HJ := hide (unhide HS j)
      have HL1 := hide (unhide HL (j + 1))
      have HLj := hide (unhide HL j)
      have HDj := hide (unhide HD j)
      go_upto_region 3 with fail
      go_region_law (first
        | (go_simp; go_at_call 17; refine (unhide HW _).mono ?_; rintro e w3 ⟨A3, c3, rfl, ho3, hE3⟩; have H3 := hide (And.intro (Reads.of_own ho3) (((Ext.refl wr).drew).trans hE3)); clear ho3 hE3)
        | (rename_i K hK; go_simp; go_at_call 82; refine (unhide HDj _ A3 c3 _ (((unhide HI).2.2.trans (unhide H3).2).alloc _) (Reads.new2 _ _ _ _ rfl) ((unhide H3).1.ext ((Ext.refl _).alloc _)) (((unhide HI).1.ext (unhide H3).2).alloc _)).mono ?_
           rintro e w5 ⟨rfl, hE5⟩
           rw [unhide HJ]
           have H5 := hide (((unhide H3).2.alloc _).trans hE5)
           clear hE5
           dsimp only
           refine hK _ _ ?_
           clear hK K
           refine wpAny_ready (rs := [5]) (by kernel_rfl) (by simp) (AllReady.cons rfl (fun J hJ => ?_) AllReady.nil)
           refine step_storeB (ty := 23) (t := 23) (x := .tmp 4) (y := .tmp 14) rfl rfl digest_wide rfl rfl ((unhide HI).1.ext (unhide H5)) (by simpa using unhide HLj) (by simpa using unhide HL1) (bytes_one _) ?_
           intro w6 hb6 hc6 hz6
           have H6 := hide (And.intro hb6 hc6)
           clear hb6 hc6 hz6
           refine hJ _ _ ?_
           clear hJ J))
      go_wp2
      go_roundw
      case rel => exact ⟨j + 1, by omega, by go_num, hide ⟨(unhide H6).1, ((unhide HI).2.1.ext (unhide H5)).chg (unhide H6).2 (by omega), ((unhide HI).2.2.trans (unhide H5)).trans' (unhide H6).2 (fun _ _ h => h) (fun i hi e => by omega)⟩⟩
      case measure => simp [intOf]; omega
    · obtain rfl : j = n := by omega
      go_wp2_with (first
        | (refine wpList_loadB (ty := 23) (t := 23) (x := .tmp 4) rfl rfl digest_wide rfl (unhide HI).1 (by simpa using unhide HL j) ?_)
        | (refine wpList_storeB (ty := 23) (t := 23) (x := .tmp 6) (y := .tmp 16) rfl rfl digest_wide rfl rfl (unhide HI).2.1 rfl (by simpa using unhide HL j) (bytes_one _) ?_; intro w7 hb7 hc7 hz7; have H7 := hide (And.intro hb7 hc7); clear hb7 hc7 hz7))
      refine bodyPost_ret (v := .agg ((F j).map u8v).toArray) (results_blk digest_wide rfl (unhide H7).1 (by simpa using unhide HL j) rfl) rfl ⟨rfl, ?_⟩
      exact (unhide HI).2.2.trans' (unhide H7).2 (fun _ _ h => h) (fun i hi e => by omega)

set_option maxRecDepth 100000 in
set_option maxHeartbeats 4000000 in
theorem start_any (k : Nat) (seed : List UInt8) (index : Int) (w : World) (hM : ShaMem w) (hv : seed.length = 16) (hk : k < 1000) (h1 : -9223372036854775808 ≤ index) (h2 : index < 9223372036854775808) :
    Calls Tryd.prog 126 #[.agg (seed.map u8v).toArray, .int .i64 index, .int .i64 (k : Int)] w fun e w' => e = .returned (.agg ((startS seed index k).map u8v).toArray) ∧ Ext w w' := by
  have HM := hide hM
  have HW := hide (fun w => wint_any index w h1 h2)
  have HW2 := hide (fun w => wint_any (k : Int) w (by omega) (by omega))
  have HD := hide (fun (W : World) (A A' : Option Addr) (c c' : Nat) (pv : Value) (hE : Ext w W) (h1 : Reads W 1 pv 2 [.slice A (wInt index).length c, .slice A' (wInt k).length c']) (h2 : Reads W 1 (.slice A (wInt index).length c) (wInt index).length ((wInt index).map u8v)) (h2' : Reads W 1 (.slice A' (wInt k).length c') (wInt k).length ((wInt k).map u8v)) (h3 : Blk W w.heap.size 23 (seed.map u8v).toArray) =>
    derive_any seed (.slice (some ⟨w.heap.size, 0, none⟩) 16 16) ⟨#[119, 111, 116, 115]⟩ [wInt index, wInt k] pv W (hM.ext hE) (h3.digR hv) (by omega) (by decide) (Parts.two h1 h2 h2') (by simp) (fun p hp => by have := wInt_length (k : Int); have := wInt_length index; simp at hp; rcases hp with rfl | rfl <;> omega))
  obtain ⟨arr, harr⟩ : ∃ r, (seed.map u8v).toArray = r := ⟨_, rfl⟩
  rw [harr] at HD ⊢
  obtain ⟨res, hres⟩ : ∃ r, startS seed index k = r := ⟨_, rfl⟩
  have HR := hide (And.intro hres (show res.length = 16 from by rw [← hres]; exact startS_length _ _ _))
  rw [hres]
  clear hM harr hres h1 h2
  have HT := hide True.intro
  go_enter Tryd.func126, Tryd.ntmps126
  go_upto_region 1 with fail
  go_region_law (first
    | (clear HT; go_simp; go_at_call 17; refine (unhide HW _).mono ?_; rintro e w3 ⟨A3, c3, rfl, ho3, hE3⟩; have H3 := hide (And.intro (Reads.of_own ho3) hE3); clear ho3 hE3)
    | (go_simp; go_at_call 17; refine (unhide HW2 _).mono ?_; rintro e w4 ⟨A4, c4, rfl, ho4, hE4⟩; have H4 := hide (And.intro (Reads.of_own ho4) hE4); clear ho4 hE4)
    | (rename_i K hK; go_simp; go_at_call 15; refine (unhide HD _ A3 A4 c3 c4 _ (((((Ext.refl w).alloc _).alloc _).drew.trans ((unhide H3).2.trans (unhide H4).2)).alloc _) (Reads.new2 _ _ _ _ rfl) (((unhide H3).1.ext (unhide H4).2).ext ((Ext.refl _).alloc _)) ((unhide H4).1.ext ((Ext.refl _).alloc _)) ((((Blk.new w _ _).alloc _).drew.ext ((unhide H3).2.trans (unhide H4).2)).alloc _)).mono ?_
       rintro e w5 ⟨rfl, hE5⟩
       rw [show deriveS seed (⟨#[119, 111, 116, 115]⟩ : ByteArray).data.toList [wInt index, wInt k] = res from (unhide HR).1]
       have H5 := hide ((((((Ext.refl w).alloc _).alloc _).drew.trans ((unhide H3).2.trans (unhide H4).2)).alloc _).trans hE5)
       have HB := hide ((((Blk.new' (w.alloc (.cells arr 23)) 23 (Array.replicate 16 (.int .u8 0)) (g := w.heap.size + 1) (by simp)).drew.ext ((unhide H3).2.trans (unhide H4).2)).alloc _).ext hE5)
       clear hE5
       dsimp only
       refine hK _ _ ?_
       clear hK K
       refine wpAny_ready (rs := [7]) (by kernel_rfl) (by simp) (AllReady.cons rfl (fun J hJ => ?_) AllReady.nil)
       refine step_storeB (ty := 23) (t := 23) (x := .tmp 6) (y := .tmp 13) rfl rfl digest_wide rfl rfl (unhide HB) rfl (by simpa using (unhide HR).2) (bytes_one _) ?_
       intro w6 hb6 hc6 hz6
       have H6 := hide (And.intro hb6 hc6)
       clear hb6 hc6 hz6
       refine hJ _ _ ?_
       clear hJ J))
  go_wp2
  refine bodyPost_ret (v := .agg (res.map u8v).toArray) (results_blk digest_wide rfl (unhide H6).1 (by simpa using (unhide HR).2) rfl) rfl ⟨rfl, ?_⟩
  exact (unhide H5).trans' (unhide H6).2 (fun _ _ h => h) (fun i hi e => by omega)

end Go.Proofs.YtgndblhpfjkfhaaDoor

/-
  One-time signatures: other chain values that lead to the same key hide a collision.
-/
namespace Go.Proofs.YtgndblhpfjkfhaaDoor

/-- Up to step n the two chains never meet. -/
def Apart (k : Nat) (a b : List UInt8) (n : Nat) : Prop := ∀ i, i < n → advS k a i ≠ advS k b i → advS k a (i + 1) ≠ advS k b (i + 1)
theorem apart_end {k : Nat} {a b : List UInt8} : ∀ {n : Nat}, Apart k a b n → a ≠ b → advS k a n ≠ advS k b n
  | 0, _, h => h
  | n + 1, ha, h => ha n (by omega) (apart_end (fun i hi => ha i (by omega)) h)
theorem endsS_step (f : Nat → List UInt8) (n : Nat) : endsS f (n + 1) = endsS f n ++ f n := by unfold endsS; rw [List.range_succ, List.flatMap_append]; simp
theorem endsS_length (f : Nat → List UInt8) (h : ∀ k, (f k).length = 16) : ∀ n, (endsS f n).length = 16 * n
  | 0 => rfl
  | n + 1 => by rw [endsS_step, List.length_append, endsS_length f h n, h]; omega
theorem ends_inj (f g : Nat → List UInt8) (hf : ∀ k, (f k).length = 16) (hg : ∀ k, (g k).length = 16) : ∀ n, endsS f n = endsS g n → ∀ k, k < n → f k = g k
  | 0, _ => fun k hk => by omega
  | n + 1, h => by
    rw [endsS_step, endsS_step] at h
    obtain ⟨h1, h2⟩ := List.append_inj h (by rw [endsS_length f hf, endsS_length g hg])
    intro k hk
    rcases Nat.lt_or_ge k n with hlt | hge
    · exact ends_inj f g hf hg n h1 k hlt
    · obtain rfl : k = n := by omega
      exact h2
/-- Where no chain of the two meets, the ends differ if the chain values do. -/
theorem ends_apart (c d : Nat → List UInt8) (l : Nat → Nat) (hc : ∀ k, (c k).length = 16) (hd : ∀ k, (d k).length = 16) (ha : ∀ k, k < 68 → Apart k (c k) (d k) (l k)) (hne : ∃ k, k < 68 ∧ c k ≠ d k) :
    endsS (fun k => advS k (c k) (l k)) 68 ≠ endsS (fun k => advS k (d k) (l k)) 68 := by
  intro he
  obtain ⟨k, hk, hn⟩ := hne
  have := ends_inj _ _ (fun k => advS_length k _ (hc k) _) (fun k => advS_length k _ (hd k) _) 68 he k hk
  exact apart_end (ha k hk) hn this

end Go.Proofs.YtgndblhpfjkfhaaDoor

/-
  wots.key, at whatever function value.
-/
namespace Go.Proofs.YtgndblhpfjkfhaaDoor
open Go.RowKit

/-- A function value that yields the digest f k for k, and what it leans on. -/
structure EndEnv (F : FuncId) (caps : Array Value) (f : Nat → List UInt8) (Inv : World → Prop) (B : Nat) : Prop where
  call : ∀ (args : Array Value) (w : World), (callFunc F args).run Tryd.prog w = .ok (.enter F args) w
  step : ∀ (k : Nat) (w : World), k < 68 → Inv w → Calls Tryd.prog F (#[.int .i64 (k : Int)] ++ caps) w fun e w' => e = .returned (.agg ((f k).map u8v).toArray) ∧ Ext w w'
  keep : ∀ w w', Inv w → Chg (fun k => B ≤ k) w w' → Inv w'
  len : ∀ k, (f k).length = 16

set_option maxRecDepth 100000 in
set_option maxHeartbeats 4000000 in
theorem key_any {F : FuncId} {caps : Array Value} {f : Nat → List UInt8} {Inv : World → Prop} {B : Nat} (E : EndEnv F caps f Inv B) (w : World) (hB : B ≤ w.heap.size) (hM : ShaMem w) (hI : Inv w) :
    Calls Tryd.prog 117 #[.func (.func F) #[] caps] w fun e w' => e = .returned (.agg ((keyOf f).map u8v).toArray) ∧ Ext w w' := by
  have HM := hide hM
  have HE := hide E
  have hc := E.call
  have HI0 := hide hI
  have HD := hide (fun (W : World) (A : Option Addr) (c : Nat) (pv : Value) (hE : Ext w W) (h1 : Reads W 1 pv 1 [.slice A (endsS f 68).length c]) (h2 : Reads W 1 (.slice A (endsS f 68).length c) (endsS f 68).length ((endsS f 68).map u8v)) =>
    digest_any 4 [endsS f 68] pv W (hM.ext hE) (Parts.one h1 h2) (by simp) (fun p hp => by have := endsS_length f E.len 68; simp at hp; subst hp; omega))
  have HLE := hide (endsS_length f E.len 68)
  have HK := hide (show digestS 4 [endsS f 68] = keyOf f ∧ (keyOf f).length = 16 from ⟨rfl, digestS_length _ _⟩)
  clear hM hI E
  obtain ⟨key, hkey⟩ : ∃ r, keyOf f = r := ⟨_, rfl⟩
  rw [hkey] at HK ⊢
  clear hkey
  go_enter Tryd.func117, Tryd.ntmps117
  go_wp2_with fail
  go_loopw [3, 6] (fun b i wr => ∃ (k : Nat) (A : Option Addr) (c : Nat), k ≤ 68 ∧ i = .int .i64 k ∧ b = .slice A (16 * k) c ∧ Hid (GB w (w.heap.size + 1) b (16 * k) (endsS f k) wr ∧ Inv wr ∧ Blk wr w.heap.size 23 (Array.replicate 16 (.int .u8 0)))) (fun _ i _ => 68 - (intOf i).toNat)
  case atStart => exact ⟨0, none, 0, by omega, rfl, rfl, hide ⟨GB.nil ((Ext.refl w).alloc _) (by omega) (by simp), (unhide HE).keep _ _ (unhide HI0) ((Ext.refl w).alloc _).chg, Blk.new w _ _⟩⟩
  case round =>
    obtain ⟨k, A, c, hk, rfl, rfl, HI⟩ := hrel
    by_cases hlt : k < 68
    · have HSt := hide ((unhide HE).step k wr hlt (unhide HI).2.1)
      have HEs := hide (endsS_step f k)
      have HL := hide ((unhide HE).len k)
      obtain ⟨d, hd⟩ : ∃ d, f k = d := ⟨_, rfl⟩
      rw [hd] at HSt HEs HL
      clear hd
      go_wp2_with fail
      refine (unhide HSt).mono ?_
      rintro e w1 ⟨rfl, hE1⟩
      have H1 := hide hE1
      clear hE1
      go_wp2_with (first
        | (refine wpList_storeB (ty := 23) (t := 23) (x := .tmp 5) (y := .tmp 11) rfl rfl digest_wide rfl rfl (Blk.new w1 _ _) rfl (by simpa using unhide HL) (bytes_one _) ?_; intro w2 hb2 hc2 hz2; have H2 := hide (And.intro hb2 (made_ext (unhide H1) hc2)); clear hb2 hc2 hz2)
        | (at_builtin; refine wpList_app rfl rfl u8_row rfl ((unhide HI).1.to (unhide H2).2).own rfl (by have := (unhide H2).1.digR (unhide HL); rw [unhide HL] at this; exact this) (AllOne.u8 d) (by omega) ((unhide HI).1.to (unhide H2).2).room ?_; intro A' c' w3 ho hc3 hv; have H3 := hide (And.intro ho hc3); clear ho hc3 hv))
      go_roundw
      case rel =>
        have hst : GB w (w.heap.size + 1) (.slice A' (16 * k + 16) c') (16 * k + 16) (endsS f k ++ d) w3 := (unhide HI).1.step (unhide H2).2 (unhide H3).2 (by have := (unhide H3).1; rw [← List.map_append] at this; exact this)
        have hX : Chg (fun k => B ≤ k) wr w3 := (unhide H2).2.trans' (unhide H3).2 (fun _ _ h => h.elim) (fun i hi e => by have := ((unhide HI).1.own.lt i e).1; omega)
        refine ⟨k + 1, A', c', by omega, by go_num, by congr 1, hide ⟨by rw [unhide HEs]; exact hst, (unhide HE).keep _ _ (unhide HI).2.1 hX, (unhide HI).1.blk (unhide H2).2 (unhide H3).2 (unhide HI).2.2 (by omega)⟩⟩
      case measure => simp [intOf]; omega
    · obtain rfl : k = 68 := by omega
      have HX := hide (show GB w (w.heap.size + 1) (.slice A (endsS f 68).length c) (endsS f 68).length (endsS f 68) wr from by rw [unhide HLE]; exact (unhide HI).1)
      have HZ := hide (unhide HI).2.2
      have e68 : 16 * 68 = (endsS f 68).length := (unhide HLE).symm
      rw [e68]
      clear HI e68
      go_wp2_with (first
        | (go_at_call 82; refine (unhide HD _ A c _ ((unhide HX).ext.alloc _) (Reads.new1 _ _ _) ((unhide HX).reads.ext ((Ext.refl _).alloc _))).mono ?_; rintro e w5 ⟨rfl, hE5⟩; rw [(unhide HK).1]; have H5 := hide (((Ext.refl wr).alloc _).trans hE5); clear hE5)
        | (refine wpList_storeB (ty := 23) (t := 23) (x := .tmp 2) (y := .tmp 18) rfl rfl digest_wide rfl rfl ((unhide HZ).ext (unhide H5)) rfl (by simpa using (unhide HK).2) (bytes_one _) ?_; intro w7 hb7 hc7 hz7; have H7 := hide (And.intro hb7 hc7); clear hb7 hc7 hz7))
      refine bodyPost_ret (v := .agg (key.map u8v).toArray) (results_blk digest_wide rfl (unhide H7).1 (by simpa using (unhide HK).2) rfl) rfl ⟨rfl, ?_⟩
      exact ((unhide HX).ext.trans (unhide H5)).trans' (unhide H7).2 (fun _ _ h => h) (fun i hi e => by omega)

end Go.Proofs.YtgndblhpfjkfhaaDoor

/-
  wots.Public and wots.Recover.
-/
namespace Go.Proofs.YtgndblhpfjkfhaaDoor
open Go.RowKit

def PubInv (seed : List UInt8) (index : Int) (bs bi : Nat) (w : World) : Prop := ShaMem w ∧ Blk w bs 23 (seed.map u8v).toArray ∧ w.cell? ⟨bi, 0, none⟩ = some (.int .i64 index)

set_option maxRecDepth 100000 in
set_option maxHeartbeats 4000000 in
theorem pub1_any (k : Nat) (seed : List UInt8) (index : Int) (bs bi : Nat) (w : World) (hv : seed.length = 16) (hk : k < 68) (h1 : -9223372036854775808 ≤ index) (h2 : index < 9223372036854775808) (hI : PubInv seed index bs bi w) :
    Calls Tryd.prog 157 #[.int .i64 (k : Int), .pointer (some ⟨bs, 0, none⟩), .pointer (some ⟨bi, 0, none⟩)] w fun e w' => e = .returned (.agg ((advS k (startS seed index k) 3).map u8v).toArray) ∧ Ext w w' := by
  obtain ⟨hM, hB, hc⟩ := hI
  have lbi := lt_of_cell hc
  simp only at lbi
  have HB := hide (hB.alloc (.cells (Array.replicate 16 (.int .u8 0)) 23))
  have HS := hide (start_any k seed index (w.alloc (.cells (Array.replicate 16 (.int .u8 0)) 23)) (hM.ext ((Ext.refl w).alloc _)) hv (by omega) h1 h2)
  have HA := hide (fun (W : World) (hE : Ext w W) => adv_any k 3 (startS seed index k) W (hM.ext hE) (startS_length _ _ _) (by omega) (by omega))
  have HL := hide (advS_length k (startS seed index k) (startS_length _ _ _) 3)
  have HZ := hide (Blk.new w 23 (Array.replicate 16 (.int .u8 0)))
  obtain ⟨d0, hd0⟩ : ∃ d, ((startS seed index k).map u8v).toArray = d := ⟨_, rfl⟩
  obtain ⟨d, hd⟩ : ∃ d, advS k (startS seed index k) 3 = d := ⟨_, rfl⟩
  rw [hd] at HA HL ⊢
  rw [hd0] at HA HS
  have HV := hide hv
  clear hM hB hd hd0 hv
  go_enter Tryd.func157, Tryd.ntmps157
  go_wp2_with (refine wpList_loadB (ty := 23) (t := 23) (x := .tmp 1) rfl rfl digest_wide rfl (unhide HB) (by simpa using unhide HV) ?_)
  refine (unhide HS).mono ?_
  rintro e w1 ⟨rfl, hE1⟩
  have H1 := hide hE1
  clear hE1
  go_wp2_with fail
  refine (unhide HA _ (((Ext.refl w).alloc _).trans (unhide H1))).mono ?_
  rintro e w2 ⟨rfl, hE2⟩
  have H2 := hide ((unhide H1).trans hE2)
  clear hE2
  go_wp2_with (refine wpList_storeB (ty := 23) (t := 23) (x := .tmp 4) (y := .tmp 10) rfl rfl digest_wide rfl rfl ((unhide HZ).ext (unhide H2)) rfl (by simpa using unhide HL) (bytes_one _) ?_; intro w7 hb7 hc7 hz7; have H7 := hide (And.intro hb7 hc7); clear hb7 hc7 hz7)
  refine bodyPost_ret (v := .agg (d.map u8v).toArray) (results_blk digest_wide rfl (unhide H7).1 (by simpa using unhide HL) rfl) rfl ⟨rfl, ?_⟩
  exact (((Ext.refl w).alloc _).trans (unhide H2)).trans' (unhide H7).2 (fun _ _ h => h) (fun i hi e => by omega)

set_option maxRecDepth 100000 in
set_option maxHeartbeats 4000000 in
theorem public_any (seed : List UInt8) (index : Int) (w : World) (hM : ShaMem w) (hv : seed.length = 16) (h1 : -9223372036854775808 ≤ index) (h2 : index < 9223372036854775808) :
    Calls Tryd.prog 147 #[.agg (seed.map u8v).toArray, .int .i64 index] w fun e w' => e = .returned (.agg ((publicS seed index).map u8v).toArray) ∧ Ext w w' := by
  have HK := hide (fun (W : World) (hE : Ext w W) (hB : Blk W w.heap.size 23 (seed.map u8v).toArray) (hc : W.cell? ⟨w.heap.size + 1, 0, none⟩ = some (.int .i64 index)) (hs : w.heap.size + 2 ≤ W.heap.size) =>
    key_any (F := 157) (caps := #[.pointer (some ⟨w.heap.size, 0, none⟩), .pointer (some ⟨w.heap.size + 1, 0, none⟩)]) (f := fun k => advS k (startS seed index k) 3) (Inv := PubInv seed index w.heap.size (w.heap.size + 1)) (B := w.heap.size + 2)
      ⟨call_enters Tryd.func157 (by kernel_rfl) rfl, fun k W hk hI => pub1_any k seed index _ _ W hv hk h1 h2 hI,
       fun W W' hI hC => ⟨ShaMem.past hM (by omega) hI.1 hC, hI.2.1.chg hC (by omega), Chg.cellv hC hI.2.2 (by simp)⟩, fun k => advS_length k _ (startS_length _ _ _) 3⟩ W hs (hM.ext hE) ⟨hM.ext hE, hB, hc⟩)
  obtain ⟨arr, harr⟩ : ∃ r, (seed.map u8v).toArray = r := ⟨_, rfl⟩
  rw [harr] at HK ⊢
  have HR := hide (show keyOf (fun k => advS k (startS seed index k) 3) = publicS seed index ∧ (publicS seed index).length = 16 from ⟨rfl, digestS_length _ _⟩)
  obtain ⟨res, hres⟩ : ∃ r, publicS seed index = r := ⟨_, rfl⟩
  rw [hres] at HR ⊢
  have hmf := mkfun
  clear hM harr hres
  go_enter Tryd.func147, Tryd.ntmps147
  go_wp2_with fail
  refine (unhide HK _ ((((Ext.refl w).alloc _).alloc _).alloc _) ((((Blk.new w _ _).alloc _).alloc _)) (old_cell _ _ (new_cell _ _ _ (by simp) rfl)) (by simp)).mono ?_
  rintro e w1 ⟨rfl, hE1⟩
  rw [(unhide HR).1]
  have H1 := hide hE1
  clear hE1 hmf
  go_wp2_with (refine wpList_storeB (ty := 23) (t := 23) (x := .tmp 4) (y := .tmp 6) rfl rfl digest_wide rfl rfl ((Blk.new' ((w.alloc (.cells arr 23)).alloc (.cells #[.int .i64 index] 3)) 23 (Array.replicate 16 (.int .u8 0)) (g := w.heap.size + 1 + 1) (by simp)).ext (unhide H1)) rfl (by simpa using (unhide HR).2) (bytes_one _) ?_; intro w7 hb7 hc7 hz7; have H7 := hide (And.intro hb7 hc7); clear hb7 hc7 hz7)
  refine bodyPost_ret (v := .agg (res.map u8v).toArray) (results_blk digest_wide rfl (unhide H7).1 (by simpa using (unhide HR).2) rfl) rfl ⟨rfl, ?_⟩
  exact (((((Ext.refl w).alloc _).alloc _).alloc _).trans (unhide H1)).trans' (unhide H7).2 (fun _ _ h => h) (fun i hi e => by omega)

end Go.Proofs.YtgndblhpfjkfhaaDoor

/-
  wots.Sign and wots.Recover.
-/
namespace Go.Proofs.YtgndblhpfjkfhaaDoor
open Go.RowKit

def z16 : List UInt8 := List.replicate 16 0
theorem z16_cells : ((z16.map u8v).toArray) = Array.replicate 16 (.int .u8 0) := rfl
def chainAt (c : List (List UInt8)) (k : Nat) : List UInt8 := c.getD k z16
theorem chainAt_length {c : List (List UInt8)} (h : D16 c) (k : Nat) : (chainAt c k).length = 16 := by
  unfold chainAt
  rw [List.getD_eq_getElem?_getD]
  rcases Nat.lt_or_ge k c.length with hk | hk
  · rw [List.getElem?_eq_getElem hk]; exact h.get hk
  · rw [List.getElem?_eq_none hk]; rfl
theorem chainAt_get {c : List (List UInt8)} {k : Nat} (hk : k < c.length) : chainAt c k = c[k] := by
  unfold chainAt
  rw [List.getD_eq_getElem?_getD, List.getElem?_eq_getElem hk]; rfl
structure RecInv (m : List UInt8) (c : List (List UInt8)) (cv : Value) (bc bl g : Nat) (B : Nat) (w : World) : Prop where
  mem : ShaMem w
  chain : Digs w cv c
  cell : w.cell? ⟨bc, 0, none⟩ = some cv
  cell2 : w.cell? ⟨bl, 0, none⟩ = some (.slice (some ⟨g, 0, none⟩) 68 68)
  digs : Blk w g 172 (icells (digC m) 68).toArray
  lt : (∀ k, cv.ownBlock = some k → k < B) ∧ bc < B ∧ bl < B ∧ g < B ∧ 1 < B ∧ 0 < B
theorem RecInv.keep {m : List UInt8} {c : List (List UInt8)} {cv : Value} {bc bl g B : Nat} {w w' : World} (h : RecInv m c cv bc bl g B w) (hc : Chg (fun k => B ≤ k) w w') : RecInv m c cv bc bl g B w' := by
  obtain ⟨l1, l2, l3, l4, l5, l6⟩ := h.lt
  exact ⟨h.mem.chg hc (by omega) (by omega), h.chain.chg hc (fun k hk e => by have := l1 k hk; omega), Chg.cellv hc h.cell (by simp; omega), Chg.cellv hc h.cell2 (by simp; omega), h.digs.chg hc (by omega), h.lt⟩

set_option maxRecDepth 100000 in
set_option maxHeartbeats 4000000 in
theorem rec1_any (k : Nat) (m : List UInt8) (c : List (List UInt8)) (cv : Value) (bc bl g B : Nat) (w : World) (hk : k < 68) (hc : c.length = 68) (hI : RecInv m c cv bc bl g B w) :
    Calls Tryd.prog 118 #[.int .i64 (k : Int), .pointer (some ⟨bc, 0, none⟩), .pointer (some ⟨bl, 0, none⟩)] w fun e w' => e = .returned (.agg ((advS k (chainAt c k) (3 - digC m k)).map u8v).toArray) ∧ Ext w w' := by
  obtain ⟨hM, hD, hbc, hbl, hB, _⟩ := hI
  obtain ⟨b, o, c', rfl, _, _, hb, hR⟩ := hD.at (k := k) (by omega)
  rw [← chainAt_get (by omega : k < c.length)] at hR
  have hl := chainAt_length hD.1 k
  have h3 := digC_le m k
  have HA := hide (fun (W : World) (hE : Ext w W) => adv_any k (3 - digC m k) (chainAt c k) W (hM.ext hE) hl (by omega) (by omega))
  have HL := hide (advS_length k (chainAt c k) hl (3 - digC m k))
  have hdc : w.cell? ⟨g, k, none⟩ = some (.int .i64 ((digC m k : Nat) : Int)) := by rw [hB.cell, List.getElem?_toArray, icells_get _ hk]
  have e3 : IntKind.i64.wrap (3 - ((digC m k : Nat) : Int)) = ((3 - digC m k : Nat) : Int) := by rw [IntKind.wrap_i64]; omega
  obtain ⟨cells, hcs⟩ : ∃ l, (chainAt c k).map u8v = l := ⟨_, rfl⟩
  have HCL := hide (show cells.length = 16 from by rw [← hcs]; simpa using hl)
  rw [hcs] at hR HA
  obtain ⟨d, hd⟩ : ∃ d, advS k (chainAt c k) (3 - digC m k) = d := ⟨_, rfl⟩
  rw [hd] at HA HL ⊢
  have HF : Hid (∀ W, (Ext w W ∧ ∃ cs : Array Value, cs.size = 16 ∧ Blk W w.heap.size 23 cs) → W.cell? ⟨bc, 0, none⟩ = some (.slice (some ⟨b, o, none⟩) c.length c') ∧ W.cell? ⟨bl, 0, none⟩ = some (.slice (some ⟨g, 0, none⟩) 68 68) ∧ W.cell? ⟨g, k, none⟩ = some (.int .i64 ((digC m k : Nat) : Int))) := hide (fun W hW => ⟨Ext.cellv hW.1 hbc, Ext.cellv hW.1 hbl, Ext.cellv hW.1 hdc⟩)
  have HR := hide hR
  rw [hc] at HF
  generalize hdk : digC m k = dk at *
  generalize hsk : 3 - dk = sk at *
  have hkI : (k : Int) < 68 := by omega
  clear hM hD hbc hbl hB hR hdc hcs hd hl
  go_enter Tryd.func118, Tryd.ntmps118
  go_upto_region 1 with fail
  refine wp_region_held_drew (S := fun W => Ext w W ∧ ∃ cs : Array Value, cs.size = 16 ∧ Blk W w.heap.size 23 cs) (by kernel_rfl) ⟨((Ext.refl w).alloc _).drew, _, rfl, (Blk.new w _ _).drew⟩ (fun hHeld => ?_)
  refine wpAnyH_take (i := 0) (oi := _) (v := ?_) rfl (by kernel_rfl) (by kernel_rfl) (by kernel_rfl) (fun _ _ _ h => h) (Or.inl ⟨by rfl, fun wz hSz => ?_⟩) (by assumption) ?_
  rotate_left
  · (first | (go_simp; done) | (go_simp; with_reducible rfl) | (obtain ⟨f1, f2, f3⟩ := (unhide HF) wz hSz; clear hSz; first | (go_simp; done) | (go_simp; with_reducible rfl)))
  try simp only [Act.put, List.setIfInBounds_toArray, List.set_cons_zero, List.set_cons_succ, List.getElem_toArray, List.getElem_cons_zero]
  refine wpAnyH_take (i := 1) (oi := _) (v := ?_) rfl (by kernel_rfl) (by kernel_rfl) (by kernel_rfl) (fun _ _ _ h => h) (Or.inl ⟨by rfl, fun wz hSz => ?_⟩) (by assumption) ?_
  rotate_left
  · (first | (go_simp; done) | (go_simp; with_reducible rfl) | (obtain ⟨f1, f2, f3⟩ := (unhide HF) wz hSz; clear hSz; first | (go_simp; done) | (go_simp; with_reducible rfl)))
  try simp only [Act.put, List.setIfInBounds_toArray, List.set_cons_zero, List.set_cons_succ, List.getElem_toArray, List.getElem_cons_succ, List.getElem_cons_zero]
  refine wpAnyH_take (i := 2) (oi := _) (v := ?_) rfl (by kernel_rfl) (by kernel_rfl) (by kernel_rfl) (fun _ _ _ h => h) (Or.inl ⟨by rfl, fun wz hSz => ?_⟩) (by assumption) ?_
  rotate_left
  · (first | (go_simp; done) | (go_simp; with_reducible rfl) | (obtain ⟨f1, f2, f3⟩ := (unhide HF) wz hSz; clear hSz; first | (go_simp; done) | (go_simp; with_reducible rfl)))
  try simp only [Act.put, List.setIfInBounds_toArray, List.set_cons_zero, List.set_cons_succ, List.getElem_toArray, List.getElem_cons_succ, List.getElem_cons_zero]
  refine wpAnyH_take (i := 3) (oi := _) (v := ?_) rfl (by kernel_rfl) (by kernel_rfl) (by kernel_rfl) (fun _ _ _ h => h) (Or.inl ⟨by rfl, fun wz hSz => ?_⟩) (by assumption) ?_
  rotate_left
  · (first | (go_simp; done) | (go_simp; with_reducible rfl) | (obtain ⟨f1, f2, f3⟩ := (unhide HF) wz hSz; clear hSz; first | (go_simp; done) | (go_simp; with_reducible rfl)))
  try simp only [Act.put, List.setIfInBounds_toArray, List.set_cons_zero, List.set_cons_succ, List.getElem_toArray, List.getElem_cons_succ, List.getElem_cons_zero]
  refine wpAnyH_take (i := 4) (oi := _) (v := _) rfl (by kernel_rfl) (by kernel_rfl) (by kernel_rfl) (fun _ _ _ h => h) (ylm digest_wide rfl (by rfl) rfl (unhide HCL) (fun w' hw => rangeAt_ext (unhide HR) hw.1)) (by assumption) ?_
  try simp only [Act.put, List.setIfInBounds_toArray, List.set_cons_zero, List.set_cons_succ, List.getElem_toArray, List.getElem_cons_succ, List.getElem_cons_zero]
  refine wpAnyH_take (i := 5) (oi := _) (v := ?_) rfl (by kernel_rfl) (by kernel_rfl) (by kernel_rfl) (fun _ _ _ h => h) (Or.inl ⟨by rfl, fun wz hSz => ?_⟩) (by assumption) ?_
  rotate_left
  · (first | (go_simp; done) | (go_simp; with_reducible rfl) | (obtain ⟨f1, f2, f3⟩ := (unhide HF) wz hSz; clear hSz; first | (go_simp; done) | (go_simp; with_reducible rfl)))
  try simp only [Act.put, List.setIfInBounds_toArray, List.set_cons_zero, List.set_cons_succ, List.getElem_toArray, List.getElem_cons_succ, List.getElem_cons_zero]
  refine wpAnyH_take (i := 6) (oi := _) (v := ?_) rfl (by kernel_rfl) (by kernel_rfl) (by kernel_rfl) (fun _ _ _ h => h) (Or.inl ⟨by rfl, fun wz hSz => ?_⟩) (by assumption) ?_
  rotate_left
  · (first | (go_simp; done) | (go_simp; with_reducible rfl) | (obtain ⟨f1, f2, f3⟩ := (unhide HF) wz hSz; clear hSz; first | (go_simp; done) | (go_simp; with_reducible rfl)))
  try simp only [Act.put, List.setIfInBounds_toArray, List.set_cons_zero, List.set_cons_succ, List.getElem_toArray, List.getElem_cons_succ, List.getElem_cons_zero]
  refine wpAnyH_take (i := 7) (oi := _) (v := ?_) rfl (by kernel_rfl) (by kernel_rfl) (by kernel_rfl) (fun _ _ _ h => h) (Or.inl ⟨by rfl, fun wz hSz => ?_⟩) (by assumption) ?_
  rotate_left
  · (first | (go_simp; done) | (go_simp; with_reducible rfl) | (obtain ⟨f1, f2, f3⟩ := (unhide HF) wz hSz; clear hSz; first | (go_simp; done) | (go_simp; with_reducible rfl)))
  try simp only [Act.put, List.setIfInBounds_toArray, List.set_cons_zero, List.set_cons_succ, List.getElem_toArray, List.getElem_cons_succ, List.getElem_cons_zero]
  refine wpAnyH_take (i := 8) (oi := _) (v := ?_) rfl (by kernel_rfl) (by kernel_rfl) (by kernel_rfl) (fun _ _ _ h => h) (Or.inl ⟨by rfl, fun wz hSz => ?_⟩) (by assumption) ?_
  rotate_left
  · (first | (go_simp; done) | (go_simp; with_reducible rfl) | (obtain ⟨f1, f2, f3⟩ := (unhide HF) wz hSz; clear hSz; first | (go_simp; done) | (go_simp; with_reducible rfl)))
  try simp only [Act.put, List.setIfInBounds_toArray, List.set_cons_zero, List.set_cons_succ, List.getElem_toArray, List.getElem_cons_succ, List.getElem_cons_zero]
  refine wpAnyH_take (i := 9) (oi := _) (v := ?_) rfl (by kernel_rfl) (by kernel_rfl) (by kernel_rfl) (fun _ _ _ h => h) (Or.inl ⟨by rfl, fun wz hSz => ?_⟩) (by assumption) ?_
  rotate_left
  · (first | (go_simp; done) | (go_simp; with_reducible rfl) | (obtain ⟨f1, f2, f3⟩ := (unhide HF) wz hSz; clear hSz; first | (go_simp; done) | (go_simp; with_reducible rfl)))
  try simp only [Act.put, List.setIfInBounds_toArray, List.set_cons_zero, List.set_cons_succ, List.getElem_toArray, List.getElem_cons_succ, List.getElem_cons_zero]

  refine wpAnyH_ready (rs := [10]) (by kernel_rfl) (by simp) (AllReadyH.cons (o := _) rfl (fun K hK => ?_) AllReadyH.nil)
  try go_simp
  (refine (unhide HA _ hHeld.1).mono ?_; rintro e w5 ⟨rfl, hE5⟩; have hS := And.intro (hHeld.1.trans hE5) (hHeld.2.imp fun _ h => And.intro h.1 (h.2.ext hE5)); clear hE5 hHeld)
  refine hK.out _ _ ?_ (fun hHeld => ?_)
  · exact hS
  clear hK K
  try simp only [Act.put, List.setIfInBounds_toArray, List.set_cons_zero, List.set_cons_succ, List.getElem_toArray, List.getElem_cons_succ, List.getElem_cons_zero]
  obtain ⟨hX, cs, hcs, hBk⟩ := hHeld
  refine wpAnyH_ready (rs := [11]) (by kernel_rfl) (by simp) (AllReadyH.cons (o := _) rfl (fun K hK => ?_) AllReadyH.nil)
  (refine step_storeB (ty := 23) (t := 23) (x := .tmp 4) (y := .tmp 15) rfl rfl digest_wide rfl rfl hBk hcs (by simpa using unhide HL) (bytes_one _) ?_; intro w7 hb7 hc7 hz7; have hS : Ext w w7 ∧ ∃ cs : Array Value, cs.size = 16 ∧ Blk w7 w.heap.size 23 cs := ⟨hX.trans' hc7 (fun _ _ h => h) (fun i hi e => by omega), _, by simpa using unhide HL, hb7⟩; have H7 := hide hb7; clear hb7 hc7 hz7)
  refine hK.out _ _ ?_ (fun hHeld => ?_)
  · exact hS
  clear hK K
  try simp only [Act.put, List.getElem_toArray, List.getElem_cons_succ, List.getElem_cons_zero]
  refine wpAnyH_done (by kernel_rfl) ?_ _
  have H8 := hide hHeld.1
  go_wp2
  refine bodyPost_ret (v := .agg (d.map u8v).toArray) (results_blk digest_wide rfl (unhide H7) (by simpa using unhide HL) rfl) rfl ⟨rfl, unhide H8⟩

end Go.Proofs.YtgndblhpfjkfhaaDoor

/-
  wots.Recover and wots.Sign.
-/
namespace Go.Proofs.YtgndblhpfjkfhaaDoor
open Go.RowKit

def recV (m : List UInt8) (c : List (List UInt8)) : Value := if c.length = 68 then .tuple #[.agg ((recoverS m (chainAt c)).map u8v).toArray, .int .i64 0] else .tuple #[.agg (z16.map u8v).toArray, .int .i64 9]

set_option maxRecDepth 100000 in
set_option maxHeartbeats 4000000 in
theorem recover_no (m : List UInt8) (c : List (List UInt8)) (cv : Value) (w : World) (hc : ¬ c.length = 68) (hD : Digs w cv c) :
    Calls Tryd.prog 86 #[.agg (m.map u8v).toArray, cv] w fun e w' => e = .returned (.tuple #[.agg (z16.map u8v).toArray, .int .i64 9]) ∧ Ext w w' := by
  obtain ⟨A, c', rfl, _, _⟩ := hD.form
  obtain ⟨arr, harr⟩ : ∃ r, (m.map u8v).toArray = r := ⟨_, rfl⟩
  rw [harr]
  clear hD harr
  have hcI : ¬ (c.length : Int) = 68 := by omega
  generalize c.length = n at *
  go_enter Tryd.func86, Tryd.ntmps86
  go_wp2
  refine bodyPost_ret (v := .tuple #[.agg (z16.map u8v).toArray, .int .i64 9]) (results_two digest_wide rfl (Blk.new' _ _ _ (by simp)) rfl rfl rfl) rfl ⟨rfl, ?_⟩
  exact (((Ext.refl w).alloc _).alloc _).alloc _

set_option maxRecDepth 100000 in
set_option maxHeartbeats 4000000 in
theorem recover_yes (m : List UInt8) (c : List (List UInt8)) (cv : Value) (w : World) (hM : ShaMem w) (hm : m.length = 16) (hc : c.length = 68) (hD : Digs w cv c) :
    Calls Tryd.prog 86 #[.agg (m.map u8v).toArray, cv] w fun e w' => e = .returned (.tuple #[.agg ((recoverS m (chainAt c)).map u8v).toArray, .int .i64 0]) ∧ Ext w w' := by
  obtain ⟨A, c', rfl, _, _⟩ := hD.form
  have hlt := hD.own_lt (by omega)
  have hsl := hM.lt
  have HDg := hide (fun (W : World) => digits_any m W hm)
  have HK := hide (fun (g bl B : Nat) (W : World) (hI : RecInv m c (.slice A c.length c') (w.heap.size + 1) bl g B W) (hB : B ≤ W.heap.size) =>
    key_any (F := 118) (caps := #[.pointer (some ⟨w.heap.size + 1, 0, none⟩), .pointer (some ⟨bl, 0, none⟩)]) (f := fun k => advS k (chainAt c k) (3 - digC m k)) (Inv := RecInv m c (.slice A c.length c') (w.heap.size + 1) bl g B) (B := B)
      ⟨call_enters Tryd.func118 (by kernel_rfl) rfl, fun k W hk hI => rec1_any k m c _ _ _ _ _ W hk hc hI, fun W W' hI hC => hI.keep hC, fun k => advS_length k _ (chainAt_length hD.1 k) _⟩ W hB hI.mem hI)
  have HM := hide (And.intro hM (And.intro hD (And.intro hlt hsl)))
  obtain ⟨arr, harr⟩ : ∃ r, (m.map u8v).toArray = r := ⟨_, rfl⟩
  rw [harr] at HDg ⊢
  have HR := hide (show keyOf (fun k => advS k (chainAt c k) (3 - digC m k)) = recoverS m (chainAt c) ∧ (recoverS m (chainAt c)).length = 16 from ⟨rfl, digestS_length _ _⟩)
  obtain ⟨res, hres⟩ : ∃ r, recoverS m (chainAt c) = r := ⟨_, rfl⟩
  rw [hres] at HR ⊢
  have hasz : arr.size = 16 := by rw [← harr]; simpa using hm
  have hmf := mkfun
  rw [hc] at HK ⊢
  rw [hc] at HM
  clear hM harr hres hD hlt hsl
  go_enter Tryd.func86, Tryd.ntmps86
  go_wp2_with (refine wpList_loadB (ty := 23) (t := 23) (x := .tmp 2) rfl rfl digest_wide rfl (((Blk.new w _ _).alloc _).alloc _) hasz ?_)
  refine (unhide HDg _).mono ?_
  rintro e w1 ⟨g, rfl, hb1, hg, hE1⟩
  have H1 := hide (And.intro hb1 (And.intro ((((Ext.refl w).alloc _).alloc _).alloc _ |>.trans hE1) (And.intro (Ext.cellv hE1 (old_cell _ _ (new_cell (w.alloc (.cells arr 23)) 38 #[.slice A 68 c'] (g := w.heap.size + 1) (by simp) (i := 0) rfl))) ((Blk.new' ((w.alloc (.cells arr 23)).alloc (.cells #[.slice A 68 c'] 38)) 23 (Array.replicate 16 (.int .u8 0)) (g := w.heap.size + 1 + 1) (by simp)).ext hE1))))
  clear hb1 hE1
  have hw1 : w.heap.size + 1 + 1 < w1.heap.size := (unhide H1).2.2.2.lt
  go_wp2_with fail
  refine (unhide HK g w1.heap.size (w1.heap.size + 1) _ ⟨(unhide HM).1.ext ((unhide H1).2.1.alloc _), (unhide HM).2.1.ext ((unhide H1).2.1.alloc _), old_cell _ _ (unhide H1).2.2.1, new_cell _ _ _ rfl rfl, (unhide H1).1.alloc _, fun k hk => by have := (unhide HM).2.2.1 k hk; omega, by omega, by omega, by have := (unhide H1).1.lt; omega, by have := (unhide HM).2.2.2; omega, by have := (unhide HM).2.2.2; omega⟩ (by simp)).mono ?_
  rintro e w2 ⟨rfl, hE2⟩
  rw [(unhide HR).1]
  have H2 := hide (((Ext.refl w1).alloc _).trans hE2)
  clear hE2 hmf
  go_wp2_with (refine wpList_storeB (ty := 23) (t := 23) (x := .tmp 4) (y := .tmp 14) rfl rfl digest_wide rfl rfl ((unhide H1).2.2.2.ext (unhide H2)) rfl (by simpa using (unhide HR).2) (bytes_one _) ?_; intro w7 hb7 hc7 hz7; have H7 := hide (And.intro hb7 hc7); clear hb7 hc7 hz7)
  refine bodyPost_ret (v := .tuple #[.agg (res.map u8v).toArray, .int .i64 0]) (results_two digest_wide rfl (unhide H7).1 (by simpa using (unhide HR).2) rfl rfl) rfl ⟨rfl, ?_⟩
  exact ((unhide H1).2.1.trans (unhide H2)).trans' (unhide H7).2 (fun _ _ h => h) (fun i hi e => by omega)

theorem recover_any (m : List UInt8) (c : List (List UInt8)) (cv : Value) (w : World) (hM : ShaMem w) (hm : m.length = 16) (hD : Digs w cv c) :
    Calls Tryd.prog 86 #[.agg (m.map u8v).toArray, cv] w fun e w' => e = .returned (recV m c) ∧ Ext w w' := by
  unfold recV
  split
  · rename_i h; exact recover_yes m c cv w hM hm h hD
  · rename_i h; exact recover_no m c cv w h hD

/-- The chain values of a signature. -/
def signS (seed : List UInt8) (index : Int) (m : List UInt8) (n : Nat) : List (List UInt8) := (List.range n).map (signAt seed index m)
theorem signAt_length (seed : List UInt8) (index : Int) (m : List UInt8) (k : Nat) : (signAt seed index m k).length = 16 := advS_length k _ (startS_length _ _ _) _
theorem signS_step (seed : List UInt8) (index : Int) (m : List UInt8) (n : Nat) : signS seed index m (n + 1) = signS seed index m n ++ [signAt seed index m n] := by unfold signS; rw [List.range_succ, List.map_append]; rfl
theorem signS_length (seed : List UInt8) (index : Int) (m : List UInt8) (n : Nat) : (signS seed index m n).length = n := by unfold signS; simp
theorem signS_16 (seed : List UInt8) (index : Int) (m : List UInt8) (n : Nat) : D16 (signS seed index m n) := fun d hd => by
  unfold signS at hd
  obtain ⟨k, _, rfl⟩ := List.mem_map.1 hd
  exact signAt_length _ _ _ _

set_option maxRecDepth 100000 in
set_option maxHeartbeats 4000000 in
theorem sign_any (seed : List UInt8) (index : Int) (m : List UInt8) (w : World) (hM : ShaMem w) (hv : seed.length = 16) (hm : m.length = 16) (h1 : -9223372036854775808 ≤ index) (h2 : index < 9223372036854775808) :
    Calls Tryd.prog 92 #[.agg (seed.map u8v).toArray, .int .i64 index, .agg (m.map u8v).toArray] w fun e w' => ∃ A c, e = .returned (.slice A 68 c) ∧ GD w w.heap.size (.slice A 68 c) 68 (signS seed index m 68) w' := by
  have HDg := hide (fun (W : World) => digits_any m W hm)
  have HS := hide (fun k (hk : k < 68) (W : World) (hE : Ext w W) => start_any k seed index W (hM.ext hE) hv (by omega) h1 h2)
  have HA := hide (fun k (hk : k < 68) (W : World) (hE : Ext w W) => adv_any k (digC m k) (startS seed index k) W (hM.ext hE) (startS_length _ _ _) (by omega) (by have := digC_le m k; omega))
  have HL := hide (signAt_length seed index m)
  have HT := hide (signS_step seed index m)
  have HG := hide (fun k (hk : k < 68) => icells_get (digC m) hk)
  have HQ := hide (fun k => show advS k (startS seed index k) (digC m k) = signAt seed index m k from rfl)
  obtain ⟨arr, harr⟩ : ∃ r, (seed.map u8v).toArray = r := ⟨_, rfl⟩
  obtain ⟨marr, hmarr⟩ : ∃ r, (m.map u8v).toArray = r := ⟨_, rfl⟩
  rw [harr] at HS ⊢
  rw [hmarr] at HDg ⊢
  have HSZ := hide (show arr.size = 16 ∧ marr.size = 16 from by rw [← harr, ← hmarr]; simp; omega)
  clear hM harr hmarr hv hm
  go_enter Tryd.func92, Tryd.ntmps92
  go_wp2_with (refine wpList_loadB (ty := 23) (t := 23) (x := .tmp 5) rfl rfl digest_wide rfl (Blk.new' _ _ _ (by simp)) (unhide HSZ).2 ?_)
  refine (unhide HDg _).mono ?_
  rintro e w1 ⟨g, rfl, hb1, hg, hE1⟩
  have H1 := hide (And.intro hb1 (And.intro ((((Ext.refl w).alloc _).alloc _).trans hE1) (((Blk.new w 23 arr).alloc _).ext hE1)))
  clear hb1 hE1 hg
  go_wp2_with fail
  go_loopw [7, 13] (fun b i wr => ∃ (k : Nat) (A : Option Addr) (c : Nat), k ≤ 68 ∧ i = .int .i64 k ∧ b = .slice A k c ∧ Hid (GD w w1.heap.size (.slice A k c) k (signS seed index m k) wr ∧ Blk wr w.heap.size 23 arr ∧ Blk wr g 172 (icells (digC m) 68).toArray)) (fun _ i _ => 68 - (intOf i).toNat)
  case atStart => exact ⟨0, none, 0, by omega, rfl, rfl, hide ⟨GD.nil (unhide H1).2.1 (unhide H1).2.1.size' (Nat.le_refl _), (unhide H1).2.2, (unhide H1).1⟩⟩
  case round =>
    obtain ⟨k, A, c, hk, rfl, rfl, HI⟩ := hrel
    by_cases hlt : k < 68
    · have cg : wr.cell? ⟨g, k, none⟩ = some (.int .i64 ((digC m k : Nat) : Int)) := by rw [(unhide HI).2.2.cell, List.getElem?_toArray]; exact unhide HG k hlt
      have HSk := hide (unhide HS k hlt)
      have HAk := hide (unhide HA k hlt)
      have HLk := hide (unhide HL k)
      have HTk := hide (unhide HT k)
      rw [unhide HQ k] at HAk
      generalize digC m k = dk at *
      generalize hst : ((startS seed index k).map u8v).toArray = st at *
      generalize signAt seed index m k = d at *
      have hkI : (k : Int) < 68 := by omega
      go_wp2_with (refine wpList_loadB (ty := 23) (t := 23) (x := .tmp 3) rfl rfl digest_wide rfl (unhide HI).2.1 (unhide HSZ).1 ?_)
      refine (unhide HSk _ (unhide HI).1.ext).mono ?_
      rintro e w2 ⟨rfl, hE2⟩
      have H2 := hide hE2
      clear hE2
      go_wp2_with fail
      refine (unhide HAk _ ((unhide HI).1.ext.trans (unhide H2))).mono ?_
      rintro e w3 ⟨rfl, hE3⟩
      have H3 := hide ((unhide H2).trans hE3)
      clear hE3
      go_wp2_with (first | (refine wpList_build1 (t := 38) (x := .tmp 25) rfl digs_row (by omega) rfl rfl (by simpa using unhide HLk) ?_) | at_builtin; refine wpList_app rfl rfl digs_row rfl ((unhide HI).1.to ((unhide H3).alloc _)).own rfl (Reads.newD _ _ _ (unhide HLk) rfl) (AllOne.u8 d) (by omega) ((unhide HI).1.to ((unhide H3).alloc _)).room ?_; intro A' c' w4 ho hc4 hv; have H4 := hide (And.intro ho hc4); clear ho hc4 hv)
      go_roundw
      case rel =>
        refine ⟨k + 1, A', c', by omega, by go_num, rfl, hide ⟨by rw [unhide HTk]; exact (unhide HI).1.step (unhide HLk) ((unhide H3).alloc _) (unhide H4).2 (unhide H4).1, ?_, ?_⟩⟩
        · exact ((unhide HI).2.1.ext ((unhide H3).alloc _)).chg (unhide H4).2 (fun e => by have h5 := ((unhide HI).1.own.lt _ e).1; have h6 := (unhide H1).2.2.lt; omega)
        · exact ((unhide HI).2.2.ext ((unhide H3).alloc _)).chg (unhide H4).2 (fun e => by have h5 := ((unhide HI).1.own.lt _ e).1; have h6 := (unhide H1).1.lt; omega)
      case measure => simp [intOf]; omega
    · obtain rfl : k = 68 := by omega
      go_wp2
      go_ret
      exact ⟨A, c, rfl, ⟨ownsRow_base (unhide HI).1.own (unhide H1).2.1.size', (unhide HI).1.all, (unhide HI).1.ext, Nat.le_refl _, (unhide HI).1.ext.size'⟩⟩

end Go.Proofs.YtgndblhpfjkfhaaDoor

/-
  A range over a function whose loop variable lies in a box, as one law of the plain walk.
-/
namespace Go.Proofs.YtgndblhpfjkfhaaDoor
open Go.RowKit

theorem KeepB.of_ext {w w' : World} (h : Ext w w') : KeepB w w' := fun _ _ hk _ => h.blk hk
theorem KeepB.own {β : Type} {B : Nat} {I : β → World → Prop} (h : ∀ s W W', I s W → KeepB W W' → I s W') : OwnFrom B I := by
  intro s W W' row hs hg hrow
  refine h s W W' hs fun k o hk ho => ?_
  rw [hg.block k (lt_of_heap hk) (fun e => ?_)]
  · exact hk
  · obtain ⟨_, q, hq, hqc⟩ := hrow k e.symm
    rw [hk] at hq
    cases hq
    rw [ho] at hqc
    cases hqc
theorem wp_rangeH {α : Type} {P : Program} {g : Operand} {ps : Array Tmp} {assign body : Code} {Q : Exit → Act → World → Prop} {a : Act} {w : World}
    {gf : Nat} {lb : Array Value} (hg : a.eval g = .func (.func gf) #[] lb) (eg : ∀ args w, (callFunc gf args).run P w = .ok (.enter gf args) w)
    {encs : α → Array Value} {S : Nat → Prop} {all : List α} {N : Nat}
    (hseq : SeqStopsK Fence.wide 2 P gf lb encs (KeepC S) (fun ys => ys = all) (fun _ => True) N w) (hps : ∀ x, (encs x).size = ps.size)
    (J : List α → World → Prop) (hJ : ∀ pre W W', J pre W → KeepB W W' → J pre W') (h0 : J [] w) (Ax : α → Act → World → Prop) (hAx : ∀ x a' W W', Ax x a' W → KeepB W W' → Ax x a' W')
    (hassign : ∀ (l : Nat) (pre : List α) (x : α) (W : World) (K : Act → World → Prop), Chg S w W → J pre W → (∀ a' W', Ext W W' → Ax x a' W' → K a' W') →
      assign.wpIn (Fence.wide.inRound l) 1 P (Exit.then K (fun _ _ _ => False)) { tmps := (ps.zip (encs x)).foldl (fun t (p, v) => t.setIfInBounds p v) a.tmps, defers := [] } W)
    (hbody : ∀ (l : Nat) (pre : List α) (x : α) (a' : Act) (W : World), Chg S w W → J pre W → Ax x a' W → pre.length < N →
      body.wpIn (Fence.wide.inRound l) 1 P (Exit.then (fun _ W' => Chg S W W' ∧ KeepsFrom w.heap.size W W' ∧ J (pre ++ [x]) W') (fun _ _ _ => False)) a' W)
    (hdone : ∀ (D : Nat) (W : World), w.heap.size ≤ D → Chg S w W → J all W → W.heap[D]? = some (.deferred (some [])) → Q .normal { a with defers := { target := .collected D, args := #[] } :: a.defers } W) :
    (Code.rangeFunc g ps assign body).wp P Q a w := by
  refine (wpIn_wide (n := 3)).1 ?_
  refine wpIn_rangeFunc_ownH (n := 3) (N := N) (w0 := w) rfl (by omega) hg trivial eg hseq (fun h k => h.trans k) (fun W l o o' _ h ho _ => KeepC.putObj W l o' h ho) (Below.refl _ _) hps
    (fun pre W => Chg S w W ∧ J pre W) (fun _ _ _ => False) ?hI (fun _ _ _ _ _ h _ _ => h) ⟨Chg.refl _ _, h0⟩ Ax (fun x a' => KeepB.own fun _ W W' h k => hAx x a' W W' h k) ?hassign ?hbody ?hdone (fun _ _ _ _ _ _ h _ => h.elim)
  case hI =>
    rintro pre W W' row ⟨hc, hj⟩ hgr hrow
    exact ⟨hc.grown hgr fun k e => .inr (hrow k e).1, KeepB.own (B := w.heap.size) hJ pre W W' row hj hgr hrow⟩
  case hassign =>
    rintro l pre x W K ⟨hc, hj⟩ hK
    refine hassign l pre x W K hc hj fun a' W' hE hA => hK a' W' ⟨hE.size', fun k o _ hk _ => hE.blk hk⟩ (KeepC.of_chg hE.chg) ⟨hc.ext hE, hJ _ _ _ hj (KeepB.of_ext hE)⟩ hA
  case hbody =>
    rintro l pre x a' W _ _ ⟨hc, hj⟩ hA hl
    refine wpIn_mono (hbody l pre x a' W hc hj hA hl) ?_
    rintro e b W' h
    cases e with
    | normal =>
      obtain ⟨h1, h3, h2⟩ := h
      exact ⟨h3, KeepC.of_chg h1, hc.trans h1, h2⟩
    | _ => exact h.elim
  case hdone =>
    rintro D xs W hD rfl ⟨hc, hj⟩ hd
    exact hdone D W hD hc hj hd
theorem keeps_ext (B : Nat) {w w' : World} (h : Ext w w') : KeepsFrom B w w' := ⟨h.size', fun _ _ _ hk _ => h.blk hk⟩
theorem keeps_own {B0 B : Nat} {w w' : World} {e : TypeId} {size : Nat} {v : Value} {n : Nat} {xs : List Value} (h : w.ownsRow B e size v n xs) (hc : Chg (fun k => v.ownBlock = some k) w w') : KeepsFrom B0 w w' := by
  refine ⟨hc.size, fun k o _ hk ho => hc.blk hk fun hv => ?_⟩
  rcases h.2 with ⟨rfl, _⟩ | ⟨g, cap, cur, rfl, _, hg, _⟩
  · simp [Value.ownBlock] at hv
  · simp only [Value.ownBlock, Option.some.injEq] at hv
    subst hv
    rw [hg] at hk
    cases hk
    simp [Obj.isCells] at ho
theorem KeepB.own' {w w' : World} (hk : KeepB w w') {B : Nat} {e : TypeId} {size : Nat} {v : Value} {n : Nat} {xs : List Value} (h : w.ownsRow B e size v n xs) : w'.ownsRow B e size v n xs := by
  refine ⟨h.1, ?_⟩
  rcases h.2 with hn | ⟨g, cap, cur, rfl, hb, hgg, rest⟩
  · exact .inl hn
  · exact .inr ⟨g, cap, cur, rfl, hb, hk _ _ hgg rfl, rest⟩
theorem grown_of_ext {w w' : World} (h : Ext w w') : w.grownBy w' none := ⟨h.os, h.tape, h.output, h.size', fun k hk _ => h.block k hk (fun h => h)⟩

end Go.Proofs.YtgndblhpfjkfhaaDoor

/-
  A region that draws its order, whose operation k (a store, say) writes what other operations load: those loads come up before k, so what holds of the world (C) is asked until k has come up, and no longer. Plain: no function of the program is named here.
-/
namespace Go.Proofs.YtgndblhpfjkfhaaDoor
open Go.RowKit

section
variable {P : Program} {ops : Array Oper} {Q : Exit → Act → World → Prop} {md : Region.Mode} {k : Nat} {C : World → Prop}

def wpAnyK (P : Program) (md : Region.Mode) (ops : Array Oper) (Q : Exit → Act → World → Prop) (k : Nat) (C : World → Prop) : Nat → Array Bool → Act → World → Prop
  | 0, l, a, w => Region.ready md ops l = [] ∧ Q .normal a w
  | f + 1, l, a, w => (Region.ready md ops l = [] → Q .normal a w) ∧
    ∀ i ∈ Region.ready md ops l, wpOp P ops Q i (fun a' w' => ((l.setIfInBounds i true).getD k true = false → C w') ∧ wpAnyK P md ops Q k C f (l.setIfInBounds i true) a' w') a w
theorem wpAny_of_key : ∀ (f : Nat) (l : Array Bool) (a : Act) (w : World), wpAnyK P md ops Q k C f l a w → wpAny P md ops Q f l a w
  | 0, _, _, _, h => h
  | f + 1, _, _, _, h => ⟨h.1, fun i hi => wpOp_mono (fun a' w' h' => wpAny_of_key f _ a' w' h'.2) (h.2 i hi)⟩
/-- k waits for i. -/
def waitsB (md : Region.Mode) (ops : Array Oper) (k i : Nat) : Bool := match ops[k]? with
  | some o => o.after.any fun e => Region.binds md e && e.on == i
  | none => false
theorem ready_ne {l : Array Bool} {i j : Nat} (hi : i ∈ Region.ready md ops l) (hj : j ∈ Region.ready md ops l) (hk : waitsB md ops k i = true) : j ≠ k := by
  rintro rfl
  obtain ⟨_, o, ho, hall⟩ := mem_ready.1 hj
  unfold waitsB at hk
  rw [ho] at hk
  obtain ⟨e, he, h2⟩ := Array.any_eq_true'.1 hk
  rw [Bool.and_eq_true, beq_iff_eq] at h2
  have h1 := hall e he h2.1
  have h0 := (mem_ready.1 hi).1
  rw [h2.2] at h1
  rcases Nat.lt_or_ge i l.size with h' | h'
  · simp [h'] at h0 h1; rw [h0] at h1; cases h1
  · simp [Array.getElem?_eq_none h'] at h1
theorem getD_set_ne' {l : Array Bool} {i j : Nat} (d : Bool) (h : i ≠ j) : (l.setIfInBounds i true).getD j d = l.getD j d := by
  simp [Array.getD_eq_getD_getElem?, Array.getElem?_setIfInBounds_ne h]

theorem wpAnyK_first {i : Nat} {oi : Oper} {v : Value} (hi : ops[i]? = some oi) (hsel : ∀ (j : Nat) (o : Oper) cs b, ops[j]? = some o → o.op ≠ .select cs b)
    (hQ : ∀ c a w, Q (.panic c) (a.put oi.dst v) w → Q (.panic c) a w) (hki : waitsB md ops k i = true) :
    ∀ (f : Nat) (l : Array Bool) (a : Act) (w : World),
      (∀ j oj, ops[j]? = some oj → j ≠ i → l.getD j true = false → (∀ e ∈ oj.after, Region.binds md e = true → e.on ≠ i) → oi.apart ops oj = true) →
      i ∈ Region.ready md ops l → l.getD k true = false → i ≠ k → YieldsIf P ops C oi v a → C w →
      wpAnyK P md ops Q k C f (l.setIfInBounds i true) (a.put oi.dst v) w → wpAnyK P md ops Q k C (f + 1) l a w := by
  intro f
  induction f with
  | zero =>
    intro l a w _ hr _ _ hy hC H
    refine ⟨fun h => (by rw [h] at hr; cases hr), fun j hj => ?_⟩
    by_cases hji : j = i
    · subst hji; exact hy.wpOp hi hC ⟨fun _ => hC, H⟩
    · have := ready_mono hj hji
      rw [H.1] at this
      cases this
  | succ f ih =>
    intro l a w hfree hr hkl hik hy hC H
    refine ⟨fun h => (by rw [h] at hr; cases hr), fun j hj => ?_⟩
    by_cases hji : j = i
    · subst hji; exact hy.wpOp hi hC ⟨fun _ => hC, H⟩
    · have hjk : j ≠ k := ready_ne hr hj hki
      have h1 := H.2 j (ready_mono hj hji)
      obtain ⟨hjun, oj, hoj, hall⟩ := mem_ready.1 hj
      have hnot : ∀ e ∈ oj.after, Region.binds md e = true → e.on ≠ i := fun e he hb heq => by
        have h1 := hall e he hb
        have h0 := (mem_ready.1 hr).1
        rw [heq] at h1
        rcases Nat.lt_or_ge i l.size with h' | h'
        · simp [h'] at h0 h1; rw [h0] at h1; cases h1
        · simp [Array.getElem?_eq_none h'] at h1
      have h2 := wpOp_putIf hoj (hfree j oj hoj hji hjun hnot) (fun cs b => hsel i oi cs b hi) (fun cs b => hsel j oj cs b hoj) hQ hy h1
      have hfree' : ∀ m om, ops[m]? = some om → m ≠ i → (l.setIfInBounds j true).getD m true = false →
          (∀ e ∈ om.after, Region.binds md e = true → e.on ≠ i) → oi.apart ops om = true := fun m om hm hmi hun hno => by
        refine hfree m om hm hmi ?_ hno
        by_cases hjm : j = m
        · subst hjm; exact hjun
        · rw [getD_set_ne' true hjm] at hun; exact hun
      have hkl' : (l.setIfInBounds j true).getD k true = false := by rw [getD_set_ne' true hjk]; exact hkl
      refine wpOp_mono (fun a' w' h3 => ?_) h2
      have hC' : C w' := h3.2.1 (by rw [getD_set_ne' true hjk, getD_set_ne' true hik]; exact hkl)
      refine ⟨fun _ => hC', ih (l.setIfInBounds j true) a' w' hfree' (ready_mono hr (Ne.symm hji)) hkl' hik h3.1 hC' ?_⟩
      rw [Array.setIfInBounds_comm _ _ hji]
      exact h3.2.2
theorem wpAnyK_take {i : Nat} {oi : Oper} {v : Value} {f : Nat} {l : Array Bool} {a : Act} {w : World} (hi : ops[i]? = some oi)
    (hs : Region.noSelect ops = true) (hf : Region.free md ops l i = true) (hr : (Region.ready md ops l).contains i = true) (hki : waitsB md ops k i = true) (hkl : (!l.getD k true && i != k) = true)
    (hQ : ∀ c a w, Q (.panic c) (a.put oi.dst v) w → Q (.panic c) a w) (hy : YieldsIf P ops C oi v a) (hC : C w)
    (h : wpAnyK P md ops Q k C f (l.setIfInBounds i true) (a.put oi.dst v) w) : wpAnyK P md ops Q k C (f + 1) l a w := by
  rw [Bool.and_eq_true, Bool.not_eq_true', bne_iff_ne] at hkl
  exact wpAnyK_first hi (Region.noSelect_spec hs) hQ hki f l a w (Region.free_spec hi hf) (by simpa using hr) hkl.1 hkl.2 hy hC h
/-- An operation that looks at no world may come up whenever it likes. -/
theorem wpAnyK_firstF {i : Nat} {oi : Oper} {v : Value} (hi : ops[i]? = some oi) (hsel : ∀ (j : Nat) (o : Oper) cs b, ops[j]? = some o → o.op ≠ .select cs b)
    (hQ : ∀ c a w, Q (.panic c) (a.put oi.dst v) w → Q (.panic c) a w) (hik : i ≠ k) :
    ∀ (f : Nat) (l : Array Bool) (a : Act) (w : World),
      (∀ j oj, ops[j]? = some oj → j ≠ i → l.getD j true = false → (∀ e ∈ oj.after, Region.binds md e = true → e.on ≠ i) → oi.apart ops oj = true) →
      i ∈ Region.ready md ops l → YieldsIf P ops (fun _ => True) oi v a → (l.getD k true = false → C w) →
      wpAnyK P md ops Q k C f (l.setIfInBounds i true) (a.put oi.dst v) w → wpAnyK P md ops Q k C (f + 1) l a w := by
  intro f
  induction f with
  | zero =>
    intro l a w _ hr hy hC H
    refine ⟨fun h => (by rw [h] at hr; cases hr), fun j hj => ?_⟩
    by_cases hji : j = i
    · subst hji; exact hy.wpOp hi trivial ⟨fun h => hC (by rw [getD_set_ne' true hik] at h; exact h), H⟩
    · have := ready_mono hj hji
      rw [H.1] at this
      cases this
  | succ f ih =>
    intro l a w hfree hr hy hC H
    refine ⟨fun h => (by rw [h] at hr; cases hr), fun j hj => ?_⟩
    by_cases hji : j = i
    · subst hji; exact hy.wpOp hi trivial ⟨fun h => hC (by rw [getD_set_ne' true hik] at h; exact h), H⟩
    · have h1 := H.2 j (ready_mono hj hji)
      obtain ⟨hjun, oj, hoj, hall⟩ := mem_ready.1 hj
      have hnot : ∀ e ∈ oj.after, Region.binds md e = true → e.on ≠ i := fun e he hb heq => by
        have h1 := hall e he hb
        have h0 := (mem_ready.1 hr).1
        rw [heq] at h1
        rcases Nat.lt_or_ge i l.size with h' | h'
        · simp [h'] at h0 h1; rw [h0] at h1; cases h1
        · simp [Array.getElem?_eq_none h'] at h1
      have h2 := wpOp_putIf hoj (hfree j oj hoj hji hjun hnot) (fun cs b => hsel i oi cs b hi) (fun cs b => hsel j oj cs b hoj) hQ hy h1
      have hfree' : ∀ m om, ops[m]? = some om → m ≠ i → (l.setIfInBounds j true).getD m true = false →
          (∀ e ∈ om.after, Region.binds md e = true → e.on ≠ i) → oi.apart ops om = true := fun m om hm hmi hun hno => by
        refine hfree m om hm hmi ?_ hno
        by_cases hjm : j = m
        · subst hjm; exact hjun
        · rw [getD_set_ne' true hjm] at hun; exact hun
      refine wpOp_mono (fun a' w' h3 => ?_) h2
      have hC' : (l.setIfInBounds j true).getD k true = false → C w' := fun h => h3.2.1 (by
        rw [Array.setIfInBounds_comm _ _ (Ne.symm hji), getD_set_ne' true hik]; exact h)
      refine ⟨hC', ih (l.setIfInBounds j true) a' w' hfree' (ready_mono hr (Ne.symm hji)) h3.1 hC' ?_⟩
      rw [Array.setIfInBounds_comm _ _ hji]
      exact h3.2.2
theorem wpAnyK_takeF {i : Nat} {oi : Oper} {v : Value} {f : Nat} {l : Array Bool} {a : Act} {w : World} (hi : ops[i]? = some oi)
    (hs : Region.noSelect ops = true) (hf : Region.free md ops l i = true) (hr : (Region.ready md ops l).contains i = true) (hik : (i != k) = true)
    (hQ : ∀ c a w, Q (.panic c) (a.put oi.dst v) w → Q (.panic c) a w) (hy : YieldsIf P ops (fun _ => True) oi v a) (hC : C w)
    (h : wpAnyK P md ops Q k C f (l.setIfInBounds i true) (a.put oi.dst v) w) : wpAnyK P md ops Q k C (f + 1) l a w :=
  wpAnyK_firstF hi (Region.noSelect_spec hs) hQ (bne_iff_ne.1 hik) f l a w (Region.free_spec hi hf) (by simpa using hr) hy (fun _ => hC) h
def AllReadyK (P : Program) (md : Region.Mode) (ops : Array Oper) (Q : Exit → Act → World → Prop) (k : Nat) (C : World → Prop) (f : Nat) (l : Array Bool) (a : Act) (w : World) (rs : List Nat) : Prop :=
  ∀ i ∈ rs, wpOp P ops Q i (fun a' w' => ((l.setIfInBounds i true).getD k true = false → C w') ∧ wpAnyK P md ops Q k C f (l.setIfInBounds i true) a' w') a w
theorem AllReadyK.nil {f : Nat} {l : Array Bool} {a : Act} {w : World} : AllReadyK P md ops Q k C f l a w [] := fun _ h => by cases h
/-- An operation other than k. -/
theorem AllReadyK.cons {f : Nat} {l : Array Bool} {a : Act} {w : World} {i : Nat} {o : Oper} {rs : List Nat} (ho : ops[i]? = some o)
    (h : ∀ K' : Act → World → Prop, Shut (∀ a w, C w → (C w → wpAnyK P md ops Q k C f (l.setIfInBounds i true) a w) → K' a w) → if Region.wanted o (yielded ops a.tmps) = true then Oper.wp P o a w K' Q else K' (a.put o.dst undef) w)
    (hs : AllReadyK P md ops Q k C f l a w rs) : AllReadyK P md ops Q k C f l a w (i :: rs) := fun j hj => by
  rcases List.mem_cons.1 hj with rfl | hj
  · exact wpOp_step ho (fun K' hK => h K' (fun a w hS hW => hK a w ⟨fun _ => hS, hW hS⟩))
  · exact hs j hj
/-- The operation k itself. -/
theorem AllReadyK.key {f : Nat} {l : Array Bool} {a : Act} {w : World} {i : Nat} {o : Oper} (hk : (l.setIfInBounds i true).getD k true = true) (ho : ops[i]? = some o)
    (h : ∀ K' : Act → World → Prop, Shut (∀ a w, True → (True → wpAnyK P md ops Q k C f (l.setIfInBounds i true) a w) → K' a w) → if Region.wanted o (yielded ops a.tmps) = true then Oper.wp P o a w K' Q else K' (a.put o.dst undef) w) : AllReadyK P md ops Q k C f l a w [i] := fun j hj => by
  rcases List.mem_cons.1 hj with rfl | hj
  · exact wpOp_step ho (fun K' hK => h K' (fun a w hS hW => hK a w ⟨(by rw [hk]; intro h; cases h), hW hS⟩))
  · cases hj
theorem wpAnyK_ready {rs : List Nat} {f : Nat} {l : Array Bool} {a : Act} {w : World} (hr : Region.ready md ops l = rs) (hne : rs ≠ [])
    (h : AllReadyK P md ops Q k C f l a w rs) : wpAnyK P md ops Q k C (f + 1) l a w :=
  ⟨fun h0 => absurd (hr ▸ h0) hne, hr ▸ h⟩
theorem wpAnyK_done {l : Array Bool} {a : Act} {w : World} (hr : Region.ready md ops l = []) (h : Q .normal a w) : ∀ f, wpAnyK P md ops Q k C f l a w
  | 0 => ⟨hr, h⟩
  | _ + 1 => ⟨fun _ => h, by rw [hr]; simp⟩
theorem wp_region_key (k : Nat) (C : World → Prop) {id : Nat} {a : Act} {w : World} (hm : P.follows .mixedOrders = true) (hC : C w.drew)
    (h : C w.drew → wpAnyK P .any ops Q k C ops.size (Array.replicate ops.size false) a w.drew) : (Code.region id ops true).wp P Q a w :=
  wp_region_any hm (wpAny_of_key _ _ _ _ (h hC))
end

end Go.Proofs.YtgndblhpfjkfhaaDoor
