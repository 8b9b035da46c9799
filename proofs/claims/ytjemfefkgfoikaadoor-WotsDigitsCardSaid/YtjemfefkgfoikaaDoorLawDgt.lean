/-
  The law WotsDigits.
-/
import Derived.Test.YtjemfefkgfoikaaDoorSan4
namespace Go.Proofs.YtjemfefkgfoikaaDoor
open Go.RowKit

def ucells (f : Nat → Nat) (n : Nat) : List Value := (List.range n).map fun j => Value.int .u8 ((f j : Nat) : Int)
theorem ucells_get (f : Nat → Nat) {n k : Nat} (h : k < n) : (ucells f n).toArray[k]? = some (.int .u8 ((f k : Nat) : Int)) := by
  unfold ucells
  rw [List.getElem?_toArray, List.getElem?_map, List.getElem?_range h]
  rfl
theorem ucells_set (f g : Nat → Nat) {n k : Nat} (v : Nat) (hk : k < n) (h : ∀ j, j < n → g j = if j = k then v else f j) : (ucells f n).toArray.setIfInBounds k (.int .u8 (v : Int)) = (ucells g n).toArray := by
  have hl : ∀ f, (ucells f n).length = n := fun f => by unfold ucells; simp
  apply Array.ext_getElem?
  intro j
  rw [Array.getElem?_setIfInBounds]
  simp only [List.size_toArray, hl]
  by_cases hj : k = j
  · subst hj
    rw [if_pos rfl, if_pos hk, ucells_get g hk, h k hk, if_pos rfl]
  · rw [if_neg hj]
    rcases Nat.lt_or_ge j n with hlt | hge
    · rw [ucells_get f hlt, ucells_get g hlt, h j hlt, if_neg (fun e => hj e.symm)]
    · rw [List.getElem?_toArray, List.getElem?_toArray, List.getElem?_eq_none (by rw [hl]; exact hge), List.getElem?_eq_none (by rw [hl]; exact hge)]
/-- Byte j of what is put together of the first k digits. -/
def bk (m : List UInt8) (k j : Nat) : Nat := (m.getD j 0).toNat / 4 ^ (4 - min 4 (k - 4 * j))
theorem bk_zero (m : List UInt8) (j : Nat) : bk m 0 j = 0 := by
  unfold bk
  have := (m.getD j 0).toNat_lt
  rw [Nat.zero_sub]
  exact Nat.div_eq_of_lt this
theorem bk_all (m : List UInt8) (j k : Nat) (hk : 64 ≤ k) (hj : j < 16) : bk m k j = (m.getD j 0).toNat := by
  unfold bk
  rw [show 4 - min 4 (k - 4 * j) = 0 from by omega]
  exact Nat.div_one _
theorem bk_bound (m : List UInt8) (k : Nat) : bk m k (k / 4) ≤ 63 := by
  unfold bk
  have h1 := (m.getD (k / 4) 0).toNat_lt
  have h2 : 4 ^ 1 ≤ 4 ^ (4 - min 4 (k - 4 * (k / 4))) := Nat.pow_le_pow_right (by omega) (by omega)
  have h3 : (m.getD (k / 4) 0).toNat / 4 ^ (4 - min 4 (k - 4 * (k / 4))) ≤ (m.getD (k / 4) 0).toNat / 4 ^ 1 := Nat.div_le_div_left h2 (by omega)
  omega
theorem bk_step (m : List UInt8) (k j : Nat) : bk m (k + 1) j = if j = k / 4 then 4 * bk m k (k / 4) + dig m k else bk m k j := by
  by_cases h : j = k / 4
  · subst h
    rw [if_pos rfl]
    unfold bk dig
    generalize (m.getD (k / 4) 0).toNat = x
    have e1 : 4 - min 4 (k + 1 - 4 * (k / 4)) = 3 - k % 4 := by omega
    have e2 : 4 - min 4 (k - 4 * (k / 4)) = (3 - k % 4) + 1 := by omega
    rw [e1, e2, Nat.pow_succ, ← Nat.div_div_eq_div_mul]
    generalize x / 4 ^ (3 - k % 4) = y
    omega
  · rw [if_neg h]
    unfold bk
    congr 2
    omega
theorem ucells_bytes (m : List UInt8) (hm : m.length = 16) (k : Nat) (hk : 64 ≤ k) : (ucells (bk m k) 16).toArray = (m.map u8v).toArray := by
  congr 1
  apply List.ext_getElem?
  intro j
  rcases Nat.lt_or_ge j 16 with h | h
  · have := ucells_get (bk m k) h
    rw [List.getElem?_toArray] at this
    rw [this, bk_all m j k hk h, List.getElem?_map, List.getD_eq_getElem?_getD, List.getElem?_eq_getElem (by omega)]
    rfl
  · rw [List.getElem?_eq_none (by unfold ucells; simp; omega), List.getElem?_eq_none (by simp; omega)]
/-- The first n digits of the checksum, as a number. -/
def ckTo (m : List UInt8) : Nat → Nat
  | 0 => 0
  | n + 1 => 4 * ckTo m n + digC m (64 + n)
theorem ckTo_end (m : List UInt8) : ckTo m 4 = chk m := by
  rw [chk_base]
  have e : ckTo m 4 = 4 * (4 * (4 * (4 * 0 + digC m 64) + digC m 65) + digC m 66) + digC m 67 := rfl
  omega
theorem ckTo_le (m : List UInt8) : ∀ n, n ≤ 4 → ckTo m n ≤ 255
  | 0, _ => by rw [ckTo]; omega
  | 1, _ => by have := digC_le m 64; rw [ckTo, ckTo]; simp; omega
  | 2, _ => by have := digC_le m 64; have := digC_le m 65; simp only [ckTo]; simp; omega
  | 3, _ => by have := digC_le m 64; have := digC_le m 65; have := digC_le m 66; simp only [ckTo]; simp; omega
  | 4, _ => by rw [ckTo_end]; have := chk_le m; omega
  | n + 5, h => by omega
theorem or4 (y d : Nat) (hy : y ≤ 63) (hd : d ≤ 3) : bits BinOp.or IntKind.u8 ((y : Int) * 4) (d : Int) = ((4 * y + d : Nat) : Int) := by
  rw [show ((y : Int) * 4) = ((4 * y : Nat) : Int) from by omega, u8_or_nat _ _ (by omega) (by omega), nat_join 2 (4 * y) d (by omega) (by omega)]

set_option maxRecDepth 100000 in
set_option maxHeartbeats 4000000 in
theorem dgt_any (m : List UInt8) (w : World) (hM : ShaMem w) (hm : m.length = 16) :
    Calls Tryd.prog 5 #[.agg (m.map u8v).toArray] w fun e w' => e = .returned (.bool true) ∧ Ext w w' := by
  have HM := hide hM
  have HDg := hide (fun (W : World) => digits_any m W hm)
  have heq : ∀ W, (binOp .eql 23 (.agg (m.map u8v).toArray) (.agg (m.map u8v).toArray)).run Tryd.prog W = .ok (.bool true) W := same16 rfl hm
  have HU := hide (fun k hk => ucells_bytes m hm k hk)
  obtain ⟨arr, harr⟩ : ∃ r, (m.map u8v).toArray = r := ⟨_, rfl⟩
  have hasz : arr.size = 16 := by rw [← harr]; simpa using hm
  rw [harr] at HDg heq HU ⊢
  clear harr hM
  go_enter Tryd.func5, Tryd.ntmps5
  go_wp2_with (refine wpList_loadB (ty := 23) (t := 23) (x := .tmp 1) rfl rfl digest_wide rfl (Blk.new w _ _) hasz ?_)
  refine (unhide HDg _).mono ?_
  rintro e w1 ⟨g, rfl, hb1, hg, hE1⟩
  have H1 := hide (And.intro hb1 (And.intro ((Blk.new w 23 arr).ext hE1) (((Ext.refl w).alloc _).trans hE1)))
  clear hb1 hE1 hg
  go_wp2_with fail
  go_loopw [5, 6, 16] (fun s c i wr => ∃ k : Nat, k ≤ 68 ∧ i = .int .i64 k ∧ s = .int .i64 ((sumTo m (min k 64) : Nat) : Int) ∧ c = .int .i64 ((ckTo m (k - 64) : Nat) : Int) ∧ Hid (Blk wr g 68 (icells (digC m) 68).toArray ∧ Blk wr w.heap.size 23 arr ∧ Blk wr w1.heap.size 23 (ucells (bk m k) 16).toArray ∧ Ext w wr)) (fun _ _ i _ => 68 - (intOf i).toNat)
  case atStart => exact ⟨0, by omega, rfl, rfl, rfl, hide ⟨(unhide H1).1.alloc _, (unhide H1).2.1.alloc _, by rw [show ucells (bk m 0) 16 = ucells (fun _ => 0) 16 from by unfold ucells; apply List.map_congr_left; intro j _; rw [bk_zero]]; exact Blk.new w1 _ _, (unhide H1).2.2.alloc _⟩⟩
  case round =>
    obtain ⟨k, hk, rfl, rfl, rfl, HI⟩ := hrel
    have hgw : g < w1.heap.size := (unhide H1).1.lt
    have hww : w.heap.size < w1.heap.size := (unhide H1).2.1.lt
    by_cases hlt : k < 68
    · have hcd : wr.cell? ⟨g, k, none⟩ = some (.int .i64 ((digC m k : Nat) : Int)) := by rw [(unhide HI).1.cell]; exact icells_getA _ hlt
      have hd := digC_le m k
      have hkI : (k : Int) < 68 := by omega
      by_cases h64 : k < 64
      · have HST := hide (show digC m k = dig m k from by unfold digC; rw [if_pos h64])
        have HS := hide (show sumTo m (min (k + 1) 64) = sumTo m (min k 64) + (3 - digC m k) from by rw [unhide HST, show min (k + 1) 64 = k + 1 from by omega, show min k 64 = k from by omega]; rfl)
        have hs := sumTo_le m (min k 64)
        have hcb : wr.cell? ⟨w1.heap.size, k / 4, none⟩ = some (.int .u8 ((bk m k (k / 4) : Nat) : Int)) := by rw [(unhide HI).2.2.1.cell]; exact ucells_get _ (by omega)
        have hfb := (unhide HI).2.2.1.frozen (k / 4)
        have hbb := bk_bound m k
        have HB := hide (fun j (hj : j < 16) => (bk_step m k j).trans (by rw [← unhide HST]))
        have HO := hide (or4 (bk m k (k / 4)) (digC m k) hbb hd)
        generalize bk m k (k / 4) = y at *
        generalize digC m k = d at *
        generalize sumTo m (min k 64) = s at *
        have hk64 : (k : Int) < 64 := by omega
        have hd0 : ¬ (3 : Int) < (d : Int) := by omega
        go_wp2
        go_roundw
        case rel =>
          rw [unhide HO]
          refine ⟨k + 1, by omega, by go_num, int_eq (by rw [unhide HS]; omega), by rw [show k + 1 - 64 = k - 64 from by omega], hide ⟨(unhide HI).1.far' (by omega) _ _, (unhide HI).2.1.far' (by omega) _ _, ?_, (unhide HI).2.2.2.setCell (p := ⟨w1.heap.size, k / 4, none⟩) (unhide H1).2.2.size' _⟩⟩
          have := (unhide HI).2.2.1.set_ (k / 4) (.int .u8 ((4 * y + d : Nat) : Int))
          rw [ucells_set (bk m k) (bk m (k + 1)) (4 * y + d) (by omega) (unhide HB)] at this
          exact this
        case measure => simp [intOf]; omega
      · have HC := hide (show ckTo m (k + 1 - 64) = 4 * ckTo m (k - 64) + digC m k from by rw [show k + 1 - 64 = (k - 64) + 1 from by omega, ckTo, show 64 + (k - 64) = k from by omega])
        have hcl := ckTo_le m (k - 64) (by omega)
        have HB := hide (show ucells (bk m (k + 1)) 16 = ucells (bk m k) 16 from by unfold ucells; apply List.map_congr_left; intro j hj; rw [bk_all m j (k + 1) (by omega) (List.mem_range.1 hj), bk_all m j k (by omega) (List.mem_range.1 hj)])
        have e64 : min k 64 = 64 := by omega
        have e65 : min (k + 1) 64 = 64 := by omega
        generalize digC m k = d at *
        generalize ckTo m (k - 64) = c at *
        have hk64 : ¬ (k : Int) < 64 := by omega
        have hd0 : ¬ (3 : Int) < (d : Int) := by omega
        rw [e64]
        go_wp2
        go_roundw
        case rel => exact ⟨k + 1, by omega, by go_num, by rw [e65], int_eq (by rw [unhide HC]; omega), hide ⟨(unhide HI).1, (unhide HI).2.1, by rw [unhide HB]; exact (unhide HI).2.2.1, (unhide HI).2.2.2⟩⟩
        case measure => simp [intOf]; omega
    · obtain rfl : k = 68 := by omega
      have hA := (unhide HI).2.2.1
      rw [unhide HU 68 (by omega)] at hA
      have HA := hide (And.intro hA (And.intro (unhide HI).2.1 (unhide HI).2.2.2))
      have e1 : sumTo m (min 68 64) = chk m := rfl
      have e2 : ckTo m (68 - 64) = chk m := ckTo_end m
      rw [e1, e2]
      clear hA HI e1 e2
      have HSan := hide (sanity4_any wr ((unhide HM).ext (unhide HA).2.2))
      go_wp2_with fail
      refine (unhide HSan).mono ?_
      rintro e w2 ⟨rfl, hE2⟩
      have H2 := hide hE2
      clear hE2
      go_wp2_with (first
        | (refine wpList_loadMG (by rfl) (ty := 23) (x := .tmp 4) rfl digest_wide rfl ((unhide HA).1.ext (unhide H2)).range (by rw [Array.length_toList]; exact hasz) ?_)
        | (refine wpList_loadMG (by rfl) (ty := 23) (x := .tmp 1) rfl digest_wide rfl ((unhide HA).2.1.ext (unhide H2)).range (by rw [Array.length_toList]; exact hasz) ?_))
      go_ret
      exact ⟨rfl, (unhide HA).2.2.trans (unhide H2)⟩

end Go.Proofs.YtjemfefkgfoikaaDoor
