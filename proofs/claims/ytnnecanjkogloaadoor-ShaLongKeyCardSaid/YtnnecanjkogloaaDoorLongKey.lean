/-
  The law ShaLongKey.
-/
import Derived.Test.YtnnecanjkogloaaDoorShort
import Derived.Test.YtnnecanjkogloaaDoorZero
import Derived.Deep.RegionHeld3
namespace Go.Proofs.YtnnecanjkogloaaDoor
open Go.RowKit

theorem hmac_long (key b : List UInt8) (h : 64 < key.length) : hmac (sha key) b = hmac key b := by
  rw [hmac_eq, hmac_eq, if_pos h, if_neg (by rw [sha_length]; omega)]
theorem hmac_zeros (key b : List UInt8) (n : Nat) (h : key.length + n ≤ 64) : hmac (key ++ List.replicate n 0) b = hmac key b := by
  rw [hmac_eq, hmac_eq, if_neg (by simp; omega), if_neg (by omega)]
  have e : ∀ x, padOf (key ++ List.replicate n 0) x = padOf key x := fun x => by
    unfold padOf padN
    refine List.map_congr_left fun i hi => ?_
    congr 1
    simp only [List.getD_eq_getElem?_getD, List.getElem?_append, List.getElem?_replicate]
    by_cases h1 : i < key.length
    · rw [if_pos h1]
    · rw [if_neg h1, List.getElem?_eq_none (by omega)]
      split <;> rfl
  rw [e, e]

set_option maxRecDepth 100000 in
set_option maxHeartbeats 2000000 in
theorem long_any (key b : List UInt8) (kv bv : Value) (z : Int) (w : World) (hM : ShaMem w) (hk : Reads w 1 kv key.length (key.map u8v)) (hb : Reads w 1 bv b.length (b.map u8v)) (hz : 0 ≤ z ∧ z < 256) :
    Calls Tryd.prog 4 #[kv, bv, .int .u8 z] w fun e w' => e = .returned (.bool true) ∧ Ext w w' := by
  have HM := hide hM
  have HB0 := hide hb
  have HK0 := hide hk
  obtain ⟨A, c, rfl⟩ : ∃ A c, kv = .slice A key.length c := by obtain ⟨_, A, c, h, _⟩ := hk; exact ⟨A, c, h⟩
  obtain ⟨A2, c2, rfl⟩ : ∃ A c, bv = .slice A b.length c := by obtain ⟨_, A, c, h, _⟩ := hb; exact ⟨A, c, h⟩
  have hkm := hk.len_le
  have hbm := hb.len_le
  unfold maxLen at hkm hbm
  clear hM hk hb
  by_cases h300 : key.length ≤ 300
  · have d1 : decide ((300 : Int) < (key.length : Int)) = false := decide_eq_false (by omega)
    by_cases hb300 : b.length ≤ 300
    · have d2 : decide ((300 : Int) < (b.length : Int)) = false := decide_eq_false (by omega)
      by_cases h64 : 64 < key.length
      · have d3 : decide ((64 : Int) < (key.length : Int)) = true := decide_eq_true (by omega)
        obtain ⟨k', hk'⟩ : ∃ k', sha key = k' := ⟨_, rfl⟩
        have hkl' : k'.length = 32 := by rw [← hk']; exact sha_length _
        have HL := hide (show hmac k' b = hmac key b from by rw [← hk']; exact hmac_long key b h64)
        have HKK := hide hk'
        clear hk'
        obtain ⟨r, hr⟩ : ∃ r, ((hmac key b).map u8v).toArray = r := ⟨_, rfl⟩
        have heq : ∀ W, (binOp .eql 27 (.agg r) (.agg r)).run Tryd.prog W = .ok (.bool true) W := fun W => by
          rw [← hr, eq32 (hmac_length _ _) (hmac_length _ _)]
          simp
        have HR := hide hr
        have HS := hide (show (k'.map u8v).toArray.size = 32 from by simpa using hkl')
        clear hr
        go_enter Tryd.func4, Tryd.ntmps4
        go_wp2_with fail
        refine (sanity_any _ (unhide HM)).mono ?_
        rintro e w1 ⟨rfl, hE1⟩
        have H1 := hide hE1
        clear hE1
        go_wp2_with fail
        refine (sum_any key _ _ ((unhide HM).ext (unhide H1)) ((unhide HK0).ext (unhide H1)) (by omega)).mono ?_
        rintro e w2 ⟨rfl, hE2⟩
        rw [unhide HKK]
        have H2 := hide ((unhide H1).trans hE2)
        clear hE2
        go_wp2_with (refine wpList_storeB (ty := 27) (t := 27) (x := .tmp 8) (y := .tmp 24) rfl rfl arr32_wide rfl rfl (Blk.new w2 _ _) rfl (unhide HS) (bytes_one _) ?_; intro w3 hb3 hc3 hz3; have H3 := hide (And.intro hb3 (And.intro hc3 hz3)); clear hb3 hc3 hz3)
        have H4 := hide (show Ext w w3 from ((unhide H2).alloc _).trans' (unhide H3).2.1 (fun _ _ h => h.elim) (fun i hi e => by have := (unhide H2).size'; omega))
        have HQ := hide (show Reads w3 1 (.slice (some ⟨w2.heap.size, 0, none⟩) 32 32) k'.length (k'.map u8v) from by
          have := Reads.of_blk (unhide H3).1 (i := 0) (n := 32) (c := 32) (by rw [unhide HS]; omega) (by omega) (by unfold maxLen; omega)
          simp only [List.drop_zero] at this
          rw [List.take_of_length_le (by rw [List.length_map]; omega)] at this
          rw [hkl']
          exact this)
        clear H3
        have HT1 := hide True.intro
        go_region_held3 (fun w' => Ext w3 w') (first | exact Ext.refl _ | exact (Ext.refl _).drew | exact Ext.drew (by assumption) | assumption)
          (first
            | (clear HT1; go_at_call 19; refine (hmac_any key b (.slice A key.length c) _ _ ((unhide HM).ext ((unhide H4).trans (by assumption))) ((unhide HK0).ext ((unhide H4).trans (by assumption))) ((unhide HB0).ext ((unhide H4).trans (by assumption))) (by omega) (by omega)).mono ?_; rintro e w5 ⟨rfl, hE5⟩; rw [unhide HR]; have hS5 : Ext w3 w5 := Ext.trans (by assumption) hE5; clear hE5)
            | (go_at_call 19; refine (hmac_any k' b _ _ _ ((unhide HM).ext ((unhide H4).trans (by assumption))) ((unhide HQ).ext (by assumption)) ((unhide HB0).ext ((unhide H4).trans (by assumption))) (by omega) (by omega)).mono ?_; rintro e w6 ⟨rfl, hE6⟩; rw [unhide HL, unhide HR]; have hS6 : Ext w3 w6 := Ext.trans (by assumption) hE6; clear hE6))
        go_wp2
        go_ret
        exact ⟨rfl, (unhide H4).trans hS6⟩
      · have d3 : decide ((64 : Int) < (key.length : Int)) = false := decide_eq_false (by omega)
        obtain ⟨n, hn, hn64⟩ : ∃ n : Nat, Int.tmod z (65 - (key.length : Int)) = (n : Int) ∧ key.length + n ≤ 64 := by
          refine ⟨(z % (65 - (key.length : Int))).toNat, ?_, ?_⟩
          · rw [Int.tmod_eq_emod_of_nonneg hz.1]
            have := Int.emod_nonneg z (show (65 - (key.length : Int)) ≠ 0 by omega)
            omega
          · have := Int.emod_nonneg z (show (65 - (key.length : Int)) ≠ 0 by omega)
            have := Int.emod_lt_of_pos z (show (0 : Int) < 65 - (key.length : Int) by omega)
            omega
        have d4 : ¬ ((65 : Int) - (key.length : Int) = 0) := by omega
        have d5 : wrap64 (65 - (key.length : Int)) = 65 - (key.length : Int) := by unfold wrap64; omega
        have HL := hide (hmac_zeros key b n hn64)
        obtain ⟨r, hr⟩ : ∃ r, ((hmac key b).map u8v).toArray = r := ⟨_, rfl⟩
        have heq : ∀ W, (binOp .eql 27 (.agg r) (.agg r)).run Tryd.prog W = .ok (.bool true) W := fun W => by
          rw [← hr, eq32 (hmac_length _ _) (hmac_length _ _)]
          simp
        have HR := hide hr
        clear hr
        go_enter Tryd.func4, Tryd.ntmps4
        go_wp2_with fail
        refine (sanity_any _ (unhide HM)).mono ?_
        rintro e w1 ⟨rfl, hE1⟩
        have H1 := hide hE1
        clear hE1
        go_wp2_with (first
          | (at_builtin; refine wpList_appG (by rfl) rfl u8_row rfl (own_empty _ w1.heap.size _ _ (Nat.le_refl _)) rfl ((unhide HK0).ext ((unhide H1).alloc _)) (AllOne.u8 _) (by omega) (by simp) ?_; intro A3 c3 w2 ho2 hc2 hv2; have H2 := hide (show w2.ownsRow w1.heap.size 5 1 (.slice A3 key.length c3) key.length (key.map u8v) ∧ Ext w1 w2 from ⟨by simpa only [Nat.zero_add, List.nil_append] using ho2, ((Ext.refl w1).alloc _).trans' hc2 (fun _ _ h => h) (fun i hi e => by have e' : some w1.heap.size = some i := e; injection e' with e'; omega)⟩); clear ho2 hc2 hv2)
          | (at_builtin; refine wpList_appZG (by rfl) rfl u8_row u8_zero Tryd.underlying9 Tryd.underlying3 rfl (unhide H2).1 rfl rfl (by omega) (unhide H2).2.size' ?_; intro A4 c4 w3 ho3 hc3; have H3 := hide (show w3.ownsRow w1.heap.size 5 1 (.slice A4 (key.length + n) c4) (key.length + n) (key.map u8v ++ List.replicate n (.int .u8 0)) ∧ Ext w1 w3 from ⟨ho3, (unhide H2).2.trans' hc3 (fun _ _ h => h) (fun i hi e => by have := ((unhide H2).1.lt i e).1; omega)⟩); clear ho3 hc3))
        have HQ := hide (show Reads w3 1 (.slice A4 (key.length + n) c4) (key ++ List.replicate n 0).length ((key ++ List.replicate n 0).map u8v) from by
          have := Reads.of_own (unhide H3).1
          rw [List.length_append, List.length_replicate, List.map_append, List.map_replicate]
          exact this)
        have H4 := hide ((unhide H1).trans (unhide H3).2)
        have HN := hide (show (key ++ List.replicate n (0 : UInt8)).length ≤ 1000000 from by rw [List.length_append, List.length_replicate]; omega)
        clear H2 H3
        refine (hmac_any (key ++ List.replicate n 0) b _ _ _ ((unhide HM).ext (unhide H4)) (unhide HQ) ((unhide HB0).ext (unhide H4)) (unhide HN) (by omega)).mono ?_
        rintro e w5 ⟨rfl, hE5⟩
        rw [unhide HL, unhide HR]
        have H5 := hide ((unhide H4).trans hE5)
        clear hE5
        go_wp2_with fail
        refine (hmac_any key b _ _ _ ((unhide HM).ext (unhide H5)) ((unhide HK0).ext (unhide H5)) ((unhide HB0).ext (unhide H5)) (by omega) (by omega)).mono ?_
        rintro e w6 ⟨rfl, hE6⟩
        rw [unhide HR]
        have H6 := hide ((unhide H5).trans hE6)
        clear hE6
        go_wp2
        go_ret
        exact ⟨rfl, unhide H6⟩
    · have d2 : decide ((300 : Int) < (b.length : Int)) = true := decide_eq_true (by omega)
      go_enter Tryd.func4, Tryd.ntmps4
      go_wp2_with fail
      refine (sanity_any _ (unhide HM)).mono ?_
      rintro e w1 ⟨rfl, hE1⟩
      have H1 := hide hE1
      clear hE1
      go_wp2
      go_ret
      exact ⟨rfl, unhide H1⟩
  · have d1 : decide ((300 : Int) < (key.length : Int)) = true := decide_eq_true (by omega)
    go_enter Tryd.func4, Tryd.ntmps4
    go_wp2_with fail
    refine (sanity_any _ (unhide HM)).mono ?_
    rintro e w1 ⟨rfl, hE1⟩
    have H1 := hide hE1
    clear hE1
    go_wp2
    go_ret
    exact ⟨rfl, unhide H1⟩

end Go.Proofs.YtnnecanjkogloaaDoor
