
/-
  sha.HMAC.
-/
import Derived.Test.YtoefmncdloffaaaDoorShaF
import Derived.Test.YtoefmncdloffaaaDoorShaG
import Derived.Deep.RegionLaw
namespace Go.Proofs.YtoefmncdloffaaaDoor
open Go.RowKit

theorem hmac_eq (key m : List UInt8) : hmac key m = sha (padOf (if key.length > 64 then sha key else key) 92 ++ sha (padOf (if key.length > 64 then sha key else key) 54 ++ m)) := rfl
theorem sha_length (l : List UInt8) : (sha l).length = 32 := by
  have h : (shaBlocks ((shaPad l).length / 64) shaH0 (shaPad l)).length = 8 := by rw [← shaFold_blocks]; exact shaFold_length _ _ _ rfl
  have h2 := outAt_length (shaBlocks ((shaPad l).length / 64) shaH0 (shaPad l)) 8 (by omega)
  unfold outAt at h2
  rw [List.take_of_length_le (by omega)] at h2
  exact h2
theorem hmac_length (key m : List UInt8) : (hmac key m).length = 32 := by rw [hmac_eq]; exact sha_length _

set_option maxRecDepth 100000 in
set_option maxHeartbeats 4000000 in
theorem hmac_any (key b : List UInt8) (kv bv : Value) (w : World) (hM : ShaMem w) (hk : Reads w 1 kv key.length (key.map u8v)) (hb : Reads w 1 bv b.length (b.map u8v)) (hkl : key.length ≤ 1000000) (hbl : b.length ≤ 1000000) :
    Calls Tryd.prog 53 #[kv, bv] w fun e w' => e = .returned (.agg ((hmac key b).map u8v).toArray) ∧ Ext w w' := by
  have HM := hide hM
  have HB := hide hb
  obtain ⟨A, c, rfl⟩ : ∃ A c, kv = .slice A key.length c := by obtain ⟨_, A, c, h, _⟩ := hk; exact ⟨A, c, h⟩
  have HK0 := hide hk
  clear hM hk hb
  rw [hmac_eq]
  by_cases hlen : key.length > 64
  · rw [if_pos hlen]
    have d64 : decide ((64 : Int) < (key.length : Int)) = true := decide_eq_true (by omega)
    have hl' : (sha key).length ≤ 64 := by rw [sha_length]; omega
    obtain ⟨k', hk'⟩ : ∃ k', sha key = k' := ⟨_, rfl⟩
    rw [hk'] at hl' ⊢
    have HKK := hide hk'
    clear hk' hlen
    go_enter Tryd.func53, Tryd.ntmps53
    go_wp2_with fail
    refine (sum_any key _ _ ((unhide HM).ext (((Ext.refl w).alloc _).alloc _)) ((unhide HK0).ext (((Ext.refl w).alloc _).alloc _)) (by omega)).mono ?_
    rintro e w1 ⟨rfl, hE1⟩
    clear d64
    rw [unhide HKK]
    have H1 := hide hE1
    clear hE1
    have HS1 := hide (show ((k'.map u8v).toArray).size = 32 from by rw [← unhide HKK]; simpa using sha_length _)
    have c0 : w1.cell? ⟨w.heap.size, 0, none⟩ = some (.slice A key.length c) := Ext.cellv (unhide H1) (old_cell _ _ (new_cell _ _ _ rfl rfl))
    have f0 : w1.frozen? ⟨w.heap.size, 0, none⟩ = false := Ext.frozenv (unhide H1) (((Blk.new w 29 #[.slice A key.length c]).alloc _).frozen 0) (by simp; omega)
    have HC0 := hide (And.intro c0 (And.intro f0 (lt_of_cell c0)))
    clear c0 f0
    go_wp2_with (refine wpList_storeB (ty := 91) (t := 91) (x := .tmp 5) (y := .tmp 12) rfl rfl arr32_wide rfl rfl (Blk.new w1 _ _) rfl (unhide HS1) (bytes_one _) ?_; intro w2 hb2 hc2 hz2; have c0 := Chg.cellv (hc2) (old_cell _ _ (unhide HC0).1) (Nat.ne_of_lt (unhide HC0).2.2); have f0 := Chg.frozenv hc2 (Ext.frozenv ((Ext.refl w1).alloc _) (unhide HC0).2.1 (unhide HC0).2.2) (by have := (unhide HC0).2.2; simp; omega) (Nat.ne_of_lt (unhide HC0).2.2); have HW2 := hide (And.intro hb2 (And.intro hc2 hz2)); clear hb2 hc2 hz2)
    obtain ⟨kv', hkv'⟩ : ∃ v, v = Value.slice (some ⟨w1.heap.size, 0, none⟩) 32 32 := ⟨_, rfl⟩
    have hwl : w.heap.size + 2 ≤ w1.heap.size := by have := (unhide H1).size'; simp at this; omega
    have e32 : k'.length = 32 := by rw [← unhide HKK]; exact sha_length _
    have hX0 : Chg (fun k => k = w.heap.size) w1 (w2.setCell ⟨w.heap.size, 0, none⟩ kv') := by
      have h1 : Chg (fun k => k = w.heap.size) w1 w2 := ((Ext.refl w1).alloc _).trans' (unhide HW2).2.1 (fun _ _ h => h.elim) (fun i hi e => by omega)
      exact h1.setCell (p := ⟨w.heap.size, 0, none⟩) (.inl rfl) _
    have HK : Hid ((w2.setCell ⟨w.heap.size, 0, none⟩ kv').cell? ⟨w.heap.size, 0, none⟩ = some kv' ∧ Reads (w2.setCell ⟨w.heap.size, 0, none⟩ kv') 1 kv' k'.length (k'.map u8v) ∧ Ext w (w2.setCell ⟨w.heap.size, 0, none⟩ kv') ∧
        Blk (w2.setCell ⟨w.heap.size, 0, none⟩ kv') (w.heap.size + 1) 91 (Array.replicate 32 (.int .u8 0))) := hide (by
      refine ⟨World.cell?_setCell_same' _ _ _ (by rw [c0]; rfl), ?_, ?_, ?_⟩
      · have hb := (unhide HW2).1.far' (show ¬ w1.heap.size = w.heap.size by omega) 0 kv'
        have := Reads.of_blk hb (i := 0) (n := 32) (c := 32) (by rw [unhide HS1]; omega) (by omega) (by unfold maxLen; omega)
        simp only [List.drop_zero] at this
        rw [List.take_of_length_le (by rw [List.length_map]; omega)] at this
        rw [e32, hkv']
        rw [hkv'] at this
        exact this
      · exact ((((Ext.refl w).alloc _).alloc _).trans (unhide H1)).trans' hX0 (fun _ _ h => h) (fun i hi e => by omega)
      · have h1 : Blk ((w.alloc (.cells #[.slice A key.length c] 29)).alloc (.cells (Array.replicate 32 (.int .u8 0)) 91)) (w.heap.size + 1) 91 (Array.replicate 32 (.int .u8 0)) := Blk.new' _ _ _ (by simp)
        exact (h1.ext (unhide H1)).chg hX0 (by omega))
    subst hkv'
    clear c0 f0 hX0 hwl e32 HC0
    have HL' := hide hl'
    go_wp2_with fail
    refine (pad_any 54 _ rfl k' w.heap.size (.slice (some ⟨w1.heap.size, 0, none⟩) 32 32) _ (unhide HK).1 (unhide HK).2.1 hl').mono ?_
    rintro e w2 ⟨g2, rfl, hR2, hE2⟩
    have H2 := hide (And.intro hR2 hE2)
    clear hR2 hE2
    go_wp2_with (at_builtin; refine wpList_appF rfl rfl u8_row rfl (unhide H2).1 (by omega) rfl (((unhide HB).ext (unhide HK).2.2.1).ext (unhide H2).2) (AllOne.u8 b) (by omega) ?_; intro A3 c3 w3 hr3 hE3; have H3 := hide (And.intro hr3 hE3); clear hr3 hE3)
    refine (sum_any (padOf k' 54 ++ b) _ _ (((unhide HM).ext (unhide HK).2.2.1).ext ((unhide H2).2.trans (unhide H3).2)) ?hr (by rw [List.length_append, padOf_length]; omega)).mono ?_
    case hr => have := (unhide H3).1; rw [← List.map_append] at this; rw [List.length_append, padOf_length]; exact this
    rintro e w4 ⟨rfl, hE4⟩
    obtain ⟨in1, hin1⟩ : ∃ r, ((sha (padOf k' 54 ++ b)).map u8v).toArray = r := ⟨_, rfl⟩
    have HI1 := hide hin1
    have HI2 := hide (show in1.size = 32 ∧ in1.all (·.oneCell') = true from by rw [← hin1]; exact ⟨by simpa using sha_length _, bytes_one _⟩)
    rw [hin1]
    have H4 := hide ((unhide H2).2.trans ((unhide H3).2.trans hE4))
    clear hin1 hE4
    go_wp2_with (refine wpList_storeB (ty := 91) (t := 91) (x := .tmp 7) (y := .tmp 19) rfl rfl arr32_wide rfl rfl (Blk.new w4 _ _) rfl (unhide HI2).1 (unhide HI2).2 ?_; intro w5 hb5 hc5 hz5; have H5 := hide (And.intro hb5 (And.intro hc5 hz5)); clear hb5 hc5 hz5)
    have HE5 := hide ((unhide H4).trans (((Ext.refl w4).alloc (.cells #[Value.int IntKind.u8 0, Value.int IntKind.u8 0, Value.int IntKind.u8 0, Value.int IntKind.u8 0, Value.int IntKind.u8 0, Value.int IntKind.u8 0, Value.int IntKind.u8 0, Value.int IntKind.u8 0, Value.int IntKind.u8 0, Value.int IntKind.u8 0, Value.int IntKind.u8 0, Value.int IntKind.u8 0, Value.int IntKind.u8 0, Value.int IntKind.u8 0, Value.int IntKind.u8 0, Value.int IntKind.u8 0, Value.int IntKind.u8 0, Value.int IntKind.u8 0, Value.int IntKind.u8 0, Value.int IntKind.u8 0, Value.int IntKind.u8 0, Value.int IntKind.u8 0, Value.int IntKind.u8 0, Value.int IntKind.u8 0, Value.int IntKind.u8 0, Value.int IntKind.u8 0, Value.int IntKind.u8 0, Value.int IntKind.u8 0, Value.int IntKind.u8 0, Value.int IntKind.u8 0, Value.int IntKind.u8 0, Value.int IntKind.u8 0] 91)).trans' (unhide H5).2.1 (fun _ _ h => h) (fun i hi e => by omega)))
    have HR7 := hide (show Reads w5 1 (.slice (some ⟨w4.heap.size, 0, none⟩) 32 32) 32 ((sha (padOf k' 54 ++ b)).map u8v) from by
      have := Reads.of_blk (unhide H5).1 (i := 0) (n := 32) (c := 32) (by rw [(unhide HI2).1]; omega) (by omega) (by unfold maxLen; omega)
      rw [← unhide HI1] at this
      simp only [List.drop_zero] at this
      rwa [List.take_of_length_le (by rw [List.length_map, sha_length]; omega)] at this)
    go_region_law (first
      | (refine step_appF (s := .tmp 21) (x := .tmp 22) rfl rfl u8_row rfl (unhide H6).1 (by omega) rfl ((unhide HR7).ext (((Ext.refl w5).drew).trans (unhide H6).2)) (AllOne.u8 _) (by omega) ?_; intro A8 c8 w8 hr8 hE8; have H8 := hide (And.intro hr8 hE8); clear hr8 hE8)
      | (go_simp; go_at_call 93; refine (pad_any 92 _ rfl k' w.heap.size (.slice (some ⟨w1.heap.size, 0, none⟩) 32 32) _ (Ext.cellv ((unhide HE5).drew) (unhide HK).1) ((unhide HK).2.1.ext ((unhide HE5).drew)) hl').mono ?_; rintro e w6 ⟨g6, rfl, hR6, hE6⟩; have H6 := hide (And.intro hR6 hE6); clear hR6 hE6)
      | (rename_i K hK; go_simp; go_at_call 92; refine (sum_any (padOf k' 92 ++ sha (padOf k' 54 ++ b)) _ _ ((((unhide HM).ext (unhide HK).2.2.1).ext (unhide HE5)).ext (((Ext.refl w5).drew).trans ((unhide H6).2.trans (unhide H8).2))) ?_ ?_).mono ?_; (focus (have := (unhide H8).1; rw [← List.map_append] at this; rw [List.length_append, padOf_length, sha_length]; exact this)); (focus (rw [List.length_append, padOf_length, sha_length]; omega)); rintro e w9 ⟨rfl, hE9⟩; have H9 := hide ((unhide HE5).trans (((Ext.refl w5).drew).trans ((unhide H6).2.trans ((unhide H8).2.trans hE9)))); clear hE9
         dsimp only
         refine hK _ _ ?_
         clear hK K
         refine wpAny_ready (rs := [5]) (by kernel_rfl) (by simp) (AllReady.cons rfl (fun J hJ => ?_) AllReady.nil)
         refine step_storeB (ty := 91) (t := 91) (x := .tmp 4) (y := .tmp 24) rfl rfl arr32_wide rfl rfl ((unhide HK).2.2.2.ext (unhide H9)) ?_ ?_ ?_ ?_
         · rw [Array.size_replicate]
         · simpa using sha_length _
         · exact bytes_one _
         intro w10 hb10 hc10 hz10
         have H10 := hide (And.intro hb10 hc10)
         clear hb10 hc10 hz10
         refine hJ _ _ ?_
         clear hJ J))
    go_wp2
    refine bodyPost_ret (v := .agg ((sha (padOf k' 92 ++ sha (padOf k' 54 ++ b))).map u8v).toArray) (results_blk arr32_wide rfl (unhide H10).1 (by simpa using sha_length _) rfl) rfl ⟨rfl, ?_⟩
    exact ((unhide HK).2.2.1.trans (unhide H9)).trans' (unhide H10).2 (fun _ _ h => h) (fun i hi e => by omega)
  · rw [if_neg hlen]
    have hl' : key.length ≤ 64 := by omega
    have d64 : decide ((64 : Int) < (key.length : Int)) = false := decide_eq_false (by omega)
    obtain ⟨k', hk'⟩ : ∃ k', k' = key := ⟨_, rfl⟩
    subst hk'
    obtain ⟨kv', hkv'⟩ : ∃ v, v = Value.slice A k'.length c := ⟨_, rfl⟩
    have HK : Hid ((((w.alloc (.cells #[.slice A k'.length c] 29)).alloc (.cells (Array.replicate 32 (.int .u8 0)) 91)).cell? ⟨w.heap.size, 0, none⟩ = some kv') ∧
        Reads ((w.alloc (.cells #[.slice A k'.length c] 29)).alloc (.cells (Array.replicate 32 (.int .u8 0)) 91)) 1 kv' k'.length (k'.map u8v) ∧ Ext w ((w.alloc (.cells #[.slice A k'.length c] 29)).alloc (.cells (Array.replicate 32 (.int .u8 0)) 91)) ∧
        Blk ((w.alloc (.cells #[.slice A k'.length c] 29)).alloc (.cells (Array.replicate 32 (.int .u8 0)) 91)) (w.heap.size + 1) 91 (Array.replicate 32 (.int .u8 0))) := hide ⟨by rw [hkv']; exact old_cell _ _ (new_cell _ _ _ rfl rfl), by rw [hkv']; exact (unhide HK0).ext (((Ext.refl w).alloc _).alloc _), ((Ext.refl w).alloc _).alloc _, Blk.new' _ _ _ (by simp)⟩
    have HKV := hide hkv'
    clear hkv' hlen
    go_enter Tryd.func53, Tryd.ntmps53
    have HL' := hide hl'
    go_wp2_with fail
    refine (pad_any 54 _ rfl k' w.heap.size kv' _ (unhide HK).1 (unhide HK).2.1 hl').mono ?_
    rintro e w2 ⟨g2, rfl, hR2, hE2⟩
    have H2 := hide (And.intro hR2 hE2)
    clear hR2 hE2
    go_wp2_with (at_builtin; refine wpList_appF rfl rfl u8_row rfl (unhide H2).1 (by omega) rfl (((unhide HB).ext (unhide HK).2.2.1).ext (unhide H2).2) (AllOne.u8 b) (by omega) ?_; intro A3 c3 w3 hr3 hE3; have H3 := hide (And.intro hr3 hE3); clear hr3 hE3)
    refine (sum_any (padOf k' 54 ++ b) _ _ (((unhide HM).ext (unhide HK).2.2.1).ext ((unhide H2).2.trans (unhide H3).2)) ?hr (by rw [List.length_append, padOf_length]; omega)).mono ?_
    case hr => have := (unhide H3).1; rw [← List.map_append] at this; rw [List.length_append, padOf_length]; exact this
    rintro e w4 ⟨rfl, hE4⟩
    obtain ⟨in1, hin1⟩ : ∃ r, ((sha (padOf k' 54 ++ b)).map u8v).toArray = r := ⟨_, rfl⟩
    have HI1 := hide hin1
    have HI2 := hide (show in1.size = 32 ∧ in1.all (·.oneCell') = true from by rw [← hin1]; exact ⟨by simpa using sha_length _, bytes_one _⟩)
    rw [hin1]
    have H4 := hide ((unhide H2).2.trans ((unhide H3).2.trans hE4))
    clear hin1 hE4
    go_wp2_with (refine wpList_storeB (ty := 91) (t := 91) (x := .tmp 7) (y := .tmp 19) rfl rfl arr32_wide rfl rfl (Blk.new w4 _ _) rfl (unhide HI2).1 (unhide HI2).2 ?_; intro w5 hb5 hc5 hz5; have H5 := hide (And.intro hb5 (And.intro hc5 hz5)); clear hb5 hc5 hz5)
    have HE5 := hide ((unhide H4).trans (((Ext.refl w4).alloc (.cells #[Value.int IntKind.u8 0, Value.int IntKind.u8 0, Value.int IntKind.u8 0, Value.int IntKind.u8 0, Value.int IntKind.u8 0, Value.int IntKind.u8 0, Value.int IntKind.u8 0, Value.int IntKind.u8 0, Value.int IntKind.u8 0, Value.int IntKind.u8 0, Value.int IntKind.u8 0, Value.int IntKind.u8 0, Value.int IntKind.u8 0, Value.int IntKind.u8 0, Value.int IntKind.u8 0, Value.int IntKind.u8 0, Value.int IntKind.u8 0, Value.int IntKind.u8 0, Value.int IntKind.u8 0, Value.int IntKind.u8 0, Value.int IntKind.u8 0, Value.int IntKind.u8 0, Value.int IntKind.u8 0, Value.int IntKind.u8 0, Value.int IntKind.u8 0, Value.int IntKind.u8 0, Value.int IntKind.u8 0, Value.int IntKind.u8 0, Value.int IntKind.u8 0, Value.int IntKind.u8 0, Value.int IntKind.u8 0, Value.int IntKind.u8 0] 91)).trans' (unhide H5).2.1 (fun _ _ h => h) (fun i hi e => by omega)))
    have HR7 := hide (show Reads w5 1 (.slice (some ⟨w4.heap.size, 0, none⟩) 32 32) 32 ((sha (padOf k' 54 ++ b)).map u8v) from by
      have := Reads.of_blk (unhide H5).1 (i := 0) (n := 32) (c := 32) (by rw [(unhide HI2).1]; omega) (by omega) (by unfold maxLen; omega)
      rw [← unhide HI1] at this
      simp only [List.drop_zero] at this
      rwa [List.take_of_length_le (by rw [List.length_map, sha_length]; omega)] at this)
    go_region_law (first
      | (refine step_appF (s := .tmp 21) (x := .tmp 22) rfl rfl u8_row rfl (unhide H6).1 (by omega) rfl ((unhide HR7).ext (((Ext.refl w5).drew).trans (unhide H6).2)) (AllOne.u8 _) (by omega) ?_; intro A8 c8 w8 hr8 hE8; have H8 := hide (And.intro hr8 hE8); clear hr8 hE8)
      | (go_simp; go_at_call 93; refine (pad_any 92 _ rfl k' w.heap.size kv' _ (Ext.cellv ((unhide HE5).drew) (unhide HK).1) ((unhide HK).2.1.ext ((unhide HE5).drew)) hl').mono ?_; rintro e w6 ⟨g6, rfl, hR6, hE6⟩; have H6 := hide (And.intro hR6 hE6); clear hR6 hE6)
      | (rename_i K hK; go_simp; go_at_call 92; refine (sum_any (padOf k' 92 ++ sha (padOf k' 54 ++ b)) _ _ ((((unhide HM).ext (unhide HK).2.2.1).ext (unhide HE5)).ext (((Ext.refl w5).drew).trans ((unhide H6).2.trans (unhide H8).2))) ?_ ?_).mono ?_; (focus (have := (unhide H8).1; rw [← List.map_append] at this; rw [List.length_append, padOf_length, sha_length]; exact this)); (focus (rw [List.length_append, padOf_length, sha_length]; omega)); rintro e w9 ⟨rfl, hE9⟩; have H9 := hide ((unhide HE5).trans (((Ext.refl w5).drew).trans ((unhide H6).2.trans ((unhide H8).2.trans hE9)))); clear hE9
         dsimp only
         refine hK _ _ ?_
         clear hK K
         refine wpAny_ready (rs := [5]) (by kernel_rfl) (by simp) (AllReady.cons rfl (fun J hJ => ?_) AllReady.nil)
         refine step_storeB (ty := 91) (t := 91) (x := .tmp 4) (y := .tmp 24) rfl rfl arr32_wide rfl rfl ((unhide HK).2.2.2.ext (unhide H9)) ?_ ?_ ?_ ?_
         · rw [Array.size_replicate]
         · simpa using sha_length _
         · exact bytes_one _
         intro w10 hb10 hc10 hz10
         have H10 := hide (And.intro hb10 hc10)
         clear hb10 hc10 hz10
         refine hJ _ _ ?_
         clear hJ J))
    go_wp2
    refine bodyPost_ret (v := .agg ((sha (padOf k' 92 ++ sha (padOf k' 54 ++ b))).map u8v).toArray) (results_blk arr32_wide rfl (unhide H10).1 (by simpa using sha_length _) rfl) rfl ⟨rfl, ?_⟩
    exact ((unhide HK).2.2.1.trans (unhide H9)).trans' (unhide H10).2 (fun _ _ h => h) (fun i hi e => by omega)

end Go.Proofs.YtoefmncdloffaaaDoor
