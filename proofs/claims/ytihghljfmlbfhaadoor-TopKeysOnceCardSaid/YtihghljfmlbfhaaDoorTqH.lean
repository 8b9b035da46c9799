/-
  Several texts in one file: each has its own heading below.
-/
import Derived.Test.YtihghljfmlbfhaaDoorTqG
import Derived.Deep.RegionLaw
import Derived.WalkKit
import Derived.Laws.BitsAllLaws
import Derived.Test.YtihghljfmlbfhaaDoorTqF
import Derived.Outline
import Derived.Deep.DeepCutAuto
import Derived.Deep.RegionHeld3
import Derived.Great.BuildSlice
import Derived.Deep.Cut


namespace Go.Proofs.YtihghljfmlbfhaaDoor
open Go.RowKit
theorem hmac_eq (key m : List UInt8) : hmac key m = sha (padOf (if key.length > 64 then sha key else key) 92 ++ sha (padOf (if key.length > 64 then sha key else key) 54 ++ m)) := rfl
theorem sha_length (l : List UInt8) : (sha l).length = 32 := by
  have h : (shaBlocks ((shaPad l).length / 64) shaH0 (shaPad l)).length = 8 := by rw [← shaFold_blocks]; exact shaFold_length _ _ _ rfl
  have h2 := outAt_length (shaBlocks ((shaPad l).length / 64) shaH0 (shaPad l)) 8 (by omega)
  unfold outAt at h2
  rw [List.take_of_length_le (by omega)] at h2
  exact h2
theorem hmac_length (key m : List UInt8) : (hmac key m).length = 32 := by rw [hmac_eq]; exact sha_length _
set_option maxRecDepth 100000 in
set_option maxHeartbeats 4000000 in
theorem hmac_any (key b : List UInt8) (kv bv : Value) (w : World) (hM : ShaMem w) (hk : Reads w 1 kv key.length (key.map u8v)) (hb : Reads w 1 bv b.length (b.map u8v)) (hkl : key.length ≤ 1000000) (hbl : b.length ≤ 1000000) :
    Calls Tryd.prog 79 #[kv, bv] w fun e w' => e = .returned (.agg ((hmac key b).map u8v).toArray) ∧ Ext w w' := by
  have HM := hide hM
  have HB := hide hb
  obtain ⟨A, c, rfl⟩ : ∃ A c, kv = .slice A key.length c := by obtain ⟨_, A, c, h, _⟩ := hk; exact ⟨A, c, h⟩
  have HK0 := hide hk
  clear hM hk hb
  rw [hmac_eq]
  by_cases hlen : key.length > 64
  · rw [if_pos hlen]
    have d64 : decide ((64 : Int) < (key.length : Int)) = true := decide_eq_true (by omega)
    have hl' : (sha key).length ≤ 64 := by rw [sha_length]; omega
    obtain ⟨k', hk'⟩ : ∃ k', sha key = k' := ⟨_, rfl⟩
    rw [hk'] at hl' ⊢
    have HKK := hide hk'
    clear hk' hlen
    go_enter Tryd.func79, Tryd.ntmps79
    go_wp2_with fail
    refine (sum_any key _ _ ((unhide HM).ext (((Ext.refl w).alloc _).alloc _)) ((unhide HK0).ext (((Ext.refl w).alloc _).alloc _)) (by omega)).mono ?_
    rintro e w1 ⟨rfl, hE1⟩
    clear d64
    rw [unhide HKK]
    have H1 := hide hE1
    clear hE1
    have HS1 := hide (show ((k'.map u8v).toArray).size = 32 from by rw [← unhide HKK]; simpa using sha_length _)
    have c0 : w1.cell? ⟨w.heap.size, 0, none⟩ = some (.slice A key.length c) := Ext.cellv (unhide H1) (old_cell _ _ (new_cell _ _ _ rfl rfl))
    have f0 : w1.frozen? ⟨w.heap.size, 0, none⟩ = false := Ext.frozenv (unhide H1) (((Blk.new w 24 #[.slice A key.length c]).alloc _).frozen 0) (by simp; omega)
    have HC0 := hide (And.intro c0 (And.intro f0 (lt_of_cell c0)))
    clear c0 f0
    go_wp2_with (refine wpList_storeB (ty := 89) (t := 89) (x := .tmp 5) (y := .tmp 12) rfl rfl arr32_wide rfl rfl (Blk.new w1 _ _) rfl (unhide HS1) (bytes_one _) ?_; intro w2 hb2 hc2 hz2; have c0 := Chg.cellv (hc2) (old_cell _ _ (unhide HC0).1) (Nat.ne_of_lt (unhide HC0).2.2); have f0 := Chg.frozenv hc2 (Ext.frozenv ((Ext.refl w1).alloc _) (unhide HC0).2.1 (unhide HC0).2.2) (by have := (unhide HC0).2.2; simp; omega) (Nat.ne_of_lt (unhide HC0).2.2); have HW2 := hide (And.intro hb2 (And.intro hc2 hz2)); clear hb2 hc2 hz2)
    obtain ⟨kv', hkv'⟩ : ∃ v, v = Value.slice (some ⟨w1.heap.size, 0, none⟩) 32 32 := ⟨_, rfl⟩
    have hwl : w.heap.size + 2 ≤ w1.heap.size := by have := (unhide H1).size'; simp at this; omega
    have e32 : k'.length = 32 := by rw [← unhide HKK]; exact sha_length _
    have hX0 : Chg (fun k => k = w.heap.size) w1 (w2.setCell ⟨w.heap.size, 0, none⟩ kv') := by
      have h1 : Chg (fun k => k = w.heap.size) w1 w2 := ((Ext.refl w1).alloc _).trans' (unhide HW2).2.1 (fun _ _ h => h.elim) (fun i hi e => by omega)
      exact h1.setCell (p := ⟨w.heap.size, 0, none⟩) (.inl rfl) _
    have HK : Hid ((w2.setCell ⟨w.heap.size, 0, none⟩ kv').cell? ⟨w.heap.size, 0, none⟩ = some kv' ∧ Reads (w2.setCell ⟨w.heap.size, 0, none⟩ kv') 1 kv' k'.length (k'.map u8v) ∧ Ext w (w2.setCell ⟨w.heap.size, 0, none⟩ kv') ∧
        Blk (w2.setCell ⟨w.heap.size, 0, none⟩ kv') (w.heap.size + 1) 89 (Array.replicate 32 (.int .u8 0))) := hide (by
      refine ⟨World.cell?_setCell_same' _ _ _ (by rw [c0]; rfl), ?_, ?_, ?_⟩
      · have hb := (unhide HW2).1.far' (show ¬ w1.heap.size = w.heap.size by omega) 0 kv'
        have := Reads.of_blk hb (i := 0) (n := 32) (c := 32) (by rw [unhide HS1]; omega) (by omega) (by unfold maxLen; omega)
        simp only [List.drop_zero] at this
        rw [List.take_of_length_le (by rw [List.length_map]; omega)] at this
        rw [e32, hkv']
        rw [hkv'] at this
        exact this
      · exact ((((Ext.refl w).alloc _).alloc _).trans (unhide H1)).trans' hX0 (fun _ _ h => h) (fun i hi e => by omega)
      · have h1 : Blk ((w.alloc (.cells #[.slice A key.length c] 24)).alloc (.cells (Array.replicate 32 (.int .u8 0)) 89)) (w.heap.size + 1) 89 (Array.replicate 32 (.int .u8 0)) := Blk.new' _ _ _ (by simp)
        exact (h1.ext (unhide H1)).chg hX0 (by omega))
    subst hkv'
    clear c0 f0 hX0 hwl e32 HC0
    have HL' := hide hl'
    go_wp2_with fail
    refine (pad_any 54 _ rfl k' w.heap.size (.slice (some ⟨w1.heap.size, 0, none⟩) 32 32) _ (unhide HK).1 (unhide HK).2.1 hl').mono ?_
    rintro e w2 ⟨g2, rfl, hR2, hE2⟩
    have H2 := hide (And.intro hR2 hE2)
    clear hR2 hE2
    go_wp2_with (at_builtin; refine wpList_appF rfl rfl u8_row rfl (unhide H2).1 (by omega) rfl (((unhide HB).ext (unhide HK).2.2.1).ext (unhide H2).2) (AllOne.u8 b) (by omega) ?_; intro A3 c3 w3 hr3 hE3; have H3 := hide (And.intro hr3 hE3); clear hr3 hE3)
    refine (sum_any (padOf k' 54 ++ b) _ _ (((unhide HM).ext (unhide HK).2.2.1).ext ((unhide H2).2.trans (unhide H3).2)) ?hr (by rw [List.length_append, padOf_length]; omega)).mono ?_
    case hr => have := (unhide H3).1; rw [← List.map_append] at this; rw [List.length_append, padOf_length]; exact this
    rintro e w4 ⟨rfl, hE4⟩
    obtain ⟨in1, hin1⟩ : ∃ r, ((sha (padOf k' 54 ++ b)).map u8v).toArray = r := ⟨_, rfl⟩
    have HI1 := hide hin1
    have HI2 := hide (show in1.size = 32 ∧ in1.all (·.oneCell') = true from by rw [← hin1]; exact ⟨by simpa using sha_length _, bytes_one _⟩)
    rw [hin1]
    have H4 := hide ((unhide H2).2.trans ((unhide H3).2.trans hE4))
    clear hin1 hE4
    go_wp2_with (refine wpList_storeB (ty := 89) (t := 89) (x := .tmp 7) (y := .tmp 19) rfl rfl arr32_wide rfl rfl (Blk.new w4 _ _) rfl (unhide HI2).1 (unhide HI2).2 ?_; intro w5 hb5 hc5 hz5; have H5 := hide (And.intro hb5 (And.intro hc5 hz5)); clear hb5 hc5 hz5)
    have HE5 := hide ((unhide H4).trans (((Ext.refl w4).alloc (.cells #[Value.int IntKind.u8 0, Value.int IntKind.u8 0, Value.int IntKind.u8 0, Value.int IntKind.u8 0, Value.int IntKind.u8 0, Value.int IntKind.u8 0, Value.int IntKind.u8 0, Value.int IntKind.u8 0, Value.int IntKind.u8 0, Value.int IntKind.u8 0, Value.int IntKind.u8 0, Value.int IntKind.u8 0, Value.int IntKind.u8 0, Value.int IntKind.u8 0, Value.int IntKind.u8 0, Value.int IntKind.u8 0, Value.int IntKind.u8 0, Value.int IntKind.u8 0, Value.int IntKind.u8 0, Value.int IntKind.u8 0, Value.int IntKind.u8 0, Value.int IntKind.u8 0, Value.int IntKind.u8 0, Value.int IntKind.u8 0, Value.int IntKind.u8 0, Value.int IntKind.u8 0, Value.int IntKind.u8 0, Value.int IntKind.u8 0, Value.int IntKind.u8 0, Value.int IntKind.u8 0, Value.int IntKind.u8 0, Value.int IntKind.u8 0] 89)).trans' (unhide H5).2.1 (fun _ _ h => h) (fun i hi e => by omega)))
    have HR7 := hide (show Reads w5 1 (.slice (some ⟨w4.heap.size, 0, none⟩) 32 32) 32 ((sha (padOf k' 54 ++ b)).map u8v) from by
      have := Reads.of_blk (unhide H5).1 (i := 0) (n := 32) (c := 32) (by rw [(unhide HI2).1]; omega) (by omega) (by unfold maxLen; omega)
      rw [← unhide HI1] at this
      simp only [List.drop_zero] at this
      rwa [List.take_of_length_le (by rw [List.length_map, sha_length]; omega)] at this)
    go_region_law (first
      | (refine step_appF (s := .tmp 21) (x := .tmp 22) rfl rfl u8_row rfl (unhide H6).1 (by omega) rfl ((unhide HR7).ext (((Ext.refl w5).drew).trans (unhide H6).2)) (AllOne.u8 _) (by omega) ?_; intro A8 c8 w8 hr8 hE8; have H8 := hide (And.intro hr8 hE8); clear hr8 hE8)
      | (go_simp; go_at_call 80; refine (pad_any 92 _ rfl k' w.heap.size (.slice (some ⟨w1.heap.size, 0, none⟩) 32 32) _ (Ext.cellv ((unhide HE5).drew) (unhide HK).1) ((unhide HK).2.1.ext ((unhide HE5).drew)) hl').mono ?_; rintro e w6 ⟨g6, rfl, hR6, hE6⟩; have H6 := hide (And.intro hR6 hE6); clear hR6 hE6)
      | (rename_i K hK; go_simp; go_at_call 33; refine (sum_any (padOf k' 92 ++ sha (padOf k' 54 ++ b)) _ _ ((((unhide HM).ext (unhide HK).2.2.1).ext (unhide HE5)).ext (((Ext.refl w5).drew).trans ((unhide H6).2.trans (unhide H8).2))) ?_ ?_).mono ?_; (focus (have := (unhide H8).1; rw [← List.map_append] at this; rw [List.length_append, padOf_length, sha_length]; exact this)); (focus (rw [List.length_append, padOf_length, sha_length]; omega)); rintro e w9 ⟨rfl, hE9⟩; have H9 := hide ((unhide HE5).trans (((Ext.refl w5).drew).trans ((unhide H6).2.trans ((unhide H8).2.trans hE9)))); clear hE9
         dsimp only
         refine hK _ _ ?_
         clear hK K
         refine wpAny_ready (rs := [5]) (by kernel_rfl) (by simp) (AllReady.cons rfl (fun J hJ => ?_) AllReady.nil)
         refine step_storeB (ty := 89) (t := 89) (x := .tmp 4) (y := .tmp 24) rfl rfl arr32_wide rfl rfl ((unhide HK).2.2.2.ext (unhide H9)) ?_ ?_ ?_ ?_
         · rw [Array.size_replicate]
         · simpa using sha_length _
         · exact bytes_one _
         intro w10 hb10 hc10 hz10
         have H10 := hide (And.intro hb10 hc10)
         clear hb10 hc10 hz10
         refine hJ _ _ ?_
         clear hJ J))
    go_wp2
    refine bodyPost_ret (v := .agg ((sha (padOf k' 92 ++ sha (padOf k' 54 ++ b))).map u8v).toArray) (results_blk arr32_wide rfl (unhide H10).1 (by simpa using sha_length _) rfl) rfl ⟨rfl, ?_⟩
    exact ((unhide HK).2.2.1.trans (unhide H9)).trans' (unhide H10).2 (fun _ _ h => h) (fun i hi e => by omega)
  · rw [if_neg hlen]
    have hl' : key.length ≤ 64 := by omega
    have d64 : decide ((64 : Int) < (key.length : Int)) = false := decide_eq_false (by omega)
    obtain ⟨k', hk'⟩ : ∃ k', k' = key := ⟨_, rfl⟩
    subst hk'
    obtain ⟨kv', hkv'⟩ : ∃ v, v = Value.slice A k'.length c := ⟨_, rfl⟩
    have HK : Hid ((((w.alloc (.cells #[.slice A k'.length c] 24)).alloc (.cells (Array.replicate 32 (.int .u8 0)) 89)).cell? ⟨w.heap.size, 0, none⟩ = some kv') ∧
        Reads ((w.alloc (.cells #[.slice A k'.length c] 24)).alloc (.cells (Array.replicate 32 (.int .u8 0)) 89)) 1 kv' k'.length (k'.map u8v) ∧ Ext w ((w.alloc (.cells #[.slice A k'.length c] 24)).alloc (.cells (Array.replicate 32 (.int .u8 0)) 89)) ∧
        Blk ((w.alloc (.cells #[.slice A k'.length c] 24)).alloc (.cells (Array.replicate 32 (.int .u8 0)) 89)) (w.heap.size + 1) 89 (Array.replicate 32 (.int .u8 0))) := hide ⟨by rw [hkv']; exact old_cell _ _ (new_cell _ _ _ rfl rfl), by rw [hkv']; exact (unhide HK0).ext (((Ext.refl w).alloc _).alloc _), ((Ext.refl w).alloc _).alloc _, Blk.new' _ _ _ (by simp)⟩
    have HKV := hide hkv'
    clear hkv' hlen
    go_enter Tryd.func79, Tryd.ntmps79
    have HL' := hide hl'
    go_wp2_with fail
    refine (pad_any 54 _ rfl k' w.heap.size kv' _ (unhide HK).1 (unhide HK).2.1 hl').mono ?_
    rintro e w2 ⟨g2, rfl, hR2, hE2⟩
    have H2 := hide (And.intro hR2 hE2)
    clear hR2 hE2
    go_wp2_with (at_builtin; refine wpList_appF rfl rfl u8_row rfl (unhide H2).1 (by omega) rfl (((unhide HB).ext (unhide HK).2.2.1).ext (unhide H2).2) (AllOne.u8 b) (by omega) ?_; intro A3 c3 w3 hr3 hE3; have H3 := hide (And.intro hr3 hE3); clear hr3 hE3)
    refine (sum_any (padOf k' 54 ++ b) _ _ (((unhide HM).ext (unhide HK).2.2.1).ext ((unhide H2).2.trans (unhide H3).2)) ?hr (by rw [List.length_append, padOf_length]; omega)).mono ?_
    case hr => have := (unhide H3).1; rw [← List.map_append] at this; rw [List.length_append, padOf_length]; exact this
    rintro e w4 ⟨rfl, hE4⟩
    obtain ⟨in1, hin1⟩ : ∃ r, ((sha (padOf k' 54 ++ b)).map u8v).toArray = r := ⟨_, rfl⟩
    have HI1 := hide hin1
    have HI2 := hide (show in1.size = 32 ∧ in1.all (·.oneCell') = true from by rw [← hin1]; exact ⟨by simpa using sha_length _, bytes_one _⟩)
    rw [hin1]
    have H4 := hide ((unhide H2).2.trans ((unhide H3).2.trans hE4))
    clear hin1 hE4
    go_wp2_with (refine wpList_storeB (ty := 89) (t := 89) (x := .tmp 7) (y := .tmp 19) rfl rfl arr32_wide rfl rfl (Blk.new w4 _ _) rfl (unhide HI2).1 (unhide HI2).2 ?_; intro w5 hb5 hc5 hz5; have H5 := hide (And.intro hb5 (And.intro hc5 hz5)); clear hb5 hc5 hz5)
    have HE5 := hide ((unhide H4).trans (((Ext.refl w4).alloc (.cells #[Value.int IntKind.u8 0, Value.int IntKind.u8 0, Value.int IntKind.u8 0, Value.int IntKind.u8 0, Value.int IntKind.u8 0, Value.int IntKind.u8 0, Value.int IntKind.u8 0, Value.int IntKind.u8 0, Value.int IntKind.u8 0, Value.int IntKind.u8 0, Value.int IntKind.u8 0, Value.int IntKind.u8 0, Value.int IntKind.u8 0, Value.int IntKind.u8 0, Value.int IntKind.u8 0, Value.int IntKind.u8 0, Value.int IntKind.u8 0, Value.int IntKind.u8 0, Value.int IntKind.u8 0, Value.int IntKind.u8 0, Value.int IntKind.u8 0, Value.int IntKind.u8 0, Value.int IntKind.u8 0, Value.int IntKind.u8 0, Value.int IntKind.u8 0, Value.int IntKind.u8 0, Value.int IntKind.u8 0, Value.int IntKind.u8 0, Value.int IntKind.u8 0, Value.int IntKind.u8 0, Value.int IntKind.u8 0, Value.int IntKind.u8 0] 89)).trans' (unhide H5).2.1 (fun _ _ h => h) (fun i hi e => by omega)))
    have HR7 := hide (show Reads w5 1 (.slice (some ⟨w4.heap.size, 0, none⟩) 32 32) 32 ((sha (padOf k' 54 ++ b)).map u8v) from by
      have := Reads.of_blk (unhide H5).1 (i := 0) (n := 32) (c := 32) (by rw [(unhide HI2).1]; omega) (by omega) (by unfold maxLen; omega)
      rw [← unhide HI1] at this
      simp only [List.drop_zero] at this
      rwa [List.take_of_length_le (by rw [List.length_map, sha_length]; omega)] at this)
    go_region_law (first
      | (refine step_appF (s := .tmp 21) (x := .tmp 22) rfl rfl u8_row rfl (unhide H6).1 (by omega) rfl ((unhide HR7).ext (((Ext.refl w5).drew).trans (unhide H6).2)) (AllOne.u8 _) (by omega) ?_; intro A8 c8 w8 hr8 hE8; have H8 := hide (And.intro hr8 hE8); clear hr8 hE8)
      | (go_simp; go_at_call 80; refine (pad_any 92 _ rfl k' w.heap.size kv' _ (Ext.cellv ((unhide HE5).drew) (unhide HK).1) ((unhide HK).2.1.ext ((unhide HE5).drew)) hl').mono ?_; rintro e w6 ⟨g6, rfl, hR6, hE6⟩; have H6 := hide (And.intro hR6 hE6); clear hR6 hE6)
      | (rename_i K hK; go_simp; go_at_call 33; refine (sum_any (padOf k' 92 ++ sha (padOf k' 54 ++ b)) _ _ ((((unhide HM).ext (unhide HK).2.2.1).ext (unhide HE5)).ext (((Ext.refl w5).drew).trans ((unhide H6).2.trans (unhide H8).2))) ?_ ?_).mono ?_; (focus (have := (unhide H8).1; rw [← List.map_append] at this; rw [List.length_append, padOf_length, sha_length]; exact this)); (focus (rw [List.length_append, padOf_length, sha_length]; omega)); rintro e w9 ⟨rfl, hE9⟩; have H9 := hide ((unhide HE5).trans (((Ext.refl w5).drew).trans ((unhide H6).2.trans ((unhide H8).2.trans hE9)))); clear hE9
         dsimp only
         refine hK _ _ ?_
         clear hK K
         refine wpAny_ready (rs := [5]) (by kernel_rfl) (by simp) (AllReady.cons rfl (fun J hJ => ?_) AllReady.nil)
         refine step_storeB (ty := 89) (t := 89) (x := .tmp 4) (y := .tmp 24) rfl rfl arr32_wide rfl rfl ((unhide HK).2.2.2.ext (unhide H9)) ?_ ?_ ?_ ?_
         · rw [Array.size_replicate]
         · simpa using sha_length _
         · exact bytes_one _
         intro w10 hb10 hc10 hz10
         have H10 := hide (And.intro hb10 hc10)
         clear hb10 hc10 hz10
         refine hJ _ _ ?_
         clear hJ J))
    go_wp2
    refine bodyPost_ret (v := .agg ((sha (padOf k' 92 ++ sha (padOf k' 54 ++ b))).map u8v).toArray) (results_blk arr32_wide rfl (unhide H10).1 (by simpa using sha_length _) rfl) rfl ⟨rfl, ?_⟩
    exact ((unhide HK).2.2.1.trans (unhide H9)).trans' (unhide H10).2 (fun _ _ h => h) (fun i hi e => by omega)
end Go.Proofs.YtihghljfmlbfhaaDoor


namespace Go.Proofs.YtihghljfmlbfhaaDoor
open Go.RowKit
def zig (n : Int) : Nat := if 0 ≤ n then (2 * n).toNat else (-2 * n - 1).toNat
def varint : Nat → Nat → List UInt8
  | 0, u => [UInt8.ofNat u]
  | f + 1, u => if u < 128 then [UInt8.ofNat u] else UInt8.ofNat (128 + u % 128) :: varint f (u / 128)
def wInt (n : Int) : List UInt8 := varint 9 (zig n)
def wBytes (l : List UInt8) : List UInt8 := wInt l.length ++ l
theorem varint_small {f u : Nat} (h : u < 128) : varint f u = [UInt8.ofNat u] := by cases f with
  | zero => rfl
  | succ f => rw [varint, if_pos h]
theorem varint_big {f u : Nat} (h : ¬ u < 128) : varint (f + 1) u = UInt8.ofNat (128 + u % 128) :: varint f (u / 128) := by rw [varint, if_neg h]
theorem varint_length (f u : Nat) : (varint f u).length ≤ f + 1 := by
  induction f generalizing u with
  | zero => simp [varint]
  | succ f ih =>
    rw [varint]
    split
    · simp
    · simp; exact ih _
theorem wInt_length (n : Int) : (wInt n).length ≤ 10 := varint_length 9 _
theorem wBytes_length (l : List UInt8) : (wBytes l).length ≤ 10 + l.length := by unfold wBytes; have := wInt_length l.length; simp; omega
theorem zig_lt {n : Int} (h1 : -9223372036854775808 ≤ n) (h2 : n < 9223372036854775808) : zig n < 18446744073709551616 := by unfold zig; split <;> omega
theorem or128 : ∀ x, x < 256 → x ||| 128 = 128 + x % 128 := by decide +kernel
theorem or_byte (u : Nat) : bits BinOp.or IntKind.u8 ((u : Int) % 256) 128 = ((UInt8.ofNat (128 + u % 128)).toNat : Int) := by
  rw [u8_or _ _ (by omega) (by omega) (by omega) (by omega)]
  have e : ((u : Int) % 256).toNat = u % 256 := by omega
  rw [e, show (128 : Int).toNat = 128 from rfl, or128 _ (by omega)]
  simp
  omega
end Go.Proofs.YtihghljfmlbfhaaDoor


namespace Go.Proofs.YtihghljfmlbfhaaDoor
open Go.RowKit
def IsU64 (x : Nat) : Prop := x < 18446744073709551616
def WI (n : Int) (w : World) (x f m : Nat) (v : Value) (wr : World) : Prop :=
  ∃ pre : List UInt8, wInt n = pre ++ varint f x ∧ m = pre.length ∧ x < 128 ^ (f + 1) ∧ f ≤ 9 ∧ wr.ownsRow w.heap.size 5 1 v m (pre.map u8v) ∧ Ext w wr
theorem WI.small {n : Int} {w wr : World} {x f m : Nat} {v : Value} (h : WI n w x f m v wr) : m ≤ 10 := by
  obtain ⟨pre, h1, rfl, _⟩ := h
  have := wInt_length n
  rw [h1] at this
  simp at this
  omega
theorem WI.app {n : Int} {w wr w3 : World} {x f m : Nat} {A A' : Option Addr} {c c' : Nat} (h : WI n w x f m (.slice A m c) wr) (hx : ¬ x < 128)
    (ho : w3.ownsRow w.heap.size 5 1 (.slice A' (m + 1) c') (m + 1) ((h.choose).map u8v ++ [u8v (UInt8.ofNat (128 + x % 128))])) {o : Obj} (hc : Chg (fun k => (Value.slice A m c).ownBlock = some k) (wr.alloc o) w3) :
    ∃ g, WI n w (x / 128) g (m + 1) (.slice A' (m + 1) c') w3 := by
  obtain ⟨h1, h2, h3, h4, h5, h6⟩ := h.choose_spec
  generalize h.choose = pre at *
  cases f with
  | zero => simp at h3; omega
  | succ g =>
    rw [varint_big hx] at h1
    refine ⟨g, pre ++ [UInt8.ofNat (128 + x % 128)], by rw [h1]; simp, by simp [h2], ?_, by omega, by simpa using ho, (h6.alloc o).trans' hc (fun _ _ h => h) (fun i hi e => by have := h5.lt i e; omega)⟩
    rw [Nat.pow_succ] at h3
    exact Nat.div_lt_of_lt_mul (by rw [Nat.mul_comm]; exact h3)
theorem WI.last {n : Int} {w wr w3 : World} {x f m : Nat} {A A' : Option Addr} {c c' : Nat} (h : WI n w x f m (.slice A m c) wr) (hx : x < 128)
    (ho : w3.ownsRow w.heap.size 5 1 (.slice A' (m + 1) c') (m + 1) ((h.choose).map u8v ++ [u8v (UInt8.ofNat x)])) {o : Obj} (hc : Chg (fun k => (Value.slice A m c).ownBlock = some k) (wr.alloc o) w3) :
    m + 1 = (wInt n).length ∧ w3.ownsRow w.heap.size 5 1 (.slice A' (m + 1) c') (m + 1) ((wInt n).map u8v) ∧ Ext w w3 := by
  obtain ⟨h1, h2, h3, h4, h5, h6⟩ := h.choose_spec
  generalize h.choose = pre at *
  rw [varint_small hx] at h1
  refine ⟨by rw [h1]; simp [h2], by rw [h1]; simpa using ho, (h6.alloc o).trans' hc (fun _ _ h => h) (fun i hi e => by have := h5.lt i e; omega)⟩
theorem not64 (a : Nat) (h : a < 18446744073709551616) : bits BinOp.xor IntKind.u64 IntKind.u64.max (a : Int) = ((18446744073709551615 - a : Nat) : Int) := by
  have e := u64_xor IntKind.u64.max (a : Int) (by decide) (by decide) (by omega) (by omega)
  rw [e]
  have h1 : (UInt64.ofNat a).toNat = a := by simp; omega
  have h2 : (-1 ^^^ UInt64.ofNat a).toNat = 18446744073709551615 - a := by
    rw [UInt64.neg_one_xor, UInt64.toNat_not, h1]
    rfl
  rw [UInt64.toNat_xor, h1] at h2
  rw [← h2]
  rfl
theorem zig_pos (n : Int) (h0 : 0 ≤ n) (h2 : n < 9223372036854775808) : IntKind.u64.wrap (IntKind.u64.wrap n * 2) = (zig n : Int) := by
  rw [IntKind.wrap_u64, IntKind.wrap_u64]; unfold zig; rw [if_pos h0]; omega
theorem zig_neg (n : Int) (h0 : n < 0) (h1 : -9223372036854775808 ≤ n) : bits BinOp.xor IntKind.u64 IntKind.u64.max (IntKind.u64.wrap (IntKind.u64.wrap n * 2)) = (zig n : Int) := by
  have e : IntKind.u64.wrap (IntKind.u64.wrap n * 2) = ((2 * n + 18446744073709551616).toNat : Int) := by rw [IntKind.wrap_u64, IntKind.wrap_u64]; omega
  rw [e, not64 _ (by omega)]; unfold zig; rw [if_neg (by omega)]; omega
theorem WI.start {n : Int} (h1 : -9223372036854775808 ≤ n) (h2 : n < 9223372036854775808) (w : World) : WI n w (zig n) 9 0 (.slice none 0 0) w :=
  ⟨[], rfl, rfl, Nat.lt_of_lt_of_le (zig_lt h1 h2) (by decide), by omega, World.ownsRow_nil _ _ _ _, Ext.refl _⟩
set_option maxRecDepth 100000 in
set_option maxHeartbeats 1000000 in
theorem wint_any (n : Int) (w : World) (h1 : -9223372036854775808 ≤ n) (h2 : n < 9223372036854775808) :
    Calls Tryd.prog 41 #[.int .i64 n] w fun e w' => ∃ A c, e = .returned (.slice A (wInt n).length c) ∧ w'.ownsRow w.heap.size 5 1 (.slice A (wInt n).length c) (wInt n).length ((wInt n).map u8v) ∧ Ext w w' := by
  have HI := hide (WI.start h1 h2 w)
  have HZ := hide (show IsU64 (zig n) from zig_lt h1 h2)
  rcases Int.lt_or_le n 0 with h0 | h0
  · have hz := zig_neg n h0 h1
    have d0 : decide (n < 0) = true := decide_eq_true h0
    clear h1 h2
    go_enter Tryd.func41, Tryd.ntmps41
    go_wp2
    go_step3
    go_wp2
    go_step3
    go_wp2
    generalize zig n = z at *
    clear hz d0
    go_loopw [3, 4] (fun u b wr => ∃ (x f m : Nat) (A : Option Addr) (c : Nat), u = .int .u64 (x : Int) ∧ IsU64 x ∧ b = .slice A m c ∧ Hid (WI n w x f m (.slice A m c) wr)) (fun u _ _ => (intOf u).toNat)
    case atStart => exact ⟨z, 9, 0, none, 0, rfl, unhide HZ, rfl, HI⟩
    case round =>
      clear HI HZ
      obtain ⟨x, f, m, A, c, rfl, hx64, rfl, HI⟩ := hrel
      have hm := (unhide HI).small
      by_cases hlt : x < 128
      · have HB := hide (show (x : Int) = ((UInt8.ofNat x).toNat : Int) from by simp; omega)
        go_wp2_with (at_builtin; refine wpList_app rfl rfl u8_row rfl (ownsRow_ext (unhide HI).choose_spec.2.2.2.2.1 ((Ext.refl wr).alloc _)) rfl (Reads.new1 _ _ _) (AllOne.one rfl) (by omega) (by have := (unhide HI).choose_spec.2.2.2.2.2.size'; simp; omega) ?_; intro A' c' w3 ho hc hv; have HQ := hide (And.intro ho hc); clear ho hc hv)
        try rw [Exit.noGoto_ret]
        go_ret
        obtain ⟨q1, q2⟩ := unhide HQ
        rw [unhide HB] at q1
        obtain ⟨q3, q4, q5⟩ := (unhide HI).last hlt q1 q2
        rw [q3] at q4 ⊢
        exact ⟨_, _, rfl, q4, q5⟩
      · have hwq : (x : Int).fdiv (2 ^ min (Int.toNat 7) IntKind.u64.bits) = ((x / 128 : Nat) : Int) := by
          show (x : Int).fdiv 128 = _
          rw [Int.fdiv_eq_ediv_of_nonneg _ (by omega)]; omega
        have HB := hide (or_byte x)
        go_wp2_with (at_builtin; refine wpList_app rfl rfl u8_row rfl (ownsRow_ext (unhide HI).choose_spec.2.2.2.2.1 ((Ext.refl wr).alloc _)) rfl (Reads.new1 _ _ _) (AllOne.one rfl) (by omega) (by have := (unhide HI).choose_spec.2.2.2.2.2.size'; simp; omega) ?_; intro A' c' w3 ho hc hv; have HQ := hide (And.intro ho hc); clear ho hc hv)
        go_roundw
        case rel =>
          obtain ⟨q1, q2⟩ := unhide HQ
          rw [unhide HB] at q1
          obtain ⟨g, q3⟩ := (unhide HI).app hlt q1 q2
          exact ⟨x / 128, g, m + 1, A', c', by go_num, by unfold IsU64 at hx64 ⊢; omega, rfl, hide q3⟩
        case measure => simp [intOf]; omega
  · have hz := zig_pos n h0 h2
    have d0 : decide (n < 0) = false := decide_eq_false (by omega)
    clear h1 h2
    go_enter Tryd.func41, Tryd.ntmps41
    go_wp2
    go_step3
    go_wp2
    go_step3
    go_wp2
    generalize zig n = z at *
    clear hz d0
    go_loopw [3, 4] (fun u b wr => ∃ (x f m : Nat) (A : Option Addr) (c : Nat), u = .int .u64 (x : Int) ∧ IsU64 x ∧ b = .slice A m c ∧ Hid (WI n w x f m (.slice A m c) wr)) (fun u _ _ => (intOf u).toNat)
    case atStart => exact ⟨z, 9, 0, none, 0, rfl, unhide HZ, rfl, HI⟩
    case round =>
      clear HI HZ
      obtain ⟨x, f, m, A, c, rfl, hx64, rfl, HI⟩ := hrel
      have hm := (unhide HI).small
      by_cases hlt : x < 128
      · have HB := hide (show (x : Int) = ((UInt8.ofNat x).toNat : Int) from by simp; omega)
        go_wp2_with (at_builtin; refine wpList_app rfl rfl u8_row rfl (ownsRow_ext (unhide HI).choose_spec.2.2.2.2.1 ((Ext.refl wr).alloc _)) rfl (Reads.new1 _ _ _) (AllOne.one rfl) (by omega) (by have := (unhide HI).choose_spec.2.2.2.2.2.size'; simp; omega) ?_; intro A' c' w3 ho hc hv; have HQ := hide (And.intro ho hc); clear ho hc hv)
        try rw [Exit.noGoto_ret]
        go_ret
        obtain ⟨q1, q2⟩ := unhide HQ
        rw [unhide HB] at q1
        obtain ⟨q3, q4, q5⟩ := (unhide HI).last hlt q1 q2
        rw [q3] at q4 ⊢
        exact ⟨_, _, rfl, q4, q5⟩
      · have hwq : (x : Int).fdiv (2 ^ min (Int.toNat 7) IntKind.u64.bits) = ((x / 128 : Nat) : Int) := by
          show (x : Int).fdiv 128 = _
          rw [Int.fdiv_eq_ediv_of_nonneg _ (by omega)]; omega
        have HB := hide (or_byte x)
        go_wp2_with (at_builtin; refine wpList_app rfl rfl u8_row rfl (ownsRow_ext (unhide HI).choose_spec.2.2.2.2.1 ((Ext.refl wr).alloc _)) rfl (Reads.new1 _ _ _) (AllOne.one rfl) (by omega) (by have := (unhide HI).choose_spec.2.2.2.2.2.size'; simp; omega) ?_; intro A' c' w3 ho hc hv; have HQ := hide (And.intro ho hc); clear ho hc hv)
        go_roundw
        case rel =>
          obtain ⟨q1, q2⟩ := unhide HQ
          rw [unhide HB] at q1
          obtain ⟨g, q3⟩ := (unhide HI).app hlt q1 q2
          exact ⟨x / 128, g, m + 1, A', c', by go_num, by unfold IsU64 at hx64 ⊢; omega, rfl, hide q3⟩
        case measure => simp [intOf]; omega
end Go.Proofs.YtihghljfmlbfhaaDoor


namespace Go.Proofs.YtihghljfmlbfhaaDoor
open Go.RowKit
theorem u8_zero : (Tryd.prog.info? 5).map (·.zero) = some (some (.int .u8 0)) := by kernel_rfl
theorem wBytes_len (s : ByteArray) : (wBytes s.data.toList).length = (wInt s.size).length + s.size := by
  unfold wBytes
  rw [List.length_append, Array.length_toList]
  rfl
theorem wBytes_map (s : ByteArray) : (wBytes s.data.toList).map u8v = (wInt s.size).map u8v ++ s.data.toList.map byteV := by
  unfold wBytes
  rw [List.map_append, Array.length_toList]
  rfl
set_option maxHeartbeats 400000 in
theorem wbytes_any (s : ByteArray) (w : World) (hs : s.size ≤ 1000000000) :
    Calls Tryd.prog 46 #[.string s] w fun e w' => ∃ A c, e = .returned (.slice A (wBytes s.data.toList).length c) ∧ w'.ownsRow w.heap.size 5 1 (.slice A (wBytes s.data.toList).length c) (wBytes s.data.toList).length ((wBytes s.data.toList).map u8v) ∧ Ext w w' := by
  have HW := hide (fun w => wint_any (s.size : Int) w (by omega) (by omega))
  have HL := hide (wBytes_len s)
  have HM := hide (wBytes_map s)
  have hl := wInt_length (s.size : Int)
  go_enter Tryd.func46, Tryd.ntmps46
  go_wp2_with fail
  refine (unhide HW _).mono ?_
  rintro e w1 ⟨A, c, rfl, ho, hE⟩
  have HO := hide (And.intro ho hE)
  clear ho hE
  go_wp2_with (at_builtin; refine wpList_appS rfl rfl u8_row u8_zero Tryd.underlying9 rfl (unhide HO).1 rfl (by omega) (unhide HO).2.size' ?_; intro A' c' w2 ho hc; have HQ := hide (And.intro ho hc); clear ho hc)
  go_ret
  obtain ⟨h1, h2⟩ := unhide HQ
  rw [← unhide HL, ← unhide HM] at h1
  exact ⟨A', c', by rw [unhide HL]; rfl, h1, (unhide HO).2.trans' h2 (fun _ _ h => h) (fun i hi e => by have := ((unhide HO).1.lt i e).1; omega)⟩
end Go.Proofs.YtihghljfmlbfhaaDoor


namespace Go.Proofs.YtihghljfmlbfhaaDoor
open Go.RowKit
theorem digest_wide : Wide Tryd.prog 23 16 := ⟨⟨_, Tryd.underlying23, rfl⟩, by kernel_rfl⟩
set_option maxHeartbeats 1000000 in
theorem short_any (l : List UInt8) (w : World) (hl : l.length = 32) :
    Calls Tryd.prog 32 #[.agg (l.map u8v).toArray] w fun e w' => e = .returned (.agg ((l.take 16).map u8v).toArray) ∧ Ext w w' := by
  obtain ⟨arr, harr⟩ : ∃ r, (l.map u8v).toArray = r := ⟨_, rfl⟩
  obtain ⟨res, hres⟩ : ∃ r, ((l.take 16).map u8v).toArray = r := ⟨_, rfl⟩
  have HA := hide (And.intro harr hl)
  have HR := hide hres
  have HS := hide (show res.size = 16 ∧ res.all (·.oneCell') = true from by rw [← hres]; exact ⟨by simp; omega, bytes_one _⟩)
  rw [harr, hres]
  clear harr hres hl
  have hat := fun X => run_arrayAt (P := Tryd.prog) Tryd.underlying23 (ad := some ⟨w.heap.size, 0, none⟩) (len := 16) (c := 32) (by omega) X
  go_enter Tryd.func32, Tryd.ntmps32
  go_wp2_with (first
    | (refine wpList_loadR (ty := 23) (x := .tmp 4) rfl rfl digest_wide rfl (arr := res) (cs := (l.take 16).map u8v) ?_ ?_ (unhide HR) ?_; (focus (refine rangeAt_chg (w := w.alloc (.cells arr 89)) (S := Non) (fun j v hj => ?_) ((Ext.refl _).alloc _) (fun h => h); rw [Nat.zero_add, (Blk.new w _ arr).cell, ← (unhide HA).1]; rw [List.map_take, List.getElem?_take] at hj; split at hj; (simpa using hj); (cases hj))); (focus (have := (unhide HA).2; simp; omega)))
    | (refine wpList_storeB (ty := 23) (t := 23) (x := .tmp 2) (y := .tmp 5) rfl rfl digest_wide rfl rfl (Blk.new' _ _ _ ?_) rfl (unhide HS).1 (unhide HS).2 ?_; (focus (simp; done)); intro w2 hb2 hc2 hz2; have H2 := hide (And.intro hb2 hc2); clear hb2 hc2 hz2))
  refine bodyPost_ret (v := .agg res) (results_blk digest_wide rfl (unhide H2).1 (unhide HS).1 rfl) rfl ⟨rfl, ?_⟩
  exact (((Ext.refl w).alloc _).alloc _).trans' (unhide H2).2 (fun _ _ h => h) (fun i hi e => by omega)
theorem mac_short (key b : List UInt8) (w : World) : Calls Tryd.prog 32 #[.agg ((hmac key b).map u8v).toArray] w fun e w' => e = .returned (.agg ((mac key b).map u8v).toArray) ∧ Ext w w' := short_any _ _ (hmac_length _ _)
theorem mac_length (key b : List UInt8) : (mac key b).length = 16 := by unfold mac; rw [List.length_take, hmac_length]; omega
set_option maxHeartbeats 1000000 in
theorem mac_any (key b : List UInt8) (kv bv : Value) (w : World) (hM : ShaMem w) (hk : Reads w 1 kv key.length (key.map u8v)) (hb : Reads w 1 bv b.length (b.map u8v)) (hkl : key.length ≤ 1000000) (hbl : b.length ≤ 1000000) :
    Calls Tryd.prog 78 #[kv, bv] w fun e w' => e = .returned (.agg ((mac key b).map u8v).toArray) ∧ Ext w w' := by
  have HH := hide (hmac_any key b kv bv _ (hM.ext ((Ext.refl w).alloc (.cells (Array.replicate 16 (.int .u8 0)) 23))) (hk.ext ((Ext.refl w).alloc _)) (hb.ext ((Ext.refl w).alloc _)) hkl hbl)
  have HL := hide (mac_length key b)
  clear hM hk hb
  go_enter Tryd.func78, Tryd.ntmps78
  go_wp2_with fail
  refine (unhide HH).mono ?_
  rintro e w1 ⟨rfl, hE1⟩
  go_wp2_with fail
  refine (mac_short key b _).mono ?_
  rintro e w2 ⟨rfl, hE2⟩
  have hB := (Blk.new w 23 (Array.replicate 16 (.int .u8 0))).ext (hE1.trans hE2)
  have HB := hide (And.intro hB (hE1.trans hE2))
  clear hB hE1 hE2
  go_wp2_with (refine wpList_storeB (ty := 23) (t := 23) (x := .tmp 4) (y := .tmp 8) rfl rfl digest_wide rfl rfl (unhide HB).1 (by simp) ?_ (bytes_one _) ?_; (focus (simpa using unhide HL)); intro w3 hb3 hc3 hz3; have H3 := hide (And.intro hb3 hc3); clear hb3 hc3 hz3)
  refine bodyPost_ret (v := .agg ((mac key b).map u8v).toArray) (results_blk digest_wide rfl (unhide H3).1 (by simpa using unhide HL) rfl) rfl ⟨rfl, ?_⟩
  exact (((Ext.refl w).alloc _).trans (unhide HB).2).trans' (unhide H3).2 (fun _ _ h => h) (fun i hi e => by omega)
def Parts (w : World) (v : Value) (ps : List (List UInt8)) : Prop := ∃ vs : List Value, vs.length = ps.length ∧ Reads w 1 v ps.length vs ∧ ∀ (i : Nat) (p : List UInt8), ps[i]? = some p → ∃ u, vs[i]? = some u ∧ Reads w 1 u p.length (p.map u8v)
theorem Parts.ext {w w' : World} {v : Value} {ps : List (List UInt8)} (h : Parts w v ps) (hE : Ext w w') : Parts w' v ps := by
  obtain ⟨vs, h1, h2, h3⟩ := h
  refine ⟨vs, h1, h2.ext hE, fun i p hp => ?_⟩
  obtain ⟨u, h4, h5⟩ := h3 i p hp
  exact ⟨u, h4, h5.ext hE⟩
theorem Parts.chg {S : Nat → Prop} {w w' : World} {v : Value} {ps : List (List UInt8)} (h : Parts w v ps) {B : Nat} (hB : w.heap.size = B) (hE : Chg S w w') (hS : ∀ k, S k → B ≤ k) : Parts w' v ps :=
  h.ext (hE.mono fun k hk hs => by have := hS k hs; omega)
theorem Parts.nil (w : World) : Parts w (.slice none 0 0) [] := ⟨[], rfl, Reads.nil w 1, fun i p h => by simp at h⟩
def encs (ps : List (List UInt8)) : List UInt8 := ps.flatMap wBytes
theorem encs_step (ps : List (List UInt8)) (k : Nat) (h : k < ps.length) : encs (ps.take (k + 1)) = encs (ps.take k) ++ wBytes ps[k] := by
  unfold encs
  rw [take_step ps k h, List.flatMap_append]
  simp
theorem encs_bound (ps : List (List UInt8)) (M : Nat) (h : ∀ p ∈ ps, p.length ≤ M) : (encs ps).length ≤ ps.length * (M + 10) := by
  unfold encs
  induction ps with
  | nil => simp
  | cons p ps ih =>
    have h1 := ih fun q hq => h q (List.mem_cons_of_mem _ hq)
    have h2 := h p List.mem_cons_self
    have h3 := wBytes_length p
    rw [List.flatMap_cons, List.length_append, List.length_cons, Nat.succ_mul]
    omega
end Go.Proofs.YtihghljfmlbfhaaDoor


namespace Go.Proofs.YtihghljfmlbfhaaDoor
open Go.RowKit
end Go.Proofs.YtihghljfmlbfhaaDoor


namespace Go.Proofs.YtihghljfmlbfhaaDoor
open Go.RowKit
end Go.Proofs.YtihghljfmlbfhaaDoor


namespace Go.Proofs.YtihghljfmlbfhaaDoor
open Go.RowKit
structure G2 (w0 : World) (B : Nat) (v1 : Value) (n1 : Nat) (l1 : List UInt8) (v2 : Value) (n2 : Nat) (l2 : List UInt8) (wr : World) : Prop where
  one : GB w0 B v1 n1 l1 wr
  two : GB w0 B v2 n2 l2 wr
  far : ∀ g, v1.ownBlock = some g → v2.ownBlock ≠ some g
theorem G2.to {w0 wr w1 : World} {B n1 n2 : Nat} {v1 v2 : Value} {l1 l2 : List UInt8} (h : G2 w0 B v1 n1 l1 v2 n2 l2 wr) (hE : Ext wr w1) : G2 w0 B v1 n1 l1 v2 n2 l2 w1 := ⟨h.one.to hE, h.two.to hE, h.far⟩
theorem G2.step {w0 wr w1 w2 : World} {B n1 n2 n' : Nat} {v1 v2 v' : Value} {l1 l2 l' : List UInt8} (h : G2 w0 B v1 n1 l1 v2 n2 l2 wr) (hE : Ext wr w1) (hc : Chg (fun k => v1.ownBlock = some k) w1 w2) (ho : w2.ownsRow B 5 1 v' n' (l'.map u8v))
    (hv : v'.ownBlock = v1.ownBlock ∨ ∃ g, v'.ownBlock = some g ∧ w1.heap.size ≤ g ∧ g < w2.heap.size) : G2 w0 B v' n' l' v2 n2 l2 w2 := by
  have h2 := h.two.to hE
  refine ⟨h.one.step hE hc ho, ⟨ownsRow_chg h2.own hc (fun k hk e => h.far k e hk), ((h.one.step hE hc ho).ext), h2.base, Nat.le_trans h2.room hc.size⟩, fun g hg hg2 => ?_⟩
  rcases hv with hv | ⟨g', hv, hge, _⟩
  · exact h.far g (hv ▸ hg) hg2
  · rw [hv] at hg
    cases hg
    have := (h2.own.lt _ hg2).2
    omega
theorem G2.blk {w0 wr w1 w2 : World} {B n1 n2 : Nat} {v1 v2 : Value} {l1 l2 : List UInt8} (h : G2 w0 B v1 n1 l1 v2 n2 l2 wr) (hE : Ext wr w1) (hc : Chg (fun k => v1.ownBlock = some k) w1 w2) {g : Nat} {t : TypeId} {cs : Array Value} (hb : Blk wr g t cs) (hg : g < B) : Blk w2 g t cs := h.one.blk hE hc hb hg
end Go.Proofs.YtihghljfmlbfhaaDoor


namespace Go.Proofs.YtihghljfmlbfhaaDoor
open Go.RowKit
theorem own_one (w : World) (B : Nat) (e : TypeId) (x : Value) (hB : B ≤ w.heap.size) : (w.alloc (.cells #[x] e)).ownsRow B e 1 (.slice (some ⟨w.heap.size, 0, none⟩) 1 1) 1 [x] :=
  ⟨by simp, .inr ⟨w.heap.size, 1, #[x], rfl, hB, heap_alloc_new w _, Nat.le_refl _, by unfold maxLen; omega, rfl, rfl⟩⟩
theorem own_one' (w : World) (B : Nat) (e : TypeId) (x : Value) {g : Nat} (hg : g = w.heap.size) (hB : B ≤ w.heap.size) : (w.alloc (.cells #[x] e)).ownsRow B e 1 (.slice (some ⟨g, 0, none⟩) 1 1) 1 [x] := by subst hg; exact own_one w B e x hB
set_option maxRecDepth 100000 in
set_option maxHeartbeats 1000000 in
theorem join_any (v : Value) (l : List UInt8) (pv : Value) (ps : List (List UInt8)) (B : Nat) (w : World) (h : w.ownsRow B 5 1 v l.length (l.map u8v)) (hB : B ≤ w.heap.size) (hp : Parts w pv ps)
    (hl : l.length ≤ 1000000) (hps : ps.length ≤ 1000) (hpl : ∀ p ∈ ps, p.length ≤ 1000000) (hS : ∀ X, Chg (fun k => v.ownBlock = some k) w X → Parts X pv ps) :
    Calls Tryd.prog 34 #[v, pv] w fun e w' => ∃ A c, e = .returned (.slice A (l ++ encs ps).length c) ∧ w'.ownsRow B 5 1 (.slice A (l ++ encs ps).length c) (l ++ encs ps).length ((l ++ encs ps).map u8v) ∧ Onto w v w' (.slice A (l ++ encs ps).length c) := by
  have H0 := hide h
  have HP := hide hp
  have HS := hide hS
  have HPL := hide hpl
  obtain ⟨A1, c1, rfl⟩ : ∃ A c, pv = .slice A ps.length c := by obtain ⟨vs, _, ⟨_, A, c, h, _⟩, _⟩ := hp; exact ⟨A, c, h⟩
  obtain ⟨A0, c0, rfl⟩ := own_slice h
  clear h hp hS hpl
  go_enter Tryd.func34, Tryd.ntmps34
  go_wp2
  go_loopw [0, 9] (fun b i wr => ∃ (k n : Nat) (A : Option Addr) (c : Nat), k ≤ ps.length ∧ i = .int .i64 k ∧ b = .slice A n c ∧ n ≤ 1000000 + k * 1000010 ∧ Hid (n = (l ++ encs (ps.take k)).length ∧ wr.ownsRow B 5 1 (.slice A n c) n ((l ++ encs (ps.take k)).map u8v) ∧ Onto w (.slice A0 l.length c0) wr (.slice A n c))) (fun _ i _ => ps.length - (intOf i).toNat)
  case atStart => exact ⟨0, l.length, A0, c0, Nat.zero_le _, rfl, rfl, by omega, hide ⟨by simp [encs], by simpa [encs] using unhide H0, Onto.refl _ _⟩⟩
  case round =>
    obtain ⟨k, n, A, c, hk, rfl, rfl, hn, HI⟩ := hrel
    by_cases hlt : k < ps.length
    · have hpw : Parts wr (.slice A1 ps.length c1) ps := unhide HS wr (unhide HI).2.2.chg
      obtain ⟨vs, q1, q2, q3⟩ := hpw
      obtain ⟨u, q4, q5⟩ := q3 k ps[k] (List.getElem?_eq_getElem hlt)
      obtain ⟨b, o, c', u', hv, _, _, hb, hu, hcc⟩ := q2.at1 hlt
      cases hv
      rw [q4] at hu
      cases hu
      obtain ⟨Au, cu, rfl⟩ : ∃ A c, u = .slice A ps[k].length c := by obtain ⟨_, A, c, h, _⟩ := q5; exact ⟨A, c, h⟩
      have hpk := unhide HPL ps[k] (List.getElem_mem hlt)
      have HQ5 := hide q5
      have HE := hide (encs_step ps k hlt)
      clear q1 q2 q3 q4 q5
      have hwl := wBytes_length ps[k]
      generalize ps[k] = p at *
      have HW := hide (fun w => wbytes_any (strOf p) w (by rw [strOf_size]; omega))
      rw [strOf_list] at HW
      go_wp2_with (first
        | (refine wpList_strOf (src := 24) (dst := 9) (x := .tmp 14) (l := p) rfl rfl Tryd.underlying24 Tryd.underlying5 Tryd.underlying9 rfl (unhide HQ5) ?_)
        | (go_at_call 46; refine (unhide HW _).mono ?_; rintro e w3 ⟨A3, c3, rfl, ho3, hE3⟩; have H3 := hide (And.intro ho3 hE3); clear ho3 hE3)
        | (at_builtin; refine wpList_app rfl rfl u8_row rfl (ownsRow_ext (unhide HI).2.1 (unhide H3).2) rfl (Reads.of_own (unhide H3).1) (AllOne.u8 _) (by omega) (Nat.le_trans hB (Nat.le_trans (unhide HI).2.2.chg.size (unhide H3).2.size')) ?_; intro A' c4 w4 ho hc hv; have H4 := hide (And.intro ho (((unhide HI).2.2.ext (unhide H3).2).trans (Onto.app hc hv))); clear ho hc hv))
      go_roundw
      case rel =>
        refine ⟨k + 1, n + (wBytes p).length, A', c4, by omega, by go_num, rfl, by rw [Nat.succ_mul]; omega, hide ⟨?_, ?_, (unhide H4).2⟩⟩
        · rw [unhide HE, ← List.append_assoc, List.length_append, ← (unhide HI).1]
        · rw [unhide HE, ← List.append_assoc, List.map_append]
          exact (unhide H4).1
      case measure => simp [intOf]; omega
    · obtain rfl : k = ps.length := by omega
      go_wp2
      go_ret
      obtain ⟨h1, h2, h3⟩ := unhide HI
      rw [List.take_length] at h1 h2
      subst h1
      exact ⟨A, c, rfl, h2, h3⟩
def tagByte (t : Int) : UInt8 := UInt8.ofNat (t % 256).toNat
theorem tag_wrap (t : Int) : t % 256 = ((tagByte t).toNat : Int) := by
  unfold tagByte; simp; omega
def digestS (tag : Int) (ps : List (List UInt8)) : List UInt8 := (sha ([tagByte tag] ++ encs ps)).take 16
def deriveS (key label : List UInt8) (ps : List (List UInt8)) : List UInt8 := mac key (wBytes label ++ encs ps)
theorem digestS_length (tag : Int) (ps : List (List UInt8)) : (digestS tag ps).length = 16 := by unfold digestS; rw [List.length_take, sha_length]; omega
theorem deriveS_length (key label : List UInt8) (ps : List (List UInt8)) : (deriveS key label ps).length = 16 := mac_length _ _
theorem digest_short (tag : Int) (ps : List (List UInt8)) (w : World) : Calls Tryd.prog 32 #[.agg ((sha ([tagByte tag] ++ encs ps)).map u8v).toArray] w fun e w' => e = .returned (.agg ((digestS tag ps).map u8v).toArray) ∧ Ext w w' := short_any _ _ (sha_length _)
set_option maxHeartbeats 1000000 in
theorem digest_any (tag : Int) (ps : List (List UInt8)) (pv : Value) (w : World) (hM : ShaMem w) (hp : Parts w pv ps) (hps : ps.length ≤ 1000) (hpl : ∀ p ∈ ps, p.length ≤ 10000) :
    Calls Tryd.prog 18 #[.int .i64 tag, pv] w fun e w' => e = .returned (.agg ((digestS tag ps).map u8v).toArray) ∧ Ext w w' := by
  have HM := hide hM
  have HP := hide hp
  have HPL := hide hpl
  have HT := hide (tag_wrap tag)
  have HB := hide (encs_bound ps 10000 hpl)
  clear hM hp hpl
  go_enter Tryd.func18, Tryd.ntmps18
  go_wp2_with fail
  rw [unhide HT]
  refine (join_any _ [tagByte tag] _ ps (w.heap.size + 1) _ ?h1 ?h2 ?h3 (by simp) hps ?h4 ?h5).mono ?_
  case h1 => exact own_one' _ _ _ _ (by simp) (by simp)
  case h2 => simp
  case h3 => exact (unhide HP).ext (((Ext.refl w).alloc _).alloc _)
  case h4 => intro p hp; have := unhide HPL p hp; omega
  case h5 =>
    intro X hX
    refine (unhide HP).ext ((((Ext.refl w).alloc _).alloc _).trans' hX (fun _ _ h => h) (fun i hi e => ?_))
    simp [Value.ownBlock] at e
    omega
  rintro e w1 ⟨A, c, rfl, ho, hO⟩
  have hE : Ext w w1 := (((Ext.refl w).alloc _).alloc _).trans' hO.chg (fun _ _ h => h) (fun i hi e => by simp [Value.ownBlock] at e; omega)
  have hB : Blk w1 w.heap.size 23 (Array.replicate 16 (.int .u8 0)) := ((Blk.new w 23 (Array.replicate 16 (.int .u8 0))).alloc _).chg hO.chg (by intro e; simp [Value.ownBlock] at e)
  have H1 := hide (And.intro ho (And.intro hE hB))
  clear ho hO hE hB
  go_wp2_with fail
  refine (sum_any ([tagByte tag] ++ encs ps) _ _ ((unhide HM).ext (unhide H1).2.1) ?hr ?hl).mono ?_
  case hr => have := Reads.of_own (unhide H1).1; first | exact this | (rw [List.length_append] at this; rw [List.length_append]; exact this) | (simp only [List.length_append, List.length_cons, List.length_nil] at this ⊢; exact this)
  case hl =>
    have := unhide HB
    have h2 : ps.length * (10000 + 10) ≤ 1000 * (10000 + 10) := Nat.mul_le_mul_right _ hps
    simp
    omega
  rintro e w2 ⟨rfl, hE2⟩
  go_wp2_with fail
  refine (digest_short tag ps _).mono ?_
  rintro e w3 ⟨rfl, hE3⟩
  have H3 := hide (And.intro ((unhide H1).2.1.trans (hE2.trans hE3)) ((unhide H1).2.2.ext (hE2.trans hE3)))
  clear hE2 hE3
  go_wp2_with (refine wpList_storeB (ty := 23) (t := 23) (x := .tmp 4) (y := .tmp 11) rfl rfl digest_wide rfl rfl (unhide H3).2 (by simp) ?_ (bytes_one _) ?_; (focus (simpa using digestS_length tag ps)); intro w4 hb4 hc4 hz4; have H4 := hide (And.intro hb4 hc4); clear hb4 hc4 hz4)
  refine bodyPost_ret (v := .agg ((digestS tag ps).map u8v).toArray) (results_blk digest_wide rfl (unhide H4).1 (by simpa using digestS_length tag ps) rfl) rfl ⟨rfl, ?_⟩
  exact (unhide H3).1.trans' (unhide H4).2 (fun _ _ h => h) (fun i hi e => by omega)
set_option maxHeartbeats 1000000 in
theorem derive_any (key : List UInt8) (kv : Value) (label : ByteArray) (ps : List (List UInt8)) (pv : Value) (w : World) (hM : ShaMem w) (hk : Reads w 1 kv key.length (key.map u8v)) (hkl : key.length ≤ 10000) (hll : label.size ≤ 10000) (hp : Parts w pv ps) (hps : ps.length ≤ 90) (hpl : ∀ p ∈ ps, p.length ≤ 10000) :
    Calls Tryd.prog 67 #[kv, .string label, pv] w fun e w' => e = .returned (.agg ((deriveS key label.data.toList ps).map u8v).toArray) ∧ Ext w w' := by
  have HM := hide hM
  have HK := hide hk
  have HP := hide hp
  have HPL := hide hpl
  have HB := hide (encs_bound ps 10000 hpl)
  have HW := hide (fun w => wbytes_any label w (by omega))
  have HWL := hide (show (wBytes label.data.toList).length ≤ 10 + label.size from wBytes_length label.data.toList)
  clear hM hp hpl hk
  go_enter Tryd.func67, Tryd.ntmps67
  go_wp2_with fail
  refine (unhide HW _).mono ?_
  rintro e w1 ⟨A1, c1, rfl, ho1, hE1⟩
  have H1 := hide (And.intro ho1 hE1)
  clear ho1 hE1
  have hge : Hid (∀ k, (Value.slice A1 (wBytes label.data.toList).length c1).ownBlock = some k → w.heap.size + 1 ≤ k) := hide (fun k hk => by have := ((unhide H1).1.lt k hk).1; simp at this; omega)
  go_wp2_with fail
  refine (join_any _ (wBytes label.data.toList) _ ps (w.heap.size + 1) _ ?h1 ?h2 ?h3 ?h6 (by omega) ?h4 ?h5).mono ?_
  case h1 => have := (unhide H1).1; simp only [World.size_alloc] at this; exact this
  case h2 => have := (unhide H1).2.size'; simp at this; omega
  case h3 => exact (unhide HP).ext (((Ext.refl w).alloc _).trans (unhide H1).2)
  case h6 => have := unhide HWL; omega
  case h4 => intro p hp; have := unhide HPL p hp; omega
  case h5 =>
    intro X hX
    refine (unhide HP).ext ((((Ext.refl w).alloc _).trans (unhide H1).2).trans' hX (fun _ _ h => h) (fun i hi e => ?_))
    have := unhide hge i e
    omega
  rintro e w2 ⟨A, c, rfl, ho, hO⟩
  have hE : Ext w w2 := (((Ext.refl w).alloc _).trans (unhide H1).2).trans' hO.chg (fun _ _ h => h) (fun i hi e => by have := unhide hge i e; omega)
  have hB : Blk w2 w.heap.size 23 (Array.replicate 16 (.int .u8 0)) := ((Blk.new w 23 (Array.replicate 16 (.int .u8 0))).ext (unhide H1).2).chg hO.chg (by intro e; have := unhide hge _ e; omega)
  have H2 := hide (And.intro ho (And.intro hE hB))
  clear ho hO hE hB
  go_wp2_with fail
  refine (mac_any key (wBytes label.data.toList ++ encs ps) _ _ _ ((unhide HM).ext (unhide H2).2.1) ((unhide HK).ext (unhide H2).2.1) ?hr (by omega) ?hl).mono ?_
  case hr => have := Reads.of_own (unhide H2).1; rw [List.length_append] at this; rw [List.length_append]; exact this
  case hl =>
    have := unhide HB
    have := unhide HWL
    have h2 : ps.length * (10000 + 10) ≤ 90 * (10000 + 10) := Nat.mul_le_mul_right _ hps
    simp
    omega
  rintro e w3 ⟨rfl, hE3⟩
  have H3 := hide (And.intro ((unhide H2).2.1.trans hE3) ((unhide H2).2.2.ext hE3))
  clear hE3
  go_wp2_with (refine wpList_storeB (ty := 23) (t := 23) (x := .tmp 6) (y := .tmp 12) rfl rfl digest_wide rfl rfl (unhide H3).2 (by simp) ?_ (bytes_one _) ?_; (focus (first | (simpa using deriveS_length _ _ _) | (simpa using mac_length _ _))); intro w4 hb4 hc4 hz4; have H4 := hide (And.intro hb4 hc4); clear hb4 hc4 hz4)
  refine bodyPost_ret (v := .agg ((deriveS key label.data.toList ps).map u8v).toArray) (results_blk digest_wide rfl (unhide H4).1 (by simpa using deriveS_length _ _ _) rfl) rfl ⟨rfl, ?_⟩
  exact (unhide H3).1.trans' (unhide H4).2 (fun _ _ h => h) (fun i hi e => by omega)
end Go.Proofs.YtihghljfmlbfhaaDoor


namespace Go.Proofs.YtihghljfmlbfhaaDoor
open Go.RowKit
end Go.Proofs.YtihghljfmlbfhaaDoor


namespace Go.Proofs.YtihghljfmlbfhaaDoor
open Go.RowKit
theorem ylm {S : World → Prop} {ops : Array Oper} {o : Oper} {a : Act} {T : TypeId} {n : Nat} (Wd : Wide Tryd.prog T n) {x : Operand} (ho : o.op = .load T x) (hw : Region.wanted o (yielded ops a.tmps) = true) {g off : Nat} {cs : List Value} (hx : a.eval x = .pointer (some ⟨g, off, none⟩)) (hn : cs.length = n) (hB : ∀ w, S w → w.rangeAt g off cs) : YieldsIf Tryd.prog ops S o (.agg cs.toArray) a := by
  obtain ⟨d, hu, hd⟩ := Wd.und
  exact yieldsIf_load_mid (P := Tryd.prog) (S := S) hw T x ho g off hx cs d hB hu hd (by rw [hn]; exact Wd.info)
theorem ylb {S : World → Prop} {ops : Array Oper} {o : Oper} {a : Act} {T : TypeId} {n : Nat} (Wd : Wide Tryd.prog T n) {x : Operand} (ho : o.op = .load T x) (hw : Region.wanted o (yielded ops a.tmps) = true) {g : Nat} {t : TypeId} {cs : Array Value} (hx : a.eval x = .pointer (some ⟨g, 0, none⟩)) (hn : cs.size = n) (hB : ∀ w, S w → Blk w g t cs) : YieldsIf Tryd.prog ops S o (.agg cs) a := by
  have := ylm (S := S) (ops := ops) (o := o) (a := a) Wd ho hw (cs := cs.toList) hx (by rw [Array.length_toList, hn]) (fun w h => (hB w h).range)
  rwa [Array.toArray_toList] at this
theorem rangeAt_ext {w w' : World} {g o : Nat} {cs : List Value} (h : w.rangeAt g o cs) (hE : Ext w w') : w'.rangeAt g o cs := fun j v hj => Ext.cellv hE (h j v hj)
theorem made_ext {w w1 w2 : World} {o : Obj} (h : Ext w w1) (hc : Chg (fun k => k = w1.heap.size) (w1.alloc o) w2) : Ext w w2 := (h.alloc _).trans' hc (fun _ _ h => h) (fun i hi e => by have := h.size'; omega)
theorem made_ext1 {w1 w2 : World} {o : Obj} (hc : Chg (fun k => k = w1.heap.size) (w1.alloc o) w2) : Ext w1 w2 := made_ext (Ext.refl w1) hc
theorem wpList_loadMG {P : Program} {ops : Array Oper} {rest : List Oper} {o : Oper} {a : Act} {w : World} {Q : Exit → Act → World → Prop} (hgd : Region.wanted o (yielded ops a.tmps) = true) {ty : TypeId} {x : Operand} (ho : o.op = .load ty x) {n : Nat} (W : Wide P ty n)
    {g off : Nat} (hx : a.eval x = .pointer (some ⟨g, off, none⟩)) {cs : List Value} (hB : w.rangeAt g off cs) (hn : cs.length = n) (h : wpList P ops Q rest (a.put o.dst (.agg cs.toArray)) w) : wpList P ops Q (o :: rest) a w := by
  obtain ⟨d, hu, hd⟩ := W.und
  exact Go.BigFrame.wpList_want hgd fun _ hK => wp_load_mid ty x ho g off hx cs d hB hu hd (by rw [hn]; exact W.info) (hK _ _ h)
end Go.Proofs.YtihghljfmlbfhaaDoor


namespace Go.Proofs.YtihghljfmlbfhaaDoor
open Go.RowKit
theorem u8_plain : Tryd.prog.plainKey 5 = true := by kernel_rfl
theorem u8_one : Tryd.prog.cellsOf 5 = 1 := by kernel_rfl
set_option maxRecDepth 100000 in
theorem eq16 {a b : List UInt8} (ha : a.length = 16) (hb : b.length = 16) (w : World) : (binOp .eql 23 (.agg (a.map u8v).toArray) (.agg (b.map u8v).toArray)).run Tryd.prog w = .ok (.bool (decide (a = b))) w :=
  run_eql_bytes (inf := _) Tryd.underlying23 Tryd.underlying5 u8_plain rfl u8_one ha hb w
end Go.Proofs.YtihghljfmlbfhaaDoor


namespace Go.Proofs.YtihghljfmlbfhaaDoor
open Go.RowKit
def dcells (ds : List (List UInt8)) : List Value := ds.flatMap fun d => d.map u8v
def D16 (ds : List (List UInt8)) : Prop := ∀ d ∈ ds, d.length = 16
theorem D16.cons {d : List UInt8} {ds : List (List UInt8)} (h : D16 (d :: ds)) : d.length = 16 ∧ D16 ds := ⟨h d List.mem_cons_self, fun x hx => h x (List.mem_cons_of_mem _ hx)⟩
theorem D16.nil : D16 [] := fun d h => by cases h
theorem D16.append {a b : List (List UInt8)} (h : D16 a) (k : D16 b) : D16 (a ++ b) := fun d hd => (List.mem_append.1 hd).elim (h d) (k d)
theorem D16.one {d : List UInt8} (h : d.length = 16) : D16 [d] := fun x hx => by simp at hx; subst hx; exact h
theorem D16.get {ds : List (List UInt8)} (h : D16 ds) {k : Nat} (hk : k < ds.length) : ds[k].length = 16 := h _ (List.getElem_mem hk)
theorem dcells_append (a b : List (List UInt8)) : dcells (a ++ b) = dcells a ++ dcells b := List.flatMap_append
theorem dcells_one (d : List UInt8) : dcells [d] = d.map u8v := by unfold dcells; simp
theorem dcells_length : ∀ {ds : List (List UInt8)}, D16 ds → (dcells ds).length = ds.length * 16
  | [], _ => rfl
  | d :: ds, h => by
    have := dcells_length h.cons.2
    unfold dcells at this ⊢
    rw [List.flatMap_cons, List.length_append, this, List.length_map, h.cons.1, List.length_cons]
    omega
theorem dcells_at : ∀ {ds : List (List UInt8)}, D16 ds → ∀ (k : Nat) (hk : k < ds.length) (j : Nat), j < 16 → (dcells ds)[k * 16 + j]? = (ds[k].map u8v)[j]?
  | [], _, k, hk, _, _ => by simp at hk
  | d :: ds, h, 0, _, j, hj => by
    unfold dcells
    rw [List.flatMap_cons, List.getElem?_append_left (by rw [List.length_map, h.cons.1]; omega)]
    simp
  | d :: ds, h, k + 1, hk, j, hj => by
    have := dcells_at h.cons.2 k (by simpa using hk) j hj
    unfold dcells at this ⊢
    rw [List.flatMap_cons, List.getElem?_append_right (by rw [List.length_map, h.cons.1]; omega), List.length_map, h.cons.1, show (k + 1) * 16 + j - 16 = k * 16 + j from by omega, this]
    rfl
def Digs (w : World) (v : Value) (ds : List (List UInt8)) : Prop := D16 ds ∧ Reads w 16 v ds.length (dcells ds)
section
variable {w w' : World} {v : Value} {ds : List (List UInt8)}
theorem Digs.ext (h : Digs w v ds) (hE : Ext w w') : Digs w' v ds := ⟨h.1, h.2.ext hE⟩
theorem Digs.nil (w : World) : Digs w (.slice none 0 0) [] := ⟨D16.nil, Reads.nil w 16⟩
theorem Digs.form (h : Digs w v ds) : ∃ A c, v = .slice A ds.length c ∧ ds.length ≤ c ∧ c ≤ maxLen := by
  obtain ⟨_, _, A, c, h, h1, h2, _⟩ := h
  exact ⟨A, c, h, h1, h2⟩
theorem Digs.at (h : Digs w v ds) {k : Nat} (hk : k < ds.length) : ∃ b o c, v = .slice (some ⟨b, o, none⟩) ds.length c ∧ ds.length ≤ c ∧ c ≤ maxLen ∧ b < w.heap.size ∧ w.rangeAt b (o + k * 16) (ds[k].map u8v) := by
  obtain ⟨hd, hl, A, c, rfl, h1, h2, h3⟩ := h
  obtain ⟨b, o, rfl, hc⟩ := h3 (by omega)
  have hlk := hd.get hk
  refine ⟨b, o, c, rfl, h1, h2, ?_, fun j u hu => ?_⟩
  · have e := dcells_at hd k hk 0 (by omega)
    have e2 : (ds[k].map u8v)[0]? = some (u8v (ds[k][0]'(by omega))) := by rw [List.getElem?_map, List.getElem?_eq_getElem (show 0 < ds[k].length by omega)]; rfl
    exact lt_of_cell (hc _ _ (e.trans e2))
  · have hj : j < 16 := by
      rcases Nat.lt_or_ge j 16 with h | h
      · exact h
      · rw [List.getElem?_eq_none (by rw [List.length_map]; omega)] at hu; cases hu
    rw [Nat.add_assoc]
    exact hc _ _ ((dcells_at hd k hk j hj).trans hu)
theorem Digs.sub (h : Digs w v ds) (i m c' : Nat) (hi : i + m ≤ ds.length) (hm : 0 < m) (hc1 : m ≤ c') (hc2 : c' ≤ maxLen) :
    ∃ b o c, v = .slice (some ⟨b, o, none⟩) ds.length c ∧ Digs w (.slice (some ⟨b, o + i * 16, none⟩) m c') ((ds.drop i).take m) := by
  obtain ⟨b, o, c, rfl, h1, h2, hb, _⟩ := h.at (k := i) (by omega)
  obtain ⟨hd, hl, A, c2, e, _, _, h3⟩ := h
  cases e
  obtain ⟨b', o', e, hc⟩ := h3 (by omega)
  cases e
  have hd' : D16 ((ds.drop i).take m) := fun d hx => hd d (List.mem_of_mem_drop (List.mem_of_mem_take hx))
  have hlen : ((ds.drop i).take m).length = m := by simp; omega
  refine ⟨b, o, c, rfl, hd', ?_⟩
  rw [hlen]
  refine ⟨by rw [dcells_length hd', hlen], _, c', rfl, hc1, hc2, fun _ => ⟨b, o + i * 16, rfl, fun j u hu => ?_⟩⟩
  have hj : j < m * 16 := by
    rcases Nat.lt_or_ge j (m * 16) with h | h
    · exact h
    · rw [List.getElem?_eq_none (by rw [dcells_length hd', hlen]; omega)] at hu; cases hu
  have e1 := dcells_at hd' (j / 16) (by rw [hlen]; omega) (j % 16) (by omega)
  have e2 := dcells_at hd (i + j / 16) (by omega) (j % 16) (by omega)
  rw [show j / 16 * 16 + j % 16 = j from by omega, hu] at e1
  have e3 : ((ds.drop i).take m)[j / 16]'(by rw [hlen]; omega) = ds[i + j / 16]'(by omega) := by simp
  rw [e3, ← e2] at e1
  have := hc _ _ e1.symm
  rw [show (o + i * 16 + j) = o + ((i + j / 16) * 16 + j % 16) from by omega]
  exact this
end
theorem digs_row : SlTy Tryd.prog 43 23 16 16 := SlTy.mk' (z := .agg (Array.replicate 16 (.int .u8 0))) (by kernel_rfl) (by kernel_rfl) rfl (by omega) (by omega)
theorem fold_set : ∀ (l : List Value) (pre old : List Value), old.length = l.length → (l.zipIdx pre.length).foldl (fun (acc : Array Value) x => acc.setIfInBounds (0 + x.2) x.1) (pre ++ old).toArray = (pre ++ l).toArray
  | [], pre, old, h => by cases old with | nil => rfl | cons => simp at h
  | v :: l, pre, old, h => by
    cases old with
    | nil => simp at h
    | cons x old =>
      rw [List.zipIdx_cons, List.foldl_cons]
      have e : (pre ++ x :: old).toArray.setIfInBounds (0 + pre.length) v = ((pre ++ [v]) ++ old).toArray := by simp
      have := fold_set l (pre ++ [v]) old (by simpa using h)
      simp only [List.length_append, List.length_cons, List.length_nil, Nat.zero_add, List.append_assoc, List.singleton_append] at this e ⊢
      rw [e]
      exact this
theorem fill_one (old cs : Array Value) (n : Nat) (ho : old.size = n) (hc : cs.size = n) : Instr.fill (fun i => some (i * n, n)) old [(0, .agg cs)] = some cs := by
  unfold Instr.fill
  simp only [Nat.zero_mul]
  have h1 : (Value.agg cs).cells = cs := rfl
  rw [h1, if_neg (by simp; omega)]
  unfold Instr.fill
  have := fold_set cs.toList [] old.toList (by simp; omega)
  simp only [List.length_nil, List.nil_append, Array.toArray_toList] at this
  rw [← Array.foldl_toList, Array.toList_zipIdx]
  exact congrArg some this
section
variable {P : Program}
theorem wp_build1 {o : Oper} {a : Act} {w : World} {K : Act → World → Prop} {Q : Exit → Act → World → Prop} {t e : TypeId} {size bytes : Nat} (T : SlTy P t e size bytes) (hsz : size ≤ 1000) {x : Operand} (ho : o.op = .buildSlice t 1 #[(0, x)]) {cs : Array Value} (hx : a.eval x = .agg cs) (hn : cs.size = size)
    (h : K (a.put o.dst (.slice (some ⟨w.heap.size, 0, none⟩) 1 1)) (w.alloc (.cells cs e))) : o.wp P a w K Q := by
  obtain ⟨ht, ⟨i, z, hi, hz, hsize, _, hzs⟩, h0, _⟩ := T
  refine wp_buildSlice t e 1 #[(0, x)] ho cs i z ht hi hz (by rw [hsize]; omega) (by rw [hsize]; omega) ?_ h
  rw [hsize]
  have := fill_one ((Array.range (1 * size)).map (z.cells[· % z.cells.size]!)) cs size (by simp) hn
  simpa [hx] using this
theorem wpList_build1 {ops : Array Oper} {rest : List Oper} {o : Oper} {a : Act} {w : World} {Q : Exit → Act → World → Prop} (hgd : o.guard = none) {t e : TypeId} {size bytes : Nat} (T : SlTy P t e size bytes) (hsz : size ≤ 1000) {x : Operand} (ho : o.op = .buildSlice t 1 #[(0, x)]) {cs : Array Value} (hx : a.eval x = .agg cs) (hn : cs.size = size)
    (h : wpList P ops Q rest (a.put o.dst (.slice (some ⟨w.heap.size, 0, none⟩) 1 1)) (w.alloc (.cells cs e))) : wpList P ops Q (o :: rest) a w :=
  wpList_plain hgd fun _ hK => wp_build1 T hsz ho hx hn (hK _ _ h)
end
theorem Reads.newD (w : World) (e : TypeId) (d : List UInt8) (h : d.length = 16) {g : Nat} (hg : g = w.heap.size) : Reads (w.alloc (.cells (d.map u8v).toArray e)) 16 (.slice (some ⟨g, 0, none⟩) 1 1) 1 (d.map u8v) := by
  subst hg
  refine ⟨by rw [List.length_map, h], _, 1, rfl, Nat.le_refl _, by unfold maxLen; omega, fun _ => ⟨_, 0, rfl, fun j u hu => ?_⟩⟩
  rw [Nat.zero_add, (Blk.new w e _).cell]
  simpa using hu
structure GD (w0 : World) (B : Nat) (v : Value) (n : Nat) (ds : List (List UInt8)) (wr : World) : Prop where
  own : wr.ownsRow B 23 16 v n (dcells ds)
  all : D16 ds
  ext : Ext w0 wr
  base : w0.heap.size ≤ B
  room : B ≤ wr.heap.size
theorem GD.nil {w0 wr : World} {B : Nat} (hE : Ext w0 wr) (hB : w0.heap.size ≤ B) (hR : B ≤ wr.heap.size) : GD w0 B (.slice none 0 0) 0 [] wr := ⟨World.ownsRow_nil _ _ _ _, D16.nil, hE, hB, hR⟩
theorem GD.len {w0 wr : World} {B n : Nat} {v : Value} {ds : List (List UInt8)} (h : GD w0 B v n ds wr) : ds.length = n := by have := h.own.1; rw [dcells_length h.all] at this; omega
theorem GD.to {w0 wr w1 : World} {B n : Nat} {v : Value} {ds : List (List UInt8)} (h : GD w0 B v n ds wr) (hE : Ext wr w1) : GD w0 B v n ds w1 := ⟨ownsRow_ext h.own hE, h.all, h.ext.trans hE, h.base, Nat.le_trans h.room hE.size'⟩
theorem GD.step {w0 wr w1 w2 : World} {B n n' : Nat} {v v' : Value} {ds : List (List UInt8)} {d : List UInt8} (hd : d.length = 16) (h : GD w0 B v n ds wr) (hE : Ext wr w1) (hc : Chg (fun k => v.ownBlock = some k) w1 w2) (ho : w2.ownsRow B 23 16 v' n' (dcells ds ++ d.map u8v)) : GD w0 B v' n' (ds ++ [d]) w2 :=
  ⟨by rw [dcells_append, dcells_one]; exact ho, h.all.append (D16.one hd), (h.ext.trans hE).trans' hc (fun _ _ h => h) (fun i hi e => by have := (h.own.lt i e).1; have := h.base; omega), h.base, Nat.le_trans h.room (Nat.le_trans hE.size' hc.size)⟩
theorem GD.digs {w0 wr : World} {B n : Nat} {v : Value} {ds : List (List UInt8)} (h : GD w0 B v n ds wr) : Digs wr v ds := ⟨h.all, by have := Reads.of_own h.own; rwa [← h.len] at this⟩
theorem GD.form {w0 wr : World} {B n : Nat} {v : Value} {ds : List (List UInt8)} (h : GD w0 B v n ds wr) : ∃ A c, v = .slice A n c := own_slice h.own
end Go.Proofs.YtihghljfmlbfhaaDoor


namespace Go.Proofs.YtihghljfmlbfhaaDoor
open Go.RowKit
theorem Parts.two {w : World} {pv a b : Value} {la lb : List UInt8} (h : Reads w 1 pv 2 [a, b]) (ha : Reads w 1 a la.length (la.map u8v)) (hb : Reads w 1 b lb.length (lb.map u8v)) : Parts w pv [la, lb] :=
  ⟨[a, b], rfl, h, fun i p hp => by
    match i, hp with
    | 0, hp => cases hp; exact ⟨_, rfl, ha⟩
    | 1, hp => cases hp; exact ⟨_, rfl, hb⟩
    | i + 2, hp => simp at hp⟩
theorem Parts.one {w : World} {pv a : Value} {la : List UInt8} (h : Reads w 1 pv 1 [a]) (ha : Reads w 1 a la.length (la.map u8v)) : Parts w pv [la] :=
  ⟨[a], rfl, h, fun i p hp => by
    match i, hp with
    | 0, hp => cases hp; exact ⟨_, rfl, ha⟩
    | i + 1, hp => simp at hp⟩
theorem Blk.digR {w : World} {g : Nat} {t : TypeId} {d : List UInt8} (h : Blk w g t (d.map u8v).toArray) (hd : d.length = 16) : Reads w 1 (.slice (some ⟨g, 0, none⟩) 16 16) d.length (d.map u8v) := by
  have := Reads.of_blk h (i := 0) (n := 16) (c := 16) (by simp; omega) (by omega) (by unfold maxLen; omega)
  simp only [List.drop_zero] at this
  rw [List.take_of_length_le (by simp; omega)] at this
  rw [hd]
  exact this
theorem Reads.new2 (w : World) (a b : Value) (e : TypeId) {g : Nat} (hg : g = w.heap.size) : Reads (w.alloc (.cells #[a, b] e)) 1 (.slice (some ⟨g, 0, none⟩) 2 2) 2 [a, b] := by
  subst hg
  exact Reads.of_blk (Blk.new w e #[a, b]) (i := 0) (n := 2) (c := 2) (by simp) (by omega) (by unfold maxLen; omega)
theorem ShaMem.lt {w : World} (h : ShaMem w) : 1 < w.heap.size ∧ 0 < w.heap.size := ⟨lt_of_cell (h.k 0 _ rfl), lt_of_cell (h.h 0 _ rfl)⟩
theorem ShaMem.past {w0 w w' : World} {B : Nat} (h0 : ShaMem w0) (hB : w0.heap.size ≤ B) (h : ShaMem w) (hc : Chg (fun k => B ≤ k) w w') : ShaMem w' := h.chg hc (by have := h0.lt; omega) (by have := h0.lt; omega)
theorem mkfun (fn : Fn) (first cap : Array Value) (w : World) : (Instr.makeFunc fn first cap).run Tryd.prog w = .ok (.func fn first cap) w := rfl
theorem Digs.chg {S : Nat → Prop} {w w' : World} {v : Value} {ds : List (List UInt8)} (h : Digs w v ds) (hc : Chg S w w') (hS : ∀ k, v.ownBlock = some k → ¬ S k) : Digs w' v ds := ⟨h.1, h.2.chg hc (fun k _ hk => hS k hk)⟩
theorem ownsRow_base {w : World} {B B' : Nat} {e : TypeId} {size : Nat} {v : Value} {n : Nat} {xs : List Value} (h : w.ownsRow B e size v n xs) (hb : B' ≤ B) : w.ownsRow B' e size v n xs := by
  refine ⟨h.1, ?_⟩
  rcases h.2 with h | ⟨g, cap, cur, h1, h2, h3⟩
  · exact .inl h
  · exact .inr ⟨g, cap, cur, h1, Nat.le_trans hb h2, h3⟩
theorem results_two {P : Program} {fn : Func} {i j : Tmp} {T : TypeId} {n : Nat} (W : Wide P T n) (hf : fn.results = #[.cell i T, .tmp j]) {tmps : Array Value} {w : World} {b : Nat} {t : TypeId} {cs : Array Value} (hB : Blk w b t cs) (hn : cs.size = n) (ei : tmps.getD i undef = .pointer (some ⟨b, 0, none⟩)) {v : Value} (ej : tmps.getD j undef = v) :
    (results fn tmps).run P w = .ok (.tuple #[.agg cs, v]) w := by
  have h1 := loadVar_blk hB W hn
  subst ej
  simp only [Array.getD_eq_getD_getElem?] at ei
  simp [results, hf, ei, asAddr, h1]
theorem Digs.own_lt {w : World} {v : Value} {ds : List (List UInt8)} (h : Digs w v ds) (hn : 0 < ds.length) : ∀ k, v.ownBlock = some k → k < w.heap.size := h.2.own_lt (by omega) hn
theorem Reads.new1' (w : World) (u : Value) (e : TypeId) {g : Nat} (hg : g = w.heap.size) : Reads (w.alloc (.cells #[u] e)) 1 (.slice (some ⟨g, 0, none⟩) 1 1) 1 [u] := by subst hg; exact Reads.new1 w u e
end Go.Proofs.YtihghljfmlbfhaaDoor


namespace Go.Proofs.YtihghljfmlbfhaaDoor
def splitF : Nat → Nat → Nat → Nat
  | 0, k, _ => k
  | f + 1, k, n => if k < n - k then splitF f (2 * k) n else k
def splitS (n : Nat) : Nat := splitF n 1 n
theorem splitF_bounds : ∀ (f k n : Nat), 0 < k → k < n → 0 < splitF f k n ∧ splitF f k n < n
  | 0, k, n, h1, h2 => ⟨h1, h2⟩
  | f + 1, k, n, h1, h2 => by
    rw [splitF]
    split
    · exact splitF_bounds f (2 * k) n (by omega) (by omega)
    · exact ⟨h1, h2⟩
theorem splitS_bounds (n : Nat) (h : 1 < n) : 0 < splitS n ∧ splitS n < n := splitF_bounds n 1 n (by omega) h
def leafS (d : List UInt8) : List UInt8 := digestS 1 [d]
def nodeS (l r : List UInt8) : List UInt8 := digestS 2 [l, r]
theorem leafS_length (d : List UInt8) : (leafS d).length = 16 := digestS_length _ _
theorem nodeS_length (l r : List UInt8) : (nodeS l r).length = 16 := digestS_length _ _
def rootF : Nat → List (List UInt8) → List UInt8
  | _, [] => digestS 1 []
  | _, [d] => leafS d
  | 0, _ => []
  | f + 1, l => nodeS (rootF f (l.take (splitS l.length))) (rootF f (l.drop (splitS l.length)))
def rootS (l : List (List UInt8)) : List UInt8 := rootF l.length l
theorem rootF_fuel : ∀ (f g : Nat) (l : List (List UInt8)), l.length ≤ f → l.length ≤ g → rootF f l = rootF g l
  | f, g, [], _, _ => by cases f <;> cases g <;> rfl
  | f, g, [d], _, _ => by cases f <;> cases g <;> rfl
  | 0, g, a :: b :: l, h, _ => by simp at h
  | f + 1, 0, a :: b :: l, _, h => by simp at h
  | f + 1, g + 1, a :: b :: l, h1, h2 => by
    have hb := splitS_bounds (a :: b :: l).length (by simp)
    rw [rootF, rootF]
    rw [rootF_fuel f g ((a :: b :: l).take _) (by rw [List.length_take]; omega) (by rw [List.length_take]; omega), rootF_fuel f g ((a :: b :: l).drop _) (by rw [List.length_drop]; omega) (by rw [List.length_drop]; omega)]
    all_goals simp
theorem rootS_two (l : List (List UInt8)) (h : 1 < l.length) : rootS l = nodeS (rootS (l.take (splitS l.length))) (rootS (l.drop (splitS l.length))) := by
  have hb := splitS_bounds l.length h
  match l, h with
  | a :: b :: l, h =>
    unfold rootS
    rw [show (a :: b :: l).length = (b :: l).length + 1 from rfl, rootF]
    rw [rootF_fuel _ _ ((a :: b :: l).take _) (by rw [List.length_take]; simp at hb ⊢; omega) (Nat.le_refl _), rootF_fuel _ _ ((a :: b :: l).drop _) (by rw [List.length_drop]; simp at hb ⊢; omega) (Nat.le_refl _)]
    all_goals simp
end Go.Proofs.YtihghljfmlbfhaaDoor


namespace Go.Proofs.YtihghljfmlbfhaaDoor
def proveF : Nat → List (List UInt8) → Nat → List (List UInt8)
  | 0, _, _ => []
  | f + 1, l, i =>
    if l.length ≤ 1 then []
    else if i < splitS l.length then proveF f (l.take (splitS l.length)) i ++ [rootS (l.drop (splitS l.length))]
    else proveF f (l.drop (splitS l.length)) (i - splitS l.length) ++ [rootS (l.take (splitS l.length))]
def proveS (l : List (List UInt8)) (i : Nat) : List (List UInt8) := proveF l.length l i
theorem proveF_fuel : ∀ (f g : Nat) (l : List (List UInt8)) (i : Nat), l.length ≤ f → l.length ≤ g → proveF f l i = proveF g l i
  | 0, 0, _, _, _, _ => rfl
  | 0, g + 1, l, i, h, _ => by rw [proveF, proveF, if_pos (by omega)]
  | f + 1, 0, l, i, _, h => by rw [proveF, proveF, if_pos (by omega)]
  | f + 1, g + 1, l, i, h1, h2 => by
    rw [proveF, proveF]
    by_cases h : l.length ≤ 1
    · rw [if_pos h, if_pos h]
    · have hb := splitS_bounds l.length (by omega)
      rw [if_neg h, if_neg h]
      rw [proveF_fuel f g (l.take _) i (by rw [List.length_take]; omega) (by rw [List.length_take]; omega), proveF_fuel f g (l.drop _) _ (by rw [List.length_drop]; omega) (by rw [List.length_drop]; omega)]
theorem proveS_one (l : List (List UInt8)) (i : Nat) (h : l.length ≤ 1) : proveS l i = [] := by
  unfold proveS
  rcases hl : l.length with _ | n
  · rfl
  · rw [proveF, if_pos (by omega)]
theorem proveS_left (l : List (List UInt8)) (i : Nat) (h : 1 < l.length) (hi : i < splitS l.length) : proveS l i = proveS (l.take (splitS l.length)) i ++ [rootS (l.drop (splitS l.length))] := by
  have hb := splitS_bounds l.length h
  have hn : l.length = (l.length - 1) + 1 := by omega
  unfold proveS
  rw [hn, proveF, ← hn, if_neg (by omega), if_pos hi, proveF_fuel _ _ (l.take _) i (by rw [List.length_take]; omega) (Nat.le_refl _)]
theorem proveS_right (l : List (List UInt8)) (i : Nat) (h : 1 < l.length) (hi : ¬ i < splitS l.length) : proveS l i = proveS (l.drop (splitS l.length)) (i - splitS l.length) ++ [rootS (l.take (splitS l.length))] := by
  have hb := splitS_bounds l.length h
  have hn : l.length = (l.length - 1) + 1 := by omega
  unfold proveS
  rw [hn, proveF, ← hn, if_neg (by omega), if_neg hi, proveF_fuel _ _ (l.drop _) _ (by rw [List.length_drop]; omega) (Nat.le_refl _)]
def sidesF : Nat → Nat → Nat → List Bool
  | 0, _, _ => []
  | f + 1, n, i => if n ≤ 1 then [] else if i < splitS n then true :: sidesF f (splitS n) i else false :: sidesF f (n - splitS n) (i - splitS n)
def sidesS (n i : Nat) : List Bool := sidesF n n i
theorem sidesF_fuel : ∀ (f g n i : Nat), n ≤ f → n ≤ g → sidesF f n i = sidesF g n i
  | 0, 0, _, _, _, _ => rfl
  | 0, g + 1, n, i, h, _ => by rw [sidesF, sidesF, if_pos (by omega)]
  | f + 1, 0, n, i, _, h => by rw [sidesF, sidesF, if_pos (by omega)]
  | f + 1, g + 1, n, i, h1, h2 => by
    rw [sidesF, sidesF]
    by_cases h : n ≤ 1
    · rw [if_pos h, if_pos h]
    · have hb := splitS_bounds n (by omega)
      rw [if_neg h, if_neg h, sidesF_fuel f g (splitS n) i (by omega) (by omega), sidesF_fuel f g (n - splitS n) _ (by omega) (by omega)]
theorem sidesS_one (n i : Nat) (h : n ≤ 1) : sidesS n i = [] := by
  unfold sidesS
  rcases n with _ | n
  · rfl
  · rw [sidesF, if_pos h]
theorem sidesS_left (n i : Nat) (h : 1 < n) (hi : i < splitS n) : sidesS n i = true :: sidesS (splitS n) i := by
  have hb := splitS_bounds n h
  unfold sidesS
  obtain ⟨m, rfl⟩ : ∃ m, n = m + 1 := ⟨n - 1, by omega⟩
  rw [sidesF, if_neg (by omega), if_pos hi, sidesF_fuel m _ _ _ (by omega) (Nat.le_refl _)]
theorem sidesS_right (n i : Nat) (h : 1 < n) (hi : ¬ i < splitS n) : sidesS n i = false :: sidesS (n - splitS n) (i - splitS n) := by
  have hb := splitS_bounds n h
  unfold sidesS
  obtain ⟨m, rfl⟩ : ∃ m, n = m + 1 := ⟨n - 1, by omega⟩
  rw [sidesF, if_neg (by omega), if_neg hi, sidesF_fuel m _ _ _ (by omega) (Nat.le_refl _)]
def foldS (d : List UInt8) : List Bool → List (List UInt8) → List UInt8
  | s :: ss, p :: ps => foldS (if s then nodeS d p else nodeS p d) ss ps
  | _, _ => d
theorem foldS_nil (d : List UInt8) (ps : List (List UInt8)) : foldS d [] ps = d := by cases ps <;> rfl
theorem foldS_snoc : ∀ (ss : List Bool) (ps : List (List UInt8)) (d p : List UInt8) (s : Bool), ss.length = ps.length → foldS d (ss ++ [s]) (ps ++ [p]) = if s then nodeS (foldS d ss ps) p else nodeS p (foldS d ss ps)
  | [], [], d, p, s, _ => rfl
  | [], _ :: _, _, _, _, h => by simp at h
  | _ :: _, [], _, _, _, h => by simp at h
  | a :: ss, b :: ps, d, p, s, h => by
    rw [List.cons_append, List.cons_append, foldS, foldS]
    exact foldS_snoc ss ps _ p s (by simpa using h)
theorem foldS_length (d : List UInt8) (h : d.length = 16) : ∀ (ss : List Bool) (ps : List (List UInt8)), (foldS d ss ps).length = 16
  | [], _ => by rw [foldS_nil]; exact h
  | _ :: _, [] => h
  | s :: ss, p :: ps => by
    rw [foldS]
    apply foldS_length
    split <;> exact nodeS_length _ _
theorem foldS_take (d : List UInt8) (ss : List Bool) (ps : List (List UInt8)) (k : Nat) (h1 : k < ss.length) (h2 : k < ps.length) : foldS d (ss.take (k + 1)) (ps.take (k + 1)) = if ss[k] then nodeS (foldS d (ss.take k) (ps.take k)) ps[k] else nodeS ps[k] (foldS d (ss.take k) (ps.take k)) := by
  rw [List.take_succ_eq_append_getElem h1, List.take_succ_eq_append_getElem h2, foldS_snoc _ _ _ _ _ (by simp; omega)]
def verifyS (root : List UInt8) (n i : Nat) (leaf : List UInt8) (proof : List (List UInt8)) : Bool :=
  decide (i < n) && (decide ((sidesS n i).length = proof.length) && decide (foldS (leafS leaf) (sidesS n i).reverse proof = root))
theorem rootS_one (d : List UInt8) : rootS [d] = leafS d := rfl
theorem prove_spec : ∀ (n : Nat) (l : List (List UInt8)) (i : Nat) (d : List UInt8), l[i]? = some d → l.length ≤ n → (proveS l i).length = (sidesS l.length i).length ∧ foldS (leafS d) (sidesS l.length i).reverse (proveS l i) = rootS l
  | 0, l, i, d, hd, h => by
    obtain rfl : l = [] := List.eq_nil_of_length_eq_zero (by omega)
    simp at hd
  | n + 1, l, i, d, hd, h => by
    have hi : i < l.length := (List.getElem?_eq_some_iff.1 hd).1
    rcases Nat.lt_or_ge 1 l.length with h1 | h1
    · have hb := splitS_bounds l.length h1
      rw [rootS_two l h1]
      by_cases hk : i < splitS l.length
      · have hlen : (l.take (splitS l.length)).length = splitS l.length := by rw [List.length_take]; omega
        obtain ⟨e1, e2⟩ := prove_spec n (l.take (splitS l.length)) i d (by rw [List.getElem?_take, if_pos hk]; exact hd) (by omega)
        rw [hlen] at e1 e2
        rw [proveS_left l i h1 hk, sidesS_left _ i h1 hk]
        refine ⟨by simp [e1], ?_⟩
        rw [List.reverse_cons, foldS_snoc _ _ _ _ _ (by simp [e1]), e2]
        rfl
      · have hlen : (l.drop (splitS l.length)).length = l.length - splitS l.length := by rw [List.length_drop]
        obtain ⟨e1, e2⟩ := prove_spec n (l.drop (splitS l.length)) (i - splitS l.length) d (by rw [List.getElem?_drop, show splitS l.length + (i - splitS l.length) = i from by omega]; exact hd) (by omega)
        rw [hlen] at e1 e2
        rw [proveS_right l i h1 hk, sidesS_right _ i h1 hk]
        refine ⟨by simp [e1], ?_⟩
        rw [List.reverse_cons, foldS_snoc _ _ _ _ _ (by simp [e1]), e2]
        rfl
    · match l, hd with
      | [a], hd =>
        obtain rfl : i = 0 := by simpa using hi
        cases hd
        exact ⟨rfl, rfl⟩
      | a :: b :: l, _ => simp at h1
theorem prove_verifies (l : List (List UInt8)) (i : Nat) (d : List UInt8) (hd : l[i]? = some d) : verifyS (rootS l) l.length i d (proveS l i) = true := by
  have hi : i < l.length := (List.getElem?_eq_some_iff.1 hd).1
  obtain ⟨e1, e2⟩ := prove_spec l.length l i d hd (Nat.le_refl _)
  unfold verifyS
  rw [decide_eq_true hi, decide_eq_true e1.symm, decide_eq_true e2]
  rfl
theorem rootS_length (l : List (List UInt8)) : (rootS l).length = 16 := by
  rcases Nat.lt_or_ge 1 l.length with h | h
  · rw [rootS_two l h]; exact nodeS_length _ _
  · match l with
    | [] => exact digestS_length _ _
    | [d] => exact leafS_length d
    | a :: b :: l => simp at h
end Go.Proofs.YtihghljfmlbfhaaDoor


namespace Go.Proofs.YtihghljfmlbfhaaDoor
open Go.RowKit
set_option maxRecDepth 100000 in
set_option maxHeartbeats 2000000 in
theorem leaf_any (d : List UInt8) (w : World) (hM : ShaMem w) (hd : d.length = 16) :
    Calls Tryd.prog 19 #[.agg (d.map u8v).toArray] w fun e w' => e = .returned (.agg ((leafS d).map u8v).toArray) ∧ Ext w w' := by
  have HD := hide (fun (W : World) (pv : Value) (hE : Ext w W) (h1 : Reads W 1 pv 1 [.slice (some ⟨w.heap.size, 0, none⟩) 16 16]) (h3 : Blk W w.heap.size 23 (d.map u8v).toArray) =>
    digest_any 1 [d] pv W (hM.ext hE) (Parts.one h1 (h3.digR hd)) (by simp) (fun p hp => by simp at hp; subst hp; omega))
  obtain ⟨arr, harr⟩ : ∃ r, (d.map u8v).toArray = r := ⟨_, rfl⟩
  rw [harr] at HD ⊢
  have HR := hide (And.intro (show digestS 1 [d] = leafS d from rfl) (leafS_length d))
  obtain ⟨res, hres⟩ : ∃ r, leafS d = r := ⟨_, rfl⟩
  rw [hres] at HR ⊢
  clear harr hres hd
  go_enter Tryd.func19, Tryd.ntmps19
  go_wp2_with (first
    | (go_at_call 18; refine (unhide HD _ _ ((((Ext.refl w).alloc _).alloc _).alloc _) (Reads.new1' _ _ _ (g := w.heap.size + 1 + 1) (by simp)) (((Blk.new w _ _).alloc _).alloc _)).mono ?_; rintro e w5 ⟨rfl, hE5⟩; rw [(unhide HR).1]; have H5 := hide (And.intro (((((Ext.refl w).alloc _).alloc _).alloc _).trans hE5) (((Blk.new' (w.alloc (.cells arr 23)) 23 (Array.replicate 16 (.int .u8 0)) (g := w.heap.size + 1) (by simp)).alloc _).ext hE5)); clear hE5)
    | (refine wpList_storeB (ty := 23) (t := 23) (x := .tmp 2) (y := .tmp 5) rfl rfl digest_wide rfl rfl (unhide H5).2 rfl (by simpa using (unhide HR).2) (bytes_one _) ?_; intro w7 hb7 hc7 hz7; have H7 := hide (And.intro hb7 hc7); clear hb7 hc7 hz7))
  refine bodyPost_ret (v := .agg (res.map u8v).toArray) (results_blk digest_wide rfl (unhide H7).1 (by simpa using (unhide HR).2) rfl) rfl ⟨rfl, ?_⟩
  exact (unhide H5).1.trans' (unhide H7).2 (fun _ _ h => h) (fun i hi e => by omega)
set_option maxRecDepth 100000 in
set_option maxHeartbeats 2000000 in
theorem node_any (l r : List UInt8) (w : World) (hM : ShaMem w) (hl : l.length = 16) (hr : r.length = 16) :
    Calls Tryd.prog 21 #[.agg (l.map u8v).toArray, .agg (r.map u8v).toArray] w fun e w' => e = .returned (.agg ((nodeS l r).map u8v).toArray) ∧ Ext w w' := by
  have HD := hide (fun (W : World) (pv : Value) (hE : Ext w W) (h1 : Reads W 1 pv 2 [.slice (some ⟨w.heap.size, 0, none⟩) 16 16, .slice (some ⟨w.heap.size + 1, 0, none⟩) 16 16]) (h3 : Blk W w.heap.size 23 (l.map u8v).toArray) (h4 : Blk W (w.heap.size + 1) 23 (r.map u8v).toArray) =>
    digest_any 2 [l, r] pv W (hM.ext hE) (Parts.two h1 (h3.digR hl) (h4.digR hr)) (by simp) (fun p hp => by simp at hp; rcases hp with rfl | rfl <;> omega))
  obtain ⟨la, hla⟩ : ∃ x, (l.map u8v).toArray = x := ⟨_, rfl⟩
  obtain ⟨ra, hra⟩ : ∃ x, (r.map u8v).toArray = x := ⟨_, rfl⟩
  rw [hla, hra] at HD ⊢
  have HR := hide (And.intro (show digestS 2 [l, r] = nodeS l r from rfl) (nodeS_length l r))
  obtain ⟨res, hres⟩ : ∃ x, nodeS l r = x := ⟨_, rfl⟩
  rw [hres] at HR ⊢
  clear hla hra hres hl hr
  go_enter Tryd.func21, Tryd.ntmps21
  go_upto_region 1 with fail
  refine wp_region_held_drew (S := fun _ => True) (by kernel_rfl) trivial (fun hHeld => ?_)
  refine wpAnyH_take (i := 0) (oi := _) (v := ?_) rfl (by kernel_rfl) (by kernel_rfl) (by kernel_rfl) (fun _ _ _ h => h) (Or.inl ⟨by rfl, fun wz hSz => ?_⟩) (by assumption) ?_
  rotate_left
  · (first | (go_simp; done) | (go_simp; with_reducible rfl))
  try simp only [Act.put, List.setIfInBounds_toArray, List.set_cons_zero, List.set_cons_succ, List.getElem_toArray, List.getElem_cons_zero]
  refine wpAnyH_take (i := 1) (oi := _) (v := ?_) rfl (by kernel_rfl) (by kernel_rfl) (by kernel_rfl) (fun _ _ _ h => h) (Or.inl ⟨by rfl, fun wz hSz => ?_⟩) (by assumption) ?_
  rotate_left
  · (first | (go_simp; done) | (go_simp; with_reducible rfl))
  try simp only [Act.put, List.setIfInBounds_toArray, List.set_cons_zero, List.set_cons_succ, List.getElem_toArray, List.getElem_cons_succ, List.getElem_cons_zero]
  refine wpAnyH_ready (rs := [2]) (by kernel_rfl) (by simp) (AllReadyH.cons (o := _) rfl (fun K hK => ?_) AllReadyH.nil)
  try go_simp
  (have hS : True := trivial; clear hHeld)
  refine hK.out _ _ ?_ (fun hHeld => ?_)
  · exact hS
  clear hK K
  try simp only [Act.put, List.setIfInBounds_toArray, List.set_cons_zero, List.set_cons_succ, List.getElem_toArray, List.getElem_cons_succ, List.getElem_cons_zero]
  refine wpAnyH_ready (rs := [3]) (by kernel_rfl) (by simp) (AllReadyH.cons (o := _) rfl (fun K hK => ?_) AllReadyH.nil)
  try go_simp
  (refine (unhide HD _ _ (((((Ext.refl w).alloc _).alloc _).alloc _).alloc _).drew ((Reads.new2 _ _ _ _ (g := w.heap.size + 1 + 1 + 1) (by simp)).ext (Ext.refl _).drew) (((((Blk.new w _ _).alloc _).alloc _).alloc _).drew) ((((Blk.new' _ _ _ (by simp)).alloc _).alloc _).drew)).mono ?_; rintro e w3 ⟨rfl, hE3⟩; rw [(unhide HR).1]; have H3 := hide (And.intro ((((((Ext.refl w).alloc _).alloc _).alloc _).alloc _).drew.trans hE3) ((((Blk.new' ((w.alloc (.cells la 23)).alloc (.cells ra 23)) 23 (Array.replicate 16 (.int .u8 0)) (g := w.heap.size + 1 + 1) (by simp)).alloc _).drew).ext hE3)); have hS : True := trivial; clear hHeld hE3)
  refine hK.out _ _ ?_ (fun hHeld => ?_)
  · exact hS
  clear hK K
  try simp only [Act.put, List.setIfInBounds_toArray, List.set_cons_zero, List.set_cons_succ, List.getElem_toArray, List.getElem_cons_succ, List.getElem_cons_zero]
  refine wpAnyH_ready (rs := [4]) (by kernel_rfl) (by simp) (AllReadyH.cons (o := _) rfl (fun K hK => ?_) AllReadyH.nil)
  (refine step_storeB (ty := 23) (t := 23) (x := .tmp 4) (y := .tmp 8) rfl rfl digest_wide rfl rfl (unhide H3).2 rfl (by simpa using (unhide HR).2) (bytes_one _) ?_; intro w7 hb7 hc7 hz7; have H7 := hide (And.intro hb7 (Chg.trans' (unhide H3).1 hc7 (fun _ _ h => h) (fun i hi e => by omega))); have hS : True := trivial; clear hHeld hb7 hc7 hz7)
  refine hK.out _ _ ?_ (fun hHeld => ?_)
  · exact hS
  clear hK K
  try simp only [Act.put, List.getElem_toArray, List.getElem_cons_succ, List.getElem_cons_zero]
  refine wpAnyH_done (by kernel_rfl) ?_ _
  go_wp2
  refine bodyPost_ret (v := .agg (res.map u8v).toArray) (results_blk digest_wide rfl (unhide H7).1 (by simpa using (unhide HR).2) rfl) rfl ⟨rfl, ?_⟩
  exact (unhide H7).2
theorem split_exit (f k n : Nat) (h : ¬ k < n - k) : splitF f k n = k := by
  cases f with
  | zero => rfl
  | succ f => rw [splitF, if_neg h]
theorem split_step (f k n : Nat) (h : k < n - k) (hk : 0 < k) (hf : n ≤ f + k) : ∃ g, n ≤ g + 2 * k ∧ splitF g (2 * k) n = splitF f k n := by
  cases f with
  | zero => omega
  | succ f => exact ⟨f, by omega, by rw [splitF, if_pos h]⟩
set_option maxHeartbeats 1000000 in
theorem split_any (n : Nat) (w : World) (h1 : 1 < n) (h2 : n ≤ 1000000) : Calls Tryd.prog 20 #[.int .i64 (n : Int)] w fun e w' => e = .returned (.int .i64 ((splitS n : Nat) : Int)) ∧ w = w' := by
  have HB := hide (show splitF n 1 n = splitS n from rfl)
  go_enter Tryd.func20, Tryd.ntmps20
  go_wp2
  go_loop [3] (fun x => ∃ k : Nat, 0 < k ∧ k < n ∧ x = .int .i64 k ∧ Hid (∃ f, n ≤ f + k ∧ splitF f k n = splitS n)) (fun x => n - (intOf x).toNat)
  case atStart => exact ⟨1, by omega, h1, rfl, hide ⟨n, by omega, unhide HB⟩⟩
  case round =>
    obtain ⟨k, hk0, hk, rfl, HF⟩ := hrel
    by_cases hlt : k < n - k
    · have hltI : (k : Int) < (n : Int) - k := by omega
      go_wp2
      go_round
      case rel =>
        obtain ⟨f, hf, he⟩ := unhide HF
        obtain ⟨g, hg, hge⟩ := split_step f k n hlt hk0 hf
        exact ⟨2 * k, by omega, by omega, by go_num, hide ⟨g, hg, hge.trans he⟩⟩
      case measure => simp [intOf]; omega
    · have hltI : ¬ (k : Int) < (n : Int) - k := by omega
      go_wp2
      go_ret
      obtain ⟨f, hf, he⟩ := unhide HF
      rw [split_exit f k n hlt] at he
      exact ⟨ret_int (by omega), rfl⟩
end Go.Proofs.YtihghljfmlbfhaaDoor
