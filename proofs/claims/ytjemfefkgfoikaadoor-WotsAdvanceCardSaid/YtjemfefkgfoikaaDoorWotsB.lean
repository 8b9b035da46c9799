/-
  wots.advance, wots.start.
-/
import Derived.Test.YtjemfefkgfoikaaDoorWotsA
namespace Go.Proofs.YtjemfefkgfoikaaDoor
open Go.RowKit

set_option maxRecDepth 100000 in
set_option maxHeartbeats 4000000 in
theorem adv_any (k n : Nat) (v : List UInt8) (w : World) (hM : ShaMem w) (hv : v.length = 16) (hk : k < 1000) (hn : n < 1000) :
    Calls Tryd.prog 42 #[.int .i64 (k : Int), .agg (v.map u8v).toArray, .int .i64 (n : Int)] w fun e w' => e = .returned (.agg ((advS k v n).map u8v).toArray) ∧ Ext w w' := by
  have HM := hide hM
  have HW := hide (fun w => wint_any (k : Int) w (by omega) (by omega))
  have HD := hide (fun (j : Nat) (W : World) (A : Option Addr) (c : Nat) (pv : Value) (hE : Ext w W) (h1 : Reads W 1 pv 2 [.slice A (wInt k).length c, .slice (some ⟨w.heap.size, 0, none⟩) 16 16]) (h2 : Reads W 1 (.slice A (wInt k).length c) (wInt k).length ((wInt k).map u8v)) (h3 : Blk W w.heap.size 23 ((advS k v j).map u8v).toArray) =>
    digest_any 3 [wInt k, advS k v j] pv W (hM.ext hE) (Parts.two h1 h2 (h3.digR (advS_length k v hv j))) (by simp) (fun p hp => by have := wInt_length (k : Int); have := advS_length k v hv j; simp at hp; rcases hp with rfl | rfl <;> omega))
  have HL := hide (advS_length k v hv)
  have HS := hide (fun j => show digestS 3 [wInt k, advS k v j] = advS k v (j + 1) from rfl)
  obtain ⟨F, hF⟩ : ∃ F, advS k v = F := ⟨_, rfl⟩
  rw [hF] at HD HL HS ⊢
  have h0 : F 0 = v := by rw [← hF]; rfl
  clear hM
  go_enter Tryd.func42, Tryd.ntmps42
  go_wp2_with fail
  go_loopw [8] (fun i wr => ∃ j : Nat, j ≤ n ∧ i = .int .i64 j ∧ Hid (Blk wr w.heap.size 23 ((F j).map u8v).toArray ∧ Blk wr (w.heap.size + 1) 23 (Array.replicate 16 (.int .u8 0)) ∧ Ext w wr)) (fun i _ => n - (intOf i).toNat)
  case atStart => exact ⟨0, by omega, rfl, hide ⟨by rw [h0]; exact (Blk.new w _ _).alloc _, Blk.new' _ _ _ (by simp), ((Ext.refl w).alloc _).alloc _⟩⟩
  case round =>
    obtain ⟨j, hj, rfl, HI⟩ := hrel
    by_cases hlt : j < n
    · have HJ := hide (unhide HS j)
      have HL1 := hide (unhide HL (j + 1))
      have HLj := hide (unhide HL j)
      have HDj := hide (unhide HD j)
      go_upto_region 3 with fail
      go_region_law (first
        | (go_simp; go_at_call 48; refine (unhide HW _).mono ?_; rintro e w3 ⟨A3, c3, rfl, ho3, hE3⟩; have H3 := hide (And.intro (Reads.of_own ho3) (((Ext.refl wr).drew).trans hE3)); clear ho3 hE3)
        | (rename_i K hK; go_simp; go_at_call 26; refine (unhide HDj _ A3 c3 _ (((unhide HI).2.2.trans (unhide H3).2).alloc _) (Reads.new2 _ _ _ _ rfl) ((unhide H3).1.ext ((Ext.refl _).alloc _)) (((unhide HI).1.ext (unhide H3).2).alloc _)).mono ?_
           rintro e w5 ⟨rfl, hE5⟩
           rw [unhide HJ]
           have H5 := hide (((unhide H3).2.alloc _).trans hE5)
           clear hE5
           dsimp only
           refine hK _ _ ?_
           clear hK K
           refine wpAny_ready (rs := [5]) (by kernel_rfl) (by simp) (AllReady.cons rfl (fun J hJ => ?_) AllReady.nil)
           refine step_storeB (ty := 23) (t := 23) (x := .tmp 4) (y := .tmp 14) rfl rfl digest_wide rfl rfl ((unhide HI).1.ext (unhide H5)) (by simpa using unhide HLj) (by simpa using unhide HL1) (bytes_one _) ?_
           intro w6 hb6 hc6 hz6
           have H6 := hide (And.intro hb6 hc6)
           clear hb6 hc6 hz6
           refine hJ _ _ ?_
           clear hJ J))
      go_wp2
      go_roundw
      case rel => exact ⟨j + 1, by omega, by go_num, hide ⟨(unhide H6).1, ((unhide HI).2.1.ext (unhide H5)).chg (unhide H6).2 (by omega), ((unhide HI).2.2.trans (unhide H5)).trans' (unhide H6).2 (fun _ _ h => h) (fun i hi e => by omega)⟩⟩
      case measure => simp [intOf]; omega
    · obtain rfl : j = n := by omega
      go_wp2_with (first
        | (refine wpList_loadB (ty := 23) (t := 23) (x := .tmp 4) rfl rfl digest_wide rfl (unhide HI).1 (by simpa using unhide HL j) ?_)
        | (refine wpList_storeB (ty := 23) (t := 23) (x := .tmp 6) (y := .tmp 16) rfl rfl digest_wide rfl rfl (unhide HI).2.1 rfl (by simpa using unhide HL j) (bytes_one _) ?_; intro w7 hb7 hc7 hz7; have H7 := hide (And.intro hb7 hc7); clear hb7 hc7 hz7))
      refine bodyPost_ret (v := .agg ((F j).map u8v).toArray) (results_blk digest_wide rfl (unhide H7).1 (by simpa using unhide HL j) rfl) rfl ⟨rfl, ?_⟩
      exact (unhide HI).2.2.trans' (unhide H7).2 (fun _ _ h => h) (fun i hi e => by omega)

set_option maxRecDepth 100000 in
set_option maxHeartbeats 4000000 in
theorem start_any (k : Nat) (seed : List UInt8) (index : Int) (w : World) (hM : ShaMem w) (hv : seed.length = 16) (hk : k < 1000) (h1 : -9223372036854775808 ≤ index) (h2 : index < 9223372036854775808) :
    Calls Tryd.prog 46 #[.agg (seed.map u8v).toArray, .int .i64 index, .int .i64 (k : Int)] w fun e w' => e = .returned (.agg ((startS seed index k).map u8v).toArray) ∧ Ext w w' := by
  have HM := hide hM
  have HW := hide (fun w => wint_any index w h1 h2)
  have HW2 := hide (fun w => wint_any (k : Int) w (by omega) (by omega))
  have HD := hide (fun (W : World) (A A' : Option Addr) (c c' : Nat) (pv : Value) (hE : Ext w W) (h1 : Reads W 1 pv 2 [.slice A (wInt index).length c, .slice A' (wInt k).length c']) (h2 : Reads W 1 (.slice A (wInt index).length c) (wInt index).length ((wInt index).map u8v)) (h2' : Reads W 1 (.slice A' (wInt k).length c') (wInt k).length ((wInt k).map u8v)) (h3 : Blk W w.heap.size 23 (seed.map u8v).toArray) =>
    derive_any seed (.slice (some ⟨w.heap.size, 0, none⟩) 16 16) ⟨#[119, 111, 116, 115]⟩ [wInt index, wInt k] pv W (hM.ext hE) (h3.digR hv) (by omega) (by decide) (Parts.two h1 h2 h2') (by simp) (fun p hp => by have := wInt_length (k : Int); have := wInt_length index; simp at hp; rcases hp with rfl | rfl <;> omega))
  obtain ⟨arr, harr⟩ : ∃ r, (seed.map u8v).toArray = r := ⟨_, rfl⟩
  rw [harr] at HD ⊢
  obtain ⟨res, hres⟩ : ∃ r, startS seed index k = r := ⟨_, rfl⟩
  have HR := hide (And.intro hres (show res.length = 16 from by rw [← hres]; exact startS_length _ _ _))
  rw [hres]
  clear hM harr hres h1 h2
  have HT := hide True.intro
  go_enter Tryd.func46, Tryd.ntmps46
  go_upto_region 1 with fail
  go_region_law (first
    | (clear HT; go_simp; go_at_call 48; refine (unhide HW _).mono ?_; rintro e w3 ⟨A3, c3, rfl, ho3, hE3⟩; have H3 := hide (And.intro (Reads.of_own ho3) hE3); clear ho3 hE3)
    | (go_simp; go_at_call 48; refine (unhide HW2 _).mono ?_; rintro e w4 ⟨A4, c4, rfl, ho4, hE4⟩; have H4 := hide (And.intro (Reads.of_own ho4) hE4); clear ho4 hE4)
    | (rename_i K hK; go_simp; go_at_call 67; refine (unhide HD _ A3 A4 c3 c4 _ (((((Ext.refl w).alloc _).alloc _).drew.trans ((unhide H3).2.trans (unhide H4).2)).alloc _) (Reads.new2 _ _ _ _ rfl) (((unhide H3).1.ext (unhide H4).2).ext ((Ext.refl _).alloc _)) ((unhide H4).1.ext ((Ext.refl _).alloc _)) ((((Blk.new w _ _).alloc _).drew.ext ((unhide H3).2.trans (unhide H4).2)).alloc _)).mono ?_
       rintro e w5 ⟨rfl, hE5⟩
       rw [show deriveS seed (⟨#[119, 111, 116, 115]⟩ : ByteArray).data.toList [wInt index, wInt k] = res from (unhide HR).1]
       have H5 := hide ((((((Ext.refl w).alloc _).alloc _).drew.trans ((unhide H3).2.trans (unhide H4).2)).alloc _).trans hE5)
       have HB := hide ((((Blk.new' (w.alloc (.cells arr 23)) 23 (Array.replicate 16 (.int .u8 0)) (g := w.heap.size + 1) (by simp)).drew.ext ((unhide H3).2.trans (unhide H4).2)).alloc _).ext hE5)
       clear hE5
       dsimp only
       refine hK _ _ ?_
       clear hK K
       refine wpAny_ready (rs := [7]) (by kernel_rfl) (by simp) (AllReady.cons rfl (fun J hJ => ?_) AllReady.nil)
       refine step_storeB (ty := 23) (t := 23) (x := .tmp 6) (y := .tmp 13) rfl rfl digest_wide rfl rfl (unhide HB) rfl (by simpa using (unhide HR).2) (bytes_one _) ?_
       intro w6 hb6 hc6 hz6
       have H6 := hide (And.intro hb6 hc6)
       clear hb6 hc6 hz6
       refine hJ _ _ ?_
       clear hJ J))
  go_wp2
  refine bodyPost_ret (v := .agg (res.map u8v).toArray) (results_blk digest_wide rfl (unhide H6).1 (by simpa using (unhide HR).2) rfl) rfl ⟨rfl, ?_⟩
  exact (unhide H5).trans' (unhide H6).2 (fun _ _ h => h) (fun i hi e => by omega)

end Go.Proofs.YtjemfefkgfoikaaDoor
