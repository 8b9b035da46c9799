/-
  Several texts in one file: each has its own heading below.
-/
import Derived.Test.YtihghljfmlbfhaaDoorTqI
import Derived.Test.YtihghljfmlbfhaaDoorTqH
import Derived.Deep.RegionLaw
import Derived.Deep.Cut
import Derived.Test.YtihghljfmlbfhaaDoorTqG
import Derived.RangeFuncBound
import Derived.Test.YtihghljfmlbfhaaDoorTqF
import Derived.Test.YtihghljfmlbfhaaDoorTqA
import Derived.Deep.RegionHeld
import Derived.Deep.RegionHeld3


namespace Go.Proofs.YtihghljfmlbfhaaDoor
open Go.RowKit
set_option maxRecDepth 100000 in
set_option maxHeartbeats 4000000 in
theorem adv_any (k n : Nat) (v : List UInt8) (w : World) (hM : ShaMem w) (hv : v.length = 16) (hk : k < 1000) (hn : n < 1000) :
    Calls Tryd.prog 31 #[.int .i64 (k : Int), .agg (v.map u8v).toArray, .int .i64 (n : Int)] w fun e w' => e = .returned (.agg ((advS k v n).map u8v).toArray) ∧ Ext w w' := by
  have HM := hide hM
  have HW := hide (fun w => wint_any (k : Int) w (by omega) (by omega))
  have HD := hide (fun (j : Nat) (W : World) (A : Option Addr) (c : Nat) (pv : Value) (hE : Ext w W) (h1 : Reads W 1 pv 2 [.slice A (wInt k).length c, .slice (some ⟨w.heap.size, 0, none⟩) 16 16]) (h2 : Reads W 1 (.slice A (wInt k).length c) (wInt k).length ((wInt k).map u8v)) (h3 : Blk W w.heap.size 23 ((advS k v j).map u8v).toArray) =>
    digest_any 3 [wInt k, advS k v j] pv W (hM.ext hE) (Parts.two h1 h2 (h3.digR (advS_length k v hv j))) (by simp) (fun p hp => by have := wInt_length (k : Int); have := advS_length k v hv j; simp at hp; rcases hp with rfl | rfl <;> omega))
  have HL := hide (advS_length k v hv)
  have HS := hide (fun j => show digestS 3 [wInt k, advS k v j] = advS k v (j + 1) from rfl)
  obtain ⟨F, hF⟩ : ∃ F, advS k v = F := ⟨_, rfl⟩
  rw [hF] at HD HL HS ⊢
  have h0 : F 0 = v := by rw [← hF]; rfl
  clear hM
  go_enter Tryd.func31, Tryd.ntmps31
  go_wp2_with fail
  go_loopw [8] (fun i wr => ∃ j : Nat, j ≤ n ∧ i = .int .i64 j ∧ Hid (Blk wr w.heap.size 23 ((F j).map u8v).toArray ∧ Blk wr (w.heap.size + 1) 23 (Array.replicate 16 (.int .u8 0)) ∧ Ext w wr)) (fun i _ => n - (intOf i).toNat)
  case atStart => exact ⟨0, by omega, rfl, hide ⟨by rw [h0]; exact (Blk.new w _ _).alloc _, Blk.new' _ _ _ (by simp), ((Ext.refl w).alloc _).alloc _⟩⟩
  case round =>
    obtain ⟨j, hj, rfl, HI⟩ := hrel
    by_cases hlt : j < n
    · have HJ := hide (unhide HS j)
      have HL1 := hide (unhide HL (j + 1))
      have HLj := hide (unhide HL j)
      have HDj := hide (unhide HD j)
      go_upto_region 3 with fail
      go_region_law (first
        | (go_simp; go_at_call 41; refine (unhide HW _).mono ?_; rintro e w3 ⟨A3, c3, rfl, ho3, hE3⟩; have H3 := hide (And.intro (Reads.of_own ho3) (((Ext.refl wr).drew).trans hE3)); clear ho3 hE3)
        | (rename_i K hK; go_simp; go_at_call 18; refine (unhide HDj _ A3 c3 _ (((unhide HI).2.2.trans (unhide H3).2).alloc _) (Reads.new2 _ _ _ _ rfl) ((unhide H3).1.ext ((Ext.refl _).alloc _)) (((unhide HI).1.ext (unhide H3).2).alloc _)).mono ?_
           rintro e w5 ⟨rfl, hE5⟩
           rw [unhide HJ]
           have H5 := hide (((unhide H3).2.alloc _).trans hE5)
           clear hE5
           dsimp only
           refine hK _ _ ?_
           clear hK K
           refine wpAny_ready (rs := [5]) (by kernel_rfl) (by simp) (AllReady.cons rfl (fun J hJ => ?_) AllReady.nil)
           refine step_storeB (ty := 23) (t := 23) (x := .tmp 4) (y := .tmp 14) rfl rfl digest_wide rfl rfl ((unhide HI).1.ext (unhide H5)) (by simpa using unhide HLj) (by simpa using unhide HL1) (bytes_one _) ?_
           intro w6 hb6 hc6 hz6
           have H6 := hide (And.intro hb6 hc6)
           clear hb6 hc6 hz6
           refine hJ _ _ ?_
           clear hJ J))
      go_wp2
      go_roundw
      case rel => exact ⟨j + 1, by omega, by go_num, hide ⟨(unhide H6).1, ((unhide HI).2.1.ext (unhide H5)).chg (unhide H6).2 (by omega), ((unhide HI).2.2.trans (unhide H5)).trans' (unhide H6).2 (fun _ _ h => h) (fun i hi e => by omega)⟩⟩
      case measure => simp [intOf]; omega
    · obtain rfl : j = n := by omega
      go_wp2_with (first
        | (refine wpList_loadB (ty := 23) (t := 23) (x := .tmp 4) rfl rfl digest_wide rfl (unhide HI).1 (by simpa using unhide HL j) ?_)
        | (refine wpList_storeB (ty := 23) (t := 23) (x := .tmp 6) (y := .tmp 16) rfl rfl digest_wide rfl rfl (unhide HI).2.1 rfl (by simpa using unhide HL j) (bytes_one _) ?_; intro w7 hb7 hc7 hz7; have H7 := hide (And.intro hb7 hc7); clear hb7 hc7 hz7))
      refine bodyPost_ret (v := .agg ((F j).map u8v).toArray) (results_blk digest_wide rfl (unhide H7).1 (by simpa using unhide HL j) rfl) rfl ⟨rfl, ?_⟩
      exact (unhide HI).2.2.trans' (unhide H7).2 (fun _ _ h => h) (fun i hi e => by omega)
set_option maxRecDepth 100000 in
set_option maxHeartbeats 4000000 in
theorem start_any (k : Nat) (seed : List UInt8) (index : Int) (w : World) (hM : ShaMem w) (hv : seed.length = 16) (hk : k < 1000) (h1 : -9223372036854775808 ≤ index) (h2 : index < 9223372036854775808) :
    Calls Tryd.prog 48 #[.agg (seed.map u8v).toArray, .int .i64 index, .int .i64 (k : Int)] w fun e w' => e = .returned (.agg ((startS seed index k).map u8v).toArray) ∧ Ext w w' := by
  have HM := hide hM
  have HW := hide (fun w => wint_any index w h1 h2)
  have HW2 := hide (fun w => wint_any (k : Int) w (by omega) (by omega))
  have HD := hide (fun (W : World) (A A' : Option Addr) (c c' : Nat) (pv : Value) (hE : Ext w W) (h1 : Reads W 1 pv 2 [.slice A (wInt index).length c, .slice A' (wInt k).length c']) (h2 : Reads W 1 (.slice A (wInt index).length c) (wInt index).length ((wInt index).map u8v)) (h2' : Reads W 1 (.slice A' (wInt k).length c') (wInt k).length ((wInt k).map u8v)) (h3 : Blk W w.heap.size 23 (seed.map u8v).toArray) =>
    derive_any seed (.slice (some ⟨w.heap.size, 0, none⟩) 16 16) ⟨#[119, 111, 116, 115]⟩ [wInt index, wInt k] pv W (hM.ext hE) (h3.digR hv) (by omega) (by decide) (Parts.two h1 h2 h2') (by simp) (fun p hp => by have := wInt_length (k : Int); have := wInt_length index; simp at hp; rcases hp with rfl | rfl <;> omega))
  obtain ⟨arr, harr⟩ : ∃ r, (seed.map u8v).toArray = r := ⟨_, rfl⟩
  rw [harr] at HD ⊢
  obtain ⟨res, hres⟩ : ∃ r, startS seed index k = r := ⟨_, rfl⟩
  have HR := hide (And.intro hres (show res.length = 16 from by rw [← hres]; exact startS_length _ _ _))
  rw [hres]
  clear hM harr hres h1 h2
  have HT := hide True.intro
  go_enter Tryd.func48, Tryd.ntmps48
  go_upto_region 1 with fail
  go_region_law (first
    | (clear HT; go_simp; go_at_call 41; refine (unhide HW _).mono ?_; rintro e w3 ⟨A3, c3, rfl, ho3, hE3⟩; have H3 := hide (And.intro (Reads.of_own ho3) hE3); clear ho3 hE3)
    | (go_simp; go_at_call 41; refine (unhide HW2 _).mono ?_; rintro e w4 ⟨A4, c4, rfl, ho4, hE4⟩; have H4 := hide (And.intro (Reads.of_own ho4) hE4); clear ho4 hE4)
    | (rename_i K hK; go_simp; go_at_call 67; refine (unhide HD _ A3 A4 c3 c4 _ (((((Ext.refl w).alloc _).alloc _).drew.trans ((unhide H3).2.trans (unhide H4).2)).alloc _) (Reads.new2 _ _ _ _ rfl) (((unhide H3).1.ext (unhide H4).2).ext ((Ext.refl _).alloc _)) ((unhide H4).1.ext ((Ext.refl _).alloc _)) ((((Blk.new w _ _).alloc _).drew.ext ((unhide H3).2.trans (unhide H4).2)).alloc _)).mono ?_
       rintro e w5 ⟨rfl, hE5⟩
       rw [show deriveS seed (⟨#[119, 111, 116, 115]⟩ : ByteArray).data.toList [wInt index, wInt k] = res from (unhide HR).1]
       have H5 := hide ((((((Ext.refl w).alloc _).alloc _).drew.trans ((unhide H3).2.trans (unhide H4).2)).alloc _).trans hE5)
       have HB := hide ((((Blk.new' (w.alloc (.cells arr 23)) 23 (Array.replicate 16 (.int .u8 0)) (g := w.heap.size + 1) (by simp)).drew.ext ((unhide H3).2.trans (unhide H4).2)).alloc _).ext hE5)
       clear hE5
       dsimp only
       refine hK _ _ ?_
       clear hK K
       refine wpAny_ready (rs := [7]) (by kernel_rfl) (by simp) (AllReady.cons rfl (fun J hJ => ?_) AllReady.nil)
       refine step_storeB (ty := 23) (t := 23) (x := .tmp 6) (y := .tmp 13) rfl rfl digest_wide rfl rfl (unhide HB) rfl (by simpa using (unhide HR).2) (bytes_one _) ?_
       intro w6 hb6 hc6 hz6
       have H6 := hide (And.intro hb6 hc6)
       clear hb6 hc6 hz6
       refine hJ _ _ ?_
       clear hJ J))
  go_wp2
  refine bodyPost_ret (v := .agg (res.map u8v).toArray) (results_blk digest_wide rfl (unhide H6).1 (by simpa using (unhide HR).2) rfl) rfl ⟨rfl, ?_⟩
  exact (unhide H5).trans' (unhide H6).2 (fun _ _ h => h) (fun i hi e => by omega)
end Go.Proofs.YtihghljfmlbfhaaDoor


namespace Go.Proofs.YtihghljfmlbfhaaDoor
theorem endsS_step (f : Nat → List UInt8) (n : Nat) : endsS f (n + 1) = endsS f n ++ f n := by unfold endsS; rw [List.range_succ, List.flatMap_append]; simp
theorem endsS_length (f : Nat → List UInt8) (h : ∀ k, (f k).length = 16) : ∀ n, (endsS f n).length = 16 * n
  | 0 => rfl
  | n + 1 => by rw [endsS_step, List.length_append, endsS_length f h n, h]; omega
end Go.Proofs.YtihghljfmlbfhaaDoor


namespace Go.Proofs.YtihghljfmlbfhaaDoor
open Go.RowKit
structure EndEnv (F : FuncId) (caps : Array Value) (f : Nat → List UInt8) (Inv : World → Prop) (B : Nat) : Prop where
  call : ∀ (args : Array Value) (w : World), (callFunc F args).run Tryd.prog w = .ok (.enter F args) w
  step : ∀ (k : Nat) (w : World), k < 68 → Inv w → Calls Tryd.prog F (#[.int .i64 (k : Int)] ++ caps) w fun e w' => e = .returned (.agg ((f k).map u8v).toArray) ∧ Ext w w'
  keep : ∀ w w', Inv w → Chg (fun k => B ≤ k) w w' → Inv w'
  len : ∀ k, (f k).length = 16
set_option maxRecDepth 100000 in
set_option maxHeartbeats 4000000 in
theorem key_any {F : FuncId} {caps : Array Value} {f : Nat → List UInt8} {Inv : World → Prop} {B : Nat} (E : EndEnv F caps f Inv B) (w : World) (hB : B ≤ w.heap.size) (hM : ShaMem w) (hI : Inv w) :
    Calls Tryd.prog 29 #[.func (.func F) #[] caps] w fun e w' => e = .returned (.agg ((keyOf f).map u8v).toArray) ∧ Ext w w' := by
  have HM := hide hM
  have HE := hide E
  have hc := E.call
  have HI0 := hide hI
  have HD := hide (fun (W : World) (A : Option Addr) (c : Nat) (pv : Value) (hE : Ext w W) (h1 : Reads W 1 pv 1 [.slice A (endsS f 68).length c]) (h2 : Reads W 1 (.slice A (endsS f 68).length c) (endsS f 68).length ((endsS f 68).map u8v)) =>
    digest_any 4 [endsS f 68] pv W (hM.ext hE) (Parts.one h1 h2) (by simp) (fun p hp => by have := endsS_length f E.len 68; simp at hp; subst hp; omega))
  have HLE := hide (endsS_length f E.len 68)
  have HK := hide (show digestS 4 [endsS f 68] = keyOf f ∧ (keyOf f).length = 16 from ⟨rfl, digestS_length _ _⟩)
  clear hM hI E
  obtain ⟨key, hkey⟩ : ∃ r, keyOf f = r := ⟨_, rfl⟩
  rw [hkey] at HK ⊢
  clear hkey
  go_enter Tryd.func29, Tryd.ntmps29
  go_wp2_with fail
  go_loopw [3, 6] (fun b i wr => ∃ (k : Nat) (A : Option Addr) (c : Nat), k ≤ 68 ∧ i = .int .i64 k ∧ b = .slice A (16 * k) c ∧ Hid (GB w (w.heap.size + 1) b (16 * k) (endsS f k) wr ∧ Inv wr ∧ Blk wr w.heap.size 23 (Array.replicate 16 (.int .u8 0)))) (fun _ i _ => 68 - (intOf i).toNat)
  case atStart => exact ⟨0, none, 0, by omega, rfl, rfl, hide ⟨GB.nil ((Ext.refl w).alloc _) (by omega) (by simp), (unhide HE).keep _ _ (unhide HI0) ((Ext.refl w).alloc _).chg, Blk.new w _ _⟩⟩
  case round =>
    obtain ⟨k, A, c, hk, rfl, rfl, HI⟩ := hrel
    by_cases hlt : k < 68
    · have HSt := hide ((unhide HE).step k wr hlt (unhide HI).2.1)
      have HEs := hide (endsS_step f k)
      have HL := hide ((unhide HE).len k)
      obtain ⟨d, hd⟩ : ∃ d, f k = d := ⟨_, rfl⟩
      rw [hd] at HSt HEs HL
      clear hd
      go_wp2_with fail
      refine (unhide HSt).mono ?_
      rintro e w1 ⟨rfl, hE1⟩
      have H1 := hide hE1
      clear hE1
      go_wp2_with (first
        | (refine wpList_storeB (ty := 23) (t := 23) (x := .tmp 5) (y := .tmp 11) rfl rfl digest_wide rfl rfl (Blk.new w1 _ _) rfl (by simpa using unhide HL) (bytes_one _) ?_; intro w2 hb2 hc2 hz2; have H2 := hide (And.intro hb2 (made_ext (unhide H1) hc2)); clear hb2 hc2 hz2)
        | (at_builtin; refine wpList_app rfl rfl u8_row rfl ((unhide HI).1.to (unhide H2).2).own rfl (by have := (unhide H2).1.digR (unhide HL); rw [unhide HL] at this; exact this) (AllOne.u8 d) (by omega) ((unhide HI).1.to (unhide H2).2).room ?_; intro A' c' w3 ho hc3 hv; have H3 := hide (And.intro ho hc3); clear ho hc3 hv))
      go_roundw
      case rel =>
        have hst : GB w (w.heap.size + 1) (.slice A' (16 * k + 16) c') (16 * k + 16) (endsS f k ++ d) w3 := (unhide HI).1.step (unhide H2).2 (unhide H3).2 (by have := (unhide H3).1; rw [← List.map_append] at this; exact this)
        have hX : Chg (fun k => B ≤ k) wr w3 := (unhide H2).2.trans' (unhide H3).2 (fun _ _ h => h.elim) (fun i hi e => by have := ((unhide HI).1.own.lt i e).1; omega)
        refine ⟨k + 1, A', c', by omega, by go_num, by congr 1, hide ⟨by rw [unhide HEs]; exact hst, (unhide HE).keep _ _ (unhide HI).2.1 hX, (unhide HI).1.blk (unhide H2).2 (unhide H3).2 (unhide HI).2.2 (by omega)⟩⟩
      case measure => simp [intOf]; omega
    · obtain rfl : k = 68 := by omega
      have HX := hide (show GB w (w.heap.size + 1) (.slice A (endsS f 68).length c) (endsS f 68).length (endsS f 68) wr from by rw [unhide HLE]; exact (unhide HI).1)
      have HZ := hide (unhide HI).2.2
      have e68 : 16 * 68 = (endsS f 68).length := (unhide HLE).symm
      rw [e68]
      clear HI e68
      go_wp2_with (first
        | (go_at_call 18; refine (unhide HD _ A c _ ((unhide HX).ext.alloc _) (Reads.new1 _ _ _) ((unhide HX).reads.ext ((Ext.refl _).alloc _))).mono ?_; rintro e w5 ⟨rfl, hE5⟩; rw [(unhide HK).1]; have H5 := hide (((Ext.refl wr).alloc _).trans hE5); clear hE5)
        | (refine wpList_storeB (ty := 23) (t := 23) (x := .tmp 2) (y := .tmp 18) rfl rfl digest_wide rfl rfl ((unhide HZ).ext (unhide H5)) rfl (by simpa using (unhide HK).2) (bytes_one _) ?_; intro w7 hb7 hc7 hz7; have H7 := hide (And.intro hb7 hc7); clear hb7 hc7 hz7))
      refine bodyPost_ret (v := .agg (key.map u8v).toArray) (results_blk digest_wide rfl (unhide H7).1 (by simpa using (unhide HK).2) rfl) rfl ⟨rfl, ?_⟩
      exact ((unhide HX).ext.trans (unhide H5)).trans' (unhide H7).2 (fun _ _ h => h) (fun i hi e => by omega)
end Go.Proofs.YtihghljfmlbfhaaDoor


namespace Go.Proofs.YtihghljfmlbfhaaDoor
open Go.RowKit
def PubInv (seed : List UInt8) (index : Int) (bs bi : Nat) (w : World) : Prop := ShaMem w ∧ Blk w bs 23 (seed.map u8v).toArray ∧ w.cell? ⟨bi, 0, none⟩ = some (.int .i64 index)
set_option maxRecDepth 100000 in
set_option maxHeartbeats 4000000 in
theorem pub1_any (k : Nat) (seed : List UInt8) (index : Int) (bs bi : Nat) (w : World) (hv : seed.length = 16) (hk : k < 68) (h1 : -9223372036854775808 ≤ index) (h2 : index < 9223372036854775808) (hI : PubInv seed index bs bi w) :
    Calls Tryd.prog 47 #[.int .i64 (k : Int), .pointer (some ⟨bs, 0, none⟩), .pointer (some ⟨bi, 0, none⟩)] w fun e w' => e = .returned (.agg ((advS k (startS seed index k) 3).map u8v).toArray) ∧ Ext w w' := by
  obtain ⟨hM, hB, hc⟩ := hI
  have lbi := lt_of_cell hc
  simp only at lbi
  have HB := hide (hB.alloc (.cells (Array.replicate 16 (.int .u8 0)) 23))
  have HS := hide (start_any k seed index (w.alloc (.cells (Array.replicate 16 (.int .u8 0)) 23)) (hM.ext ((Ext.refl w).alloc _)) hv (by omega) h1 h2)
  have HA := hide (fun (W : World) (hE : Ext w W) => adv_any k 3 (startS seed index k) W (hM.ext hE) (startS_length _ _ _) (by omega) (by omega))
  have HL := hide (advS_length k (startS seed index k) (startS_length _ _ _) 3)
  have HZ := hide (Blk.new w 23 (Array.replicate 16 (.int .u8 0)))
  obtain ⟨d0, hd0⟩ : ∃ d, ((startS seed index k).map u8v).toArray = d := ⟨_, rfl⟩
  obtain ⟨d, hd⟩ : ∃ d, advS k (startS seed index k) 3 = d := ⟨_, rfl⟩
  rw [hd] at HA HL ⊢
  rw [hd0] at HA HS
  have HV := hide hv
  clear hM hB hd hd0 hv
  go_enter Tryd.func47, Tryd.ntmps47
  go_wp2_with (refine wpList_loadB (ty := 23) (t := 23) (x := .tmp 1) rfl rfl digest_wide rfl (unhide HB) (by simpa using unhide HV) ?_)
  refine (unhide HS).mono ?_
  rintro e w1 ⟨rfl, hE1⟩
  have H1 := hide hE1
  clear hE1
  go_wp2_with fail
  refine (unhide HA _ (((Ext.refl w).alloc _).trans (unhide H1))).mono ?_
  rintro e w2 ⟨rfl, hE2⟩
  have H2 := hide ((unhide H1).trans hE2)
  clear hE2
  go_wp2_with (refine wpList_storeB (ty := 23) (t := 23) (x := .tmp 4) (y := .tmp 10) rfl rfl digest_wide rfl rfl ((unhide HZ).ext (unhide H2)) rfl (by simpa using unhide HL) (bytes_one _) ?_; intro w7 hb7 hc7 hz7; have H7 := hide (And.intro hb7 hc7); clear hb7 hc7 hz7)
  refine bodyPost_ret (v := .agg (d.map u8v).toArray) (results_blk digest_wide rfl (unhide H7).1 (by simpa using unhide HL) rfl) rfl ⟨rfl, ?_⟩
  exact (((Ext.refl w).alloc _).trans (unhide H2)).trans' (unhide H7).2 (fun _ _ h => h) (fun i hi e => by omega)
set_option maxRecDepth 100000 in
set_option maxHeartbeats 4000000 in
theorem public_any (seed : List UInt8) (index : Int) (w : World) (hM : ShaMem w) (hv : seed.length = 16) (h1 : -9223372036854775808 ≤ index) (h2 : index < 9223372036854775808) :
    Calls Tryd.prog 36 #[.agg (seed.map u8v).toArray, .int .i64 index] w fun e w' => e = .returned (.agg ((publicS seed index).map u8v).toArray) ∧ Ext w w' := by
  have HK := hide (fun (W : World) (hE : Ext w W) (hB : Blk W w.heap.size 23 (seed.map u8v).toArray) (hc : W.cell? ⟨w.heap.size + 1, 0, none⟩ = some (.int .i64 index)) (hs : w.heap.size + 2 ≤ W.heap.size) =>
    key_any (F := 47) (caps := #[.pointer (some ⟨w.heap.size, 0, none⟩), .pointer (some ⟨w.heap.size + 1, 0, none⟩)]) (f := fun k => advS k (startS seed index k) 3) (Inv := PubInv seed index w.heap.size (w.heap.size + 1)) (B := w.heap.size + 2)
      ⟨call_enters Tryd.func47 (by kernel_rfl) rfl, fun k W hk hI => pub1_any k seed index _ _ W hv hk h1 h2 hI,
       fun W W' hI hC => ⟨ShaMem.past hM (by omega) hI.1 hC, hI.2.1.chg hC (by omega), Chg.cellv hC hI.2.2 (by simp)⟩, fun k => advS_length k _ (startS_length _ _ _) 3⟩ W hs (hM.ext hE) ⟨hM.ext hE, hB, hc⟩)
  obtain ⟨arr, harr⟩ : ∃ r, (seed.map u8v).toArray = r := ⟨_, rfl⟩
  rw [harr] at HK ⊢
  have HR := hide (show keyOf (fun k => advS k (startS seed index k) 3) = publicS seed index ∧ (publicS seed index).length = 16 from ⟨rfl, digestS_length _ _⟩)
  obtain ⟨res, hres⟩ : ∃ r, publicS seed index = r := ⟨_, rfl⟩
  rw [hres] at HR ⊢
  have hmf := mkfun
  clear hM harr hres
  go_enter Tryd.func36, Tryd.ntmps36
  go_wp2_with fail
  refine (unhide HK _ ((((Ext.refl w).alloc _).alloc _).alloc _) ((((Blk.new w _ _).alloc _).alloc _)) (old_cell _ _ (new_cell _ _ _ (by simp) rfl)) (by simp)).mono ?_
  rintro e w1 ⟨rfl, hE1⟩
  rw [(unhide HR).1]
  have H1 := hide hE1
  clear hE1 hmf
  go_wp2_with (refine wpList_storeB (ty := 23) (t := 23) (x := .tmp 4) (y := .tmp 6) rfl rfl digest_wide rfl rfl ((Blk.new' ((w.alloc (.cells arr 23)).alloc (.cells #[.int .i64 index] 3)) 23 (Array.replicate 16 (.int .u8 0)) (g := w.heap.size + 1 + 1) (by simp)).ext (unhide H1)) rfl (by simpa using (unhide HR).2) (bytes_one _) ?_; intro w7 hb7 hc7 hz7; have H7 := hide (And.intro hb7 hc7); clear hb7 hc7 hz7)
  refine bodyPost_ret (v := .agg (res.map u8v).toArray) (results_blk digest_wide rfl (unhide H7).1 (by simpa using (unhide HR).2) rfl) rfl ⟨rfl, ?_⟩
  exact (((((Ext.refl w).alloc _).alloc _).alloc _).trans (unhide H1)).trans' (unhide H7).2 (fun _ _ h => h) (fun i hi e => by omega)
end Go.Proofs.YtihghljfmlbfhaaDoor


namespace Go.Proofs.YtihghljfmlbfhaaDoor
open Go.RowKit
def z16 : List UInt8 := List.replicate 16 0
def chainAt (c : List (List UInt8)) (k : Nat) : List UInt8 := c.getD k z16
theorem chainAt_length {c : List (List UInt8)} (h : D16 c) (k : Nat) : (chainAt c k).length = 16 := by
  unfold chainAt
  rw [List.getD_eq_getElem?_getD]
  rcases Nat.lt_or_ge k c.length with hk | hk
  · rw [List.getElem?_eq_getElem hk]; exact h.get hk
  · rw [List.getElem?_eq_none hk]; rfl
theorem chainAt_get {c : List (List UInt8)} {k : Nat} (hk : k < c.length) : chainAt c k = c[k] := by
  unfold chainAt
  rw [List.getD_eq_getElem?_getD, List.getElem?_eq_getElem hk]; rfl
structure RecInv (m : List UInt8) (c : List (List UInt8)) (cv : Value) (bc bl g : Nat) (B : Nat) (w : World) : Prop where
  mem : ShaMem w
  chain : Digs w cv c
  cell : w.cell? ⟨bc, 0, none⟩ = some cv
  cell2 : w.cell? ⟨bl, 0, none⟩ = some (.slice (some ⟨g, 0, none⟩) 68 68)
  digs : Blk w g 106 (icells (digC m) 68).toArray
  lt : (∀ k, cv.ownBlock = some k → k < B) ∧ bc < B ∧ bl < B ∧ g < B ∧ 1 < B ∧ 0 < B
theorem RecInv.keep {m : List UInt8} {c : List (List UInt8)} {cv : Value} {bc bl g B : Nat} {w w' : World} (h : RecInv m c cv bc bl g B w) (hc : Chg (fun k => B ≤ k) w w') : RecInv m c cv bc bl g B w' := by
  obtain ⟨l1, l2, l3, l4, l5, l6⟩ := h.lt
  exact ⟨h.mem.chg hc (by omega) (by omega), h.chain.chg hc (fun k hk e => by have := l1 k hk; omega), Chg.cellv hc h.cell (by simp; omega), Chg.cellv hc h.cell2 (by simp; omega), h.digs.chg hc (by omega), h.lt⟩
set_option maxRecDepth 100000 in
set_option maxHeartbeats 4000000 in
theorem rec1_any (k : Nat) (m : List UInt8) (c : List (List UInt8)) (cv : Value) (bc bl g B : Nat) (w : World) (hk : k < 68) (hc : c.length = 68) (hI : RecInv m c cv bc bl g B w) :
    Calls Tryd.prog 30 #[.int .i64 (k : Int), .pointer (some ⟨bc, 0, none⟩), .pointer (some ⟨bl, 0, none⟩)] w fun e w' => e = .returned (.agg ((advS k (chainAt c k) (3 - digC m k)).map u8v).toArray) ∧ Ext w w' := by
  obtain ⟨hM, hD, hbc, hbl, hB, _⟩ := hI
  obtain ⟨b, o, c', rfl, _, _, hb, hR⟩ := hD.at (k := k) (by omega)
  rw [← chainAt_get (by omega : k < c.length)] at hR
  have hl := chainAt_length hD.1 k
  have h3 := digC_le m k
  have HA := hide (fun (W : World) (hE : Ext w W) => adv_any k (3 - digC m k) (chainAt c k) W (hM.ext hE) hl (by omega) (by omega))
  have HL := hide (advS_length k (chainAt c k) hl (3 - digC m k))
  have hdc : w.cell? ⟨g, k, none⟩ = some (.int .i64 ((digC m k : Nat) : Int)) := by rw [hB.cell, List.getElem?_toArray, icells_get _ hk]
  have e3 : IntKind.i64.wrap (3 - ((digC m k : Nat) : Int)) = ((3 - digC m k : Nat) : Int) := by rw [IntKind.wrap_i64]; omega
  obtain ⟨cells, hcs⟩ : ∃ l, (chainAt c k).map u8v = l := ⟨_, rfl⟩
  have HCL := hide (show cells.length = 16 from by rw [← hcs]; simpa using hl)
  rw [hcs] at hR HA
  obtain ⟨d, hd⟩ : ∃ d, advS k (chainAt c k) (3 - digC m k) = d := ⟨_, rfl⟩
  rw [hd] at HA HL ⊢
  have HF : Hid (∀ W, (Ext w W ∧ ∃ cs : Array Value, cs.size = 16 ∧ Blk W w.heap.size 23 cs) → W.cell? ⟨bc, 0, none⟩ = some (.slice (some ⟨b, o, none⟩) c.length c') ∧ W.cell? ⟨bl, 0, none⟩ = some (.slice (some ⟨g, 0, none⟩) 68 68) ∧ W.cell? ⟨g, k, none⟩ = some (.int .i64 ((digC m k : Nat) : Int))) := hide (fun W hW => ⟨Ext.cellv hW.1 hbc, Ext.cellv hW.1 hbl, Ext.cellv hW.1 hdc⟩)
  have HR := hide hR
  rw [hc] at HF
  generalize hdk : digC m k = dk at *
  generalize hsk : 3 - dk = sk at *
  have hkI : (k : Int) < 68 := by omega
  clear hM hD hbc hbl hB hR hdc hcs hd hl
  go_enter Tryd.func30, Tryd.ntmps30
  go_upto_region 1 with fail
  refine wp_region_held_drew (S := fun W => Ext w W ∧ ∃ cs : Array Value, cs.size = 16 ∧ Blk W w.heap.size 23 cs) (by kernel_rfl) ⟨((Ext.refl w).alloc _).drew, _, rfl, (Blk.new w _ _).drew⟩ (fun hHeld => ?_)
  refine wpAnyH_take (i := 0) (oi := _) (v := ?_) rfl (by kernel_rfl) (by kernel_rfl) (by kernel_rfl) (fun _ _ _ h => h) (Or.inl ⟨by rfl, fun wz hSz => ?_⟩) (by assumption) ?_
  rotate_left
  · (first | (go_simp; done) | (go_simp; with_reducible rfl) | (obtain ⟨f1, f2, f3⟩ := (unhide HF) wz hSz; clear hSz; first | (go_simp; done) | (go_simp; with_reducible rfl)))
  try simp only [Act.put, List.setIfInBounds_toArray, List.set_cons_zero, List.set_cons_succ, List.getElem_toArray, List.getElem_cons_zero]
  refine wpAnyH_take (i := 1) (oi := _) (v := ?_) rfl (by kernel_rfl) (by kernel_rfl) (by kernel_rfl) (fun _ _ _ h => h) (Or.inl ⟨by rfl, fun wz hSz => ?_⟩) (by assumption) ?_
  rotate_left
  · (first | (go_simp; done) | (go_simp; with_reducible rfl) | (obtain ⟨f1, f2, f3⟩ := (unhide HF) wz hSz; clear hSz; first | (go_simp; done) | (go_simp; with_reducible rfl)))
  try simp only [Act.put, List.setIfInBounds_toArray, List.set_cons_zero, List.set_cons_succ, List.getElem_toArray, List.getElem_cons_succ, List.getElem_cons_zero]
  refine wpAnyH_take (i := 2) (oi := _) (v := ?_) rfl (by kernel_rfl) (by kernel_rfl) (by kernel_rfl) (fun _ _ _ h => h) (Or.inl ⟨by rfl, fun wz hSz => ?_⟩) (by assumption) ?_
  rotate_left
  · (first | (go_simp; done) | (go_simp; with_reducible rfl) | (obtain ⟨f1, f2, f3⟩ := (unhide HF) wz hSz; clear hSz; first | (go_simp; done) | (go_simp; with_reducible rfl)))
  try simp only [Act.put, List.setIfInBounds_toArray, List.set_cons_zero, List.set_cons_succ, List.getElem_toArray, List.getElem_cons_succ, List.getElem_cons_zero]
  refine wpAnyH_take (i := 3) (oi := _) (v := ?_) rfl (by kernel_rfl) (by kernel_rfl) (by kernel_rfl) (fun _ _ _ h => h) (Or.inl ⟨by rfl, fun wz hSz => ?_⟩) (by assumption) ?_
  rotate_left
  · (first | (go_simp; done) | (go_simp; with_reducible rfl) | (obtain ⟨f1, f2, f3⟩ := (unhide HF) wz hSz; clear hSz; first | (go_simp; done) | (go_simp; with_reducible rfl)))
  try simp only [Act.put, List.setIfInBounds_toArray, List.set_cons_zero, List.set_cons_succ, List.getElem_toArray, List.getElem_cons_succ, List.getElem_cons_zero]
  refine wpAnyH_take (i := 4) (oi := _) (v := _) rfl (by kernel_rfl) (by kernel_rfl) (by kernel_rfl) (fun _ _ _ h => h) (ylm digest_wide rfl (by rfl) rfl (unhide HCL) (fun w' hw => rangeAt_ext (unhide HR) hw.1)) (by assumption) ?_
  try simp only [Act.put, List.setIfInBounds_toArray, List.set_cons_zero, List.set_cons_succ, List.getElem_toArray, List.getElem_cons_succ, List.getElem_cons_zero]
  refine wpAnyH_take (i := 5) (oi := _) (v := ?_) rfl (by kernel_rfl) (by kernel_rfl) (by kernel_rfl) (fun _ _ _ h => h) (Or.inl ⟨by rfl, fun wz hSz => ?_⟩) (by assumption) ?_
  rotate_left
  · (first | (go_simp; done) | (go_simp; with_reducible rfl) | (obtain ⟨f1, f2, f3⟩ := (unhide HF) wz hSz; clear hSz; first | (go_simp; done) | (go_simp; with_reducible rfl)))
  try simp only [Act.put, List.setIfInBounds_toArray, List.set_cons_zero, List.set_cons_succ, List.getElem_toArray, List.getElem_cons_succ, List.getElem_cons_zero]
  refine wpAnyH_take (i := 6) (oi := _) (v := ?_) rfl (by kernel_rfl) (by kernel_rfl) (by kernel_rfl) (fun _ _ _ h => h) (Or.inl ⟨by rfl, fun wz hSz => ?_⟩) (by assumption) ?_
  rotate_left
  · (first | (go_simp; done) | (go_simp; with_reducible rfl) | (obtain ⟨f1, f2, f3⟩ := (unhide HF) wz hSz; clear hSz; first | (go_simp; done) | (go_simp; with_reducible rfl)))
  try simp only [Act.put, List.setIfInBounds_toArray, List.set_cons_zero, List.set_cons_succ, List.getElem_toArray, List.getElem_cons_succ, List.getElem_cons_zero]
  refine wpAnyH_take (i := 7) (oi := _) (v := ?_) rfl (by kernel_rfl) (by kernel_rfl) (by kernel_rfl) (fun _ _ _ h => h) (Or.inl ⟨by rfl, fun wz hSz => ?_⟩) (by assumption) ?_
  rotate_left
  · (first | (go_simp; done) | (go_simp; with_reducible rfl) | (obtain ⟨f1, f2, f3⟩ := (unhide HF) wz hSz; clear hSz; first | (go_simp; done) | (go_simp; with_reducible rfl)))
  try simp only [Act.put, List.setIfInBounds_toArray, List.set_cons_zero, List.set_cons_succ, List.getElem_toArray, List.getElem_cons_succ, List.getElem_cons_zero]
  refine wpAnyH_take (i := 8) (oi := _) (v := ?_) rfl (by kernel_rfl) (by kernel_rfl) (by kernel_rfl) (fun _ _ _ h => h) (Or.inl ⟨by rfl, fun wz hSz => ?_⟩) (by assumption) ?_
  rotate_left
  · (first | (go_simp; done) | (go_simp; with_reducible rfl) | (obtain ⟨f1, f2, f3⟩ := (unhide HF) wz hSz; clear hSz; first | (go_simp; done) | (go_simp; with_reducible rfl)))
  try simp only [Act.put, List.setIfInBounds_toArray, List.set_cons_zero, List.set_cons_succ, List.getElem_toArray, List.getElem_cons_succ, List.getElem_cons_zero]
  refine wpAnyH_take (i := 9) (oi := _) (v := ?_) rfl (by kernel_rfl) (by kernel_rfl) (by kernel_rfl) (fun _ _ _ h => h) (Or.inl ⟨by rfl, fun wz hSz => ?_⟩) (by assumption) ?_
  rotate_left
  · (first | (go_simp; done) | (go_simp; with_reducible rfl) | (obtain ⟨f1, f2, f3⟩ := (unhide HF) wz hSz; clear hSz; first | (go_simp; done) | (go_simp; with_reducible rfl)))
  try simp only [Act.put, List.setIfInBounds_toArray, List.set_cons_zero, List.set_cons_succ, List.getElem_toArray, List.getElem_cons_succ, List.getElem_cons_zero]
  refine wpAnyH_ready (rs := [10]) (by kernel_rfl) (by simp) (AllReadyH.cons (o := _) rfl (fun K hK => ?_) AllReadyH.nil)
  try go_simp
  (refine (unhide HA _ hHeld.1).mono ?_; rintro e w5 ⟨rfl, hE5⟩; have hS := And.intro (hHeld.1.trans hE5) (hHeld.2.imp fun _ h => And.intro h.1 (h.2.ext hE5)); clear hE5 hHeld)
  refine hK.out _ _ ?_ (fun hHeld => ?_)
  · exact hS
  clear hK K
  try simp only [Act.put, List.setIfInBounds_toArray, List.set_cons_zero, List.set_cons_succ, List.getElem_toArray, List.getElem_cons_succ, List.getElem_cons_zero]
  obtain ⟨hX, cs, hcs, hBk⟩ := hHeld
  refine wpAnyH_ready (rs := [11]) (by kernel_rfl) (by simp) (AllReadyH.cons (o := _) rfl (fun K hK => ?_) AllReadyH.nil)
  (refine step_storeB (ty := 23) (t := 23) (x := .tmp 4) (y := .tmp 15) rfl rfl digest_wide rfl rfl hBk hcs (by simpa using unhide HL) (bytes_one _) ?_; intro w7 hb7 hc7 hz7; have hS : Ext w w7 ∧ ∃ cs : Array Value, cs.size = 16 ∧ Blk w7 w.heap.size 23 cs := ⟨hX.trans' hc7 (fun _ _ h => h) (fun i hi e => by omega), _, by simpa using unhide HL, hb7⟩; have H7 := hide hb7; clear hb7 hc7 hz7)
  refine hK.out _ _ ?_ (fun hHeld => ?_)
  · exact hS
  clear hK K
  try simp only [Act.put, List.getElem_toArray, List.getElem_cons_succ, List.getElem_cons_zero]
  refine wpAnyH_done (by kernel_rfl) ?_ _
  have H8 := hide hHeld.1
  go_wp2
  refine bodyPost_ret (v := .agg (d.map u8v).toArray) (results_blk digest_wide rfl (unhide H7) (by simpa using unhide HL) rfl) rfl ⟨rfl, unhide H8⟩
end Go.Proofs.YtihghljfmlbfhaaDoor


namespace Go.Proofs.YtihghljfmlbfhaaDoor
open Go.RowKit
set_option maxRecDepth 100000 in
set_option maxHeartbeats 4000000 in
theorem recover_no (m : List UInt8) (c : List (List UInt8)) (cv : Value) (w : World) (hc : ¬ c.length = 68) (hD : Digs w cv c) :
    Calls Tryd.prog 16 #[.agg (m.map u8v).toArray, cv] w fun e w' => e = .returned (.tuple #[.agg (z16.map u8v).toArray, .int .i64 9]) ∧ Ext w w' := by
  obtain ⟨A, c', rfl, _, _⟩ := hD.form
  obtain ⟨arr, harr⟩ : ∃ r, (m.map u8v).toArray = r := ⟨_, rfl⟩
  rw [harr]
  clear hD harr
  have hcI : ¬ (c.length : Int) = 68 := by omega
  generalize c.length = n at *
  go_enter Tryd.func16, Tryd.ntmps16
  go_wp2
  refine bodyPost_ret (v := .tuple #[.agg (z16.map u8v).toArray, .int .i64 9]) (results_two digest_wide rfl (Blk.new' _ _ _ (by simp)) rfl rfl rfl) rfl ⟨rfl, ?_⟩
  exact (((Ext.refl w).alloc _).alloc _).alloc _
set_option maxRecDepth 100000 in
set_option maxHeartbeats 4000000 in
theorem recover_yes (m : List UInt8) (c : List (List UInt8)) (cv : Value) (w : World) (hM : ShaMem w) (hm : m.length = 16) (hc : c.length = 68) (hD : Digs w cv c) :
    Calls Tryd.prog 16 #[.agg (m.map u8v).toArray, cv] w fun e w' => e = .returned (.tuple #[.agg ((recoverS m (chainAt c)).map u8v).toArray, .int .i64 0]) ∧ Ext w w' := by
  obtain ⟨A, c', rfl, _, _⟩ := hD.form
  have hlt := hD.own_lt (by omega)
  have hsl := hM.lt
  have HDg := hide (fun (W : World) => digits_any m W hm)
  have HK := hide (fun (g bl B : Nat) (W : World) (hI : RecInv m c (.slice A c.length c') (w.heap.size + 1) bl g B W) (hB : B ≤ W.heap.size) =>
    key_any (F := 30) (caps := #[.pointer (some ⟨w.heap.size + 1, 0, none⟩), .pointer (some ⟨bl, 0, none⟩)]) (f := fun k => advS k (chainAt c k) (3 - digC m k)) (Inv := RecInv m c (.slice A c.length c') (w.heap.size + 1) bl g B) (B := B)
      ⟨call_enters Tryd.func30 (by kernel_rfl) rfl, fun k W hk hI => rec1_any k m c _ _ _ _ _ W hk hc hI, fun W W' hI hC => hI.keep hC, fun k => advS_length k _ (chainAt_length hD.1 k) _⟩ W hB hI.mem hI)
  have HM := hide (And.intro hM (And.intro hD (And.intro hlt hsl)))
  obtain ⟨arr, harr⟩ : ∃ r, (m.map u8v).toArray = r := ⟨_, rfl⟩
  rw [harr] at HDg ⊢
  have HR := hide (show keyOf (fun k => advS k (chainAt c k) (3 - digC m k)) = recoverS m (chainAt c) ∧ (recoverS m (chainAt c)).length = 16 from ⟨rfl, digestS_length _ _⟩)
  obtain ⟨res, hres⟩ : ∃ r, recoverS m (chainAt c) = r := ⟨_, rfl⟩
  rw [hres] at HR ⊢
  have hasz : arr.size = 16 := by rw [← harr]; simpa using hm
  have hmf := mkfun
  rw [hc] at HK ⊢
  rw [hc] at HM
  clear hM harr hres hD hlt hsl
  go_enter Tryd.func16, Tryd.ntmps16
  go_wp2_with (refine wpList_loadB (ty := 23) (t := 23) (x := .tmp 2) rfl rfl digest_wide rfl (((Blk.new w _ _).alloc _).alloc _) hasz ?_)
  refine (unhide HDg _).mono ?_
  rintro e w1 ⟨g, rfl, hb1, hg, hE1⟩
  have H1 := hide (And.intro hb1 (And.intro ((((Ext.refl w).alloc _).alloc _).alloc _ |>.trans hE1) (And.intro (Ext.cellv hE1 (old_cell _ _ (new_cell (w.alloc (.cells arr 23)) 43 #[.slice A 68 c'] (g := w.heap.size + 1) (by simp) (i := 0) rfl))) ((Blk.new' ((w.alloc (.cells arr 23)).alloc (.cells #[.slice A 68 c'] 43)) 23 (Array.replicate 16 (.int .u8 0)) (g := w.heap.size + 1 + 1) (by simp)).ext hE1))))
  clear hb1 hE1
  have hw1 : w.heap.size + 1 + 1 < w1.heap.size := (unhide H1).2.2.2.lt
  go_wp2_with fail
  refine (unhide HK g w1.heap.size (w1.heap.size + 1) _ ⟨(unhide HM).1.ext ((unhide H1).2.1.alloc _), (unhide HM).2.1.ext ((unhide H1).2.1.alloc _), old_cell _ _ (unhide H1).2.2.1, new_cell _ _ _ rfl rfl, (unhide H1).1.alloc _, fun k hk => by have := (unhide HM).2.2.1 k hk; omega, by omega, by omega, by have := (unhide H1).1.lt; omega, by have := (unhide HM).2.2.2; omega, by have := (unhide HM).2.2.2; omega⟩ (by simp)).mono ?_
  rintro e w2 ⟨rfl, hE2⟩
  rw [(unhide HR).1]
  have H2 := hide (((Ext.refl w1).alloc _).trans hE2)
  clear hE2 hmf
  go_wp2_with (refine wpList_storeB (ty := 23) (t := 23) (x := .tmp 4) (y := .tmp 14) rfl rfl digest_wide rfl rfl ((unhide H1).2.2.2.ext (unhide H2)) rfl (by simpa using (unhide HR).2) (bytes_one _) ?_; intro w7 hb7 hc7 hz7; have H7 := hide (And.intro hb7 hc7); clear hb7 hc7 hz7)
  refine bodyPost_ret (v := .tuple #[.agg (res.map u8v).toArray, .int .i64 0]) (results_two digest_wide rfl (unhide H7).1 (by simpa using (unhide HR).2) rfl rfl) rfl ⟨rfl, ?_⟩
  exact ((unhide H1).2.1.trans (unhide H2)).trans' (unhide H7).2 (fun _ _ h => h) (fun i hi e => by omega)
def signS (seed : List UInt8) (index : Int) (m : List UInt8) (n : Nat) : List (List UInt8) := (List.range n).map (signAt seed index m)
theorem signAt_length (seed : List UInt8) (index : Int) (m : List UInt8) (k : Nat) : (signAt seed index m k).length = 16 := advS_length k _ (startS_length _ _ _) _
theorem signS_step (seed : List UInt8) (index : Int) (m : List UInt8) (n : Nat) : signS seed index m (n + 1) = signS seed index m n ++ [signAt seed index m n] := by unfold signS; rw [List.range_succ, List.map_append]; rfl
theorem signS_length (seed : List UInt8) (index : Int) (m : List UInt8) (n : Nat) : (signS seed index m n).length = n := by unfold signS; simp
end Go.Proofs.YtihghljfmlbfhaaDoor


namespace Go.Proofs.YtihghljfmlbfhaaDoor
open Go.RowKit
theorem KeepB.of_ext {w w' : World} (h : Ext w w') : KeepB w w' := fun _ _ hk _ => h.blk hk
theorem KeepB.own {β : Type} {B : Nat} {I : β → World → Prop} (h : ∀ s W W', I s W → KeepB W W' → I s W') : OwnFrom B I := by
  intro s W W' row hs hg hrow
  refine h s W W' hs fun k o hk ho => ?_
  rw [hg.block k (lt_of_heap hk) (fun e => ?_)]
  · exact hk
  · obtain ⟨_, q, hq, hqc⟩ := hrow k e.symm
    rw [hk] at hq
    cases hq
    rw [ho] at hqc
    cases hqc
theorem wp_rangeH {α : Type} {P : Program} {g : Operand} {ps : Array Tmp} {assign body : Code} {Q : Exit → Act → World → Prop} {a : Act} {w : World}
    {gf : Nat} {lb : Array Value} (hg : a.eval g = .func (.func gf) #[] lb) (eg : ∀ args w, (callFunc gf args).run P w = .ok (.enter gf args) w)
    {encs : α → Array Value} {S : Nat → Prop} {all : List α} {N : Nat}
    (hseq : SeqStopsK Fence.wide 2 P gf lb encs (KeepC S) (fun ys => ys = all) (fun _ => True) N w) (hps : ∀ x, (encs x).size = ps.size)
    (J : List α → World → Prop) (hJ : ∀ pre W W', J pre W → KeepB W W' → J pre W') (h0 : J [] w) (Ax : α → Act → World → Prop) (hAx : ∀ x a' W W', Ax x a' W → KeepB W W' → Ax x a' W')
    (hassign : ∀ (l : Nat) (pre : List α) (x : α) (W : World) (K : Act → World → Prop), Chg S w W → J pre W → (∀ a' W', Ext W W' → Ax x a' W' → K a' W') →
      assign.wpIn (Fence.wide.inRound l) 1 P (Exit.then K (fun _ _ _ => False)) { tmps := (ps.zip (encs x)).foldl (fun t (p, v) => t.setIfInBounds p v) a.tmps, defers := [] } W)
    (hbody : ∀ (l : Nat) (pre : List α) (x : α) (a' : Act) (W : World), Chg S w W → J pre W → Ax x a' W → pre.length < N →
      body.wpIn (Fence.wide.inRound l) 1 P (Exit.then (fun _ W' => Chg S W W' ∧ KeepsFrom w.heap.size W W' ∧ J (pre ++ [x]) W') (fun _ _ _ => False)) a' W)
    (hdone : ∀ (D : Nat) (W : World), w.heap.size ≤ D → Chg S w W → J all W → W.heap[D]? = some (.deferred (some [])) → Q .normal { a with defers := { target := .collected D, args := #[] } :: a.defers } W) :
    (Code.rangeFunc g ps assign body).wp P Q a w := by
  refine (wpIn_wide (n := 3)).1 ?_
  refine wpIn_rangeFunc_ownH (n := 3) (N := N) (w0 := w) rfl (by omega) hg trivial eg hseq (fun h k => h.trans k) (fun W l o o' _ h ho _ => KeepC.putObj W l o' h ho) (Below.refl _ _) hps
    (fun pre W => Chg S w W ∧ J pre W) (fun _ _ _ => False) ?hI (fun _ _ _ _ _ h _ _ => h) ⟨Chg.refl _ _, h0⟩ Ax (fun x a' => KeepB.own fun _ W W' h k => hAx x a' W W' h k) ?hassign ?hbody ?hdone (fun _ _ _ _ _ _ h _ => h.elim)
  case hI =>
    rintro pre W W' row ⟨hc, hj⟩ hgr hrow
    exact ⟨hc.grown hgr fun k e => .inr (hrow k e).1, KeepB.own (B := w.heap.size) hJ pre W W' row hj hgr hrow⟩
  case hassign =>
    rintro l pre x W K ⟨hc, hj⟩ hK
    refine hassign l pre x W K hc hj fun a' W' hE hA => hK a' W' ⟨hE.size', fun k o _ hk _ => hE.blk hk⟩ (KeepC.of_chg hE.chg) ⟨hc.ext hE, hJ _ _ _ hj (KeepB.of_ext hE)⟩ hA
  case hbody =>
    rintro l pre x a' W _ _ ⟨hc, hj⟩ hA hl
    refine wpIn_mono (hbody l pre x a' W hc hj hA hl) ?_
    rintro e b W' h
    cases e with
    | normal =>
      obtain ⟨h1, h3, h2⟩ := h
      exact ⟨h3, KeepC.of_chg h1, hc.trans h1, h2⟩
    | _ => exact h.elim
  case hdone =>
    rintro D xs W hD rfl ⟨hc, hj⟩ hd
    exact hdone D W hD hc hj hd
theorem keeps_own {B0 B : Nat} {w w' : World} {e : TypeId} {size : Nat} {v : Value} {n : Nat} {xs : List Value} (h : w.ownsRow B e size v n xs) (hc : Chg (fun k => v.ownBlock = some k) w w') : KeepsFrom B0 w w' := by
  refine ⟨hc.size, fun k o _ hk ho => hc.blk hk fun hv => ?_⟩
  rcases h.2 with ⟨rfl, _⟩ | ⟨g, cap, cur, rfl, _, hg, _⟩
  · simp [Value.ownBlock] at hv
  · simp only [Value.ownBlock, Option.some.injEq] at hv
    subst hv
    rw [hg] at hk
    cases hk
    simp [Obj.isCells] at ho
theorem KeepB.own' {w w' : World} (hk : KeepB w w') {B : Nat} {e : TypeId} {size : Nat} {v : Value} {n : Nat} {xs : List Value} (h : w.ownsRow B e size v n xs) : w'.ownsRow B e size v n xs := by
  refine ⟨h.1, ?_⟩
  rcases h.2 with hn | ⟨g, cap, cur, rfl, hb, hgg, rest⟩
  · exact .inl hn
  · exact .inr ⟨g, cap, cur, rfl, hb, hk _ _ hgg rfl, rest⟩
theorem grown_of_ext {w w' : World} (h : Ext w w') : w.grownBy w' none := ⟨h.os, h.tape, h.output, h.size', fun k hk _ => h.block k hk (fun h => h)⟩
end Go.Proofs.YtihghljfmlbfhaaDoor


namespace Go.Proofs.YtihghljfmlbfhaaDoor
open Go.RowKit
section
variable {P : Program} {ops : Array Oper} {Q : Exit → Act → World → Prop} {md : Region.Mode} {k : Nat} {C : World → Prop}
def wpAnyK (P : Program) (md : Region.Mode) (ops : Array Oper) (Q : Exit → Act → World → Prop) (k : Nat) (C : World → Prop) : Nat → Array Bool → Act → World → Prop
  | 0, l, a, w => Region.ready md ops l = [] ∧ Q .normal a w
  | f + 1, l, a, w => (Region.ready md ops l = [] → Q .normal a w) ∧
    ∀ i ∈ Region.ready md ops l, wpOp P ops Q i (fun a' w' => ((l.setIfInBounds i true).getD k true = false → C w') ∧ wpAnyK P md ops Q k C f (l.setIfInBounds i true) a' w') a w
theorem wpAny_of_key : ∀ (f : Nat) (l : Array Bool) (a : Act) (w : World), wpAnyK P md ops Q k C f l a w → wpAny P md ops Q f l a w
  | 0, _, _, _, h => h
  | f + 1, _, _, _, h => ⟨h.1, fun i hi => wpOp_mono (fun a' w' h' => wpAny_of_key f _ a' w' h'.2) (h.2 i hi)⟩
def waitsB (md : Region.Mode) (ops : Array Oper) (k i : Nat) : Bool := match ops[k]? with
  | some o => o.after.any fun e => Region.binds md e && e.on == i
  | none => false
theorem ready_ne {l : Array Bool} {i j : Nat} (hi : i ∈ Region.ready md ops l) (hj : j ∈ Region.ready md ops l) (hk : waitsB md ops k i = true) : j ≠ k := by
  rintro rfl
  obtain ⟨_, o, ho, hall⟩ := mem_ready.1 hj
  unfold waitsB at hk
  rw [ho] at hk
  obtain ⟨e, he, h2⟩ := Array.any_eq_true'.1 hk
  rw [Bool.and_eq_true, beq_iff_eq] at h2
  have h1 := hall e he h2.1
  have h0 := (mem_ready.1 hi).1
  rw [h2.2] at h1
  rcases Nat.lt_or_ge i l.size with h' | h'
  · simp [h'] at h0 h1; rw [h0] at h1; cases h1
  · simp [Array.getElem?_eq_none h'] at h1
theorem getD_set_ne' {l : Array Bool} {i j : Nat} (d : Bool) (h : i ≠ j) : (l.setIfInBounds i true).getD j d = l.getD j d := by
  simp [Array.getD_eq_getD_getElem?, Array.getElem?_setIfInBounds_ne h]
theorem wpAnyK_first {i : Nat} {oi : Oper} {v : Value} (hi : ops[i]? = some oi) (hsel : ∀ (j : Nat) (o : Oper) cs b, ops[j]? = some o → o.op ≠ .select cs b)
    (hQ : ∀ c a w, Q (.panic c) (a.put oi.dst v) w → Q (.panic c) a w) (hki : waitsB md ops k i = true) :
    ∀ (f : Nat) (l : Array Bool) (a : Act) (w : World),
      (∀ j oj, ops[j]? = some oj → j ≠ i → l.getD j true = false → (∀ e ∈ oj.after, Region.binds md e = true → e.on ≠ i) → oi.apart ops oj = true) →
      i ∈ Region.ready md ops l → l.getD k true = false → i ≠ k → YieldsIf P ops C oi v a → C w →
      wpAnyK P md ops Q k C f (l.setIfInBounds i true) (a.put oi.dst v) w → wpAnyK P md ops Q k C (f + 1) l a w := by
  intro f
  induction f with
  | zero =>
    intro l a w _ hr _ _ hy hC H
    refine ⟨fun h => (by rw [h] at hr; cases hr), fun j hj => ?_⟩
    by_cases hji : j = i
    · subst hji; exact hy.wpOp hi hC ⟨fun _ => hC, H⟩
    · have := ready_mono hj hji
      rw [H.1] at this
      cases this
  | succ f ih =>
    intro l a w hfree hr hkl hik hy hC H
    refine ⟨fun h => (by rw [h] at hr; cases hr), fun j hj => ?_⟩
    by_cases hji : j = i
    · subst hji; exact hy.wpOp hi hC ⟨fun _ => hC, H⟩
    · have hjk : j ≠ k := ready_ne hr hj hki
      have h1 := H.2 j (ready_mono hj hji)
      obtain ⟨hjun, oj, hoj, hall⟩ := mem_ready.1 hj
      have hnot : ∀ e ∈ oj.after, Region.binds md e = true → e.on ≠ i := fun e he hb heq => by
        have h1 := hall e he hb
        have h0 := (mem_ready.1 hr).1
        rw [heq] at h1
        rcases Nat.lt_or_ge i l.size with h' | h'
        · simp [h'] at h0 h1; rw [h0] at h1; cases h1
        · simp [Array.getElem?_eq_none h'] at h1
      have h2 := wpOp_putIf hoj (hfree j oj hoj hji hjun hnot) (fun cs b => hsel i oi cs b hi) (fun cs b => hsel j oj cs b hoj) hQ hy h1
      have hfree' : ∀ m om, ops[m]? = some om → m ≠ i → (l.setIfInBounds j true).getD m true = false →
          (∀ e ∈ om.after, Region.binds md e = true → e.on ≠ i) → oi.apart ops om = true := fun m om hm hmi hun hno => by
        refine hfree m om hm hmi ?_ hno
        by_cases hjm : j = m
        · subst hjm; exact hjun
        · rw [getD_set_ne' true hjm] at hun; exact hun
      have hkl' : (l.setIfInBounds j true).getD k true = false := by rw [getD_set_ne' true hjk]; exact hkl
      refine wpOp_mono (fun a' w' h3 => ?_) h2
      have hC' : C w' := h3.2.1 (by rw [getD_set_ne' true hjk, getD_set_ne' true hik]; exact hkl)
      refine ⟨fun _ => hC', ih (l.setIfInBounds j true) a' w' hfree' (ready_mono hr (Ne.symm hji)) hkl' hik h3.1 hC' ?_⟩
      rw [Array.setIfInBounds_comm _ _ hji]
      exact h3.2.2
theorem wpAnyK_take {i : Nat} {oi : Oper} {v : Value} {f : Nat} {l : Array Bool} {a : Act} {w : World} (hi : ops[i]? = some oi)
    (hs : Region.noSelect ops = true) (hf : Region.free md ops l i = true) (hr : (Region.ready md ops l).contains i = true) (hki : waitsB md ops k i = true) (hkl : (!l.getD k true && i != k) = true)
    (hQ : ∀ c a w, Q (.panic c) (a.put oi.dst v) w → Q (.panic c) a w) (hy : YieldsIf P ops C oi v a) (hC : C w)
    (h : wpAnyK P md ops Q k C f (l.setIfInBounds i true) (a.put oi.dst v) w) : wpAnyK P md ops Q k C (f + 1) l a w := by
  rw [Bool.and_eq_true, Bool.not_eq_true', bne_iff_ne] at hkl
  exact wpAnyK_first hi (Region.noSelect_spec hs) hQ hki f l a w (Region.free_spec hi hf) (by simpa using hr) hkl.1 hkl.2 hy hC h
def AllReadyK (P : Program) (md : Region.Mode) (ops : Array Oper) (Q : Exit → Act → World → Prop) (k : Nat) (C : World → Prop) (f : Nat) (l : Array Bool) (a : Act) (w : World) (rs : List Nat) : Prop :=
  ∀ i ∈ rs, wpOp P ops Q i (fun a' w' => ((l.setIfInBounds i true).getD k true = false → C w') ∧ wpAnyK P md ops Q k C f (l.setIfInBounds i true) a' w') a w
theorem AllReadyK.nil {f : Nat} {l : Array Bool} {a : Act} {w : World} : AllReadyK P md ops Q k C f l a w [] := fun _ h => by cases h
theorem AllReadyK.cons {f : Nat} {l : Array Bool} {a : Act} {w : World} {i : Nat} {o : Oper} {rs : List Nat} (ho : ops[i]? = some o)
    (h : ∀ K' : Act → World → Prop, Shut (∀ a w, C w → (C w → wpAnyK P md ops Q k C f (l.setIfInBounds i true) a w) → K' a w) → if Region.wanted o (yielded ops a.tmps) = true then Oper.wp P o a w K' Q else K' (a.put o.dst undef) w)
    (hs : AllReadyK P md ops Q k C f l a w rs) : AllReadyK P md ops Q k C f l a w (i :: rs) := fun j hj => by
  rcases List.mem_cons.1 hj with rfl | hj
  · exact wpOp_step ho (fun K' hK => h K' (fun a w hS hW => hK a w ⟨fun _ => hS, hW hS⟩))
  · exact hs j hj
theorem AllReadyK.key {f : Nat} {l : Array Bool} {a : Act} {w : World} {i : Nat} {o : Oper} (hk : (l.setIfInBounds i true).getD k true = true) (ho : ops[i]? = some o)
    (h : ∀ K' : Act → World → Prop, Shut (∀ a w, True → (True → wpAnyK P md ops Q k C f (l.setIfInBounds i true) a w) → K' a w) → if Region.wanted o (yielded ops a.tmps) = true then Oper.wp P o a w K' Q else K' (a.put o.dst undef) w) : AllReadyK P md ops Q k C f l a w [i] := fun j hj => by
  rcases List.mem_cons.1 hj with rfl | hj
  · exact wpOp_step ho (fun K' hK => h K' (fun a w hS hW => hK a w ⟨(by rw [hk]; intro h; cases h), hW hS⟩))
  · cases hj
theorem wpAnyK_ready {rs : List Nat} {f : Nat} {l : Array Bool} {a : Act} {w : World} (hr : Region.ready md ops l = rs) (hne : rs ≠ [])
    (h : AllReadyK P md ops Q k C f l a w rs) : wpAnyK P md ops Q k C (f + 1) l a w :=
  ⟨fun h0 => absurd (hr ▸ h0) hne, hr ▸ h⟩
theorem wpAnyK_done {l : Array Bool} {a : Act} {w : World} (hr : Region.ready md ops l = []) (h : Q .normal a w) : ∀ f, wpAnyK P md ops Q k C f l a w
  | 0 => ⟨hr, h⟩
  | _ + 1 => ⟨fun _ => h, by rw [hr]; simp⟩
theorem wp_region_key (k : Nat) (C : World → Prop) {id : Nat} {a : Act} {w : World} (hm : P.follows .mixedOrders = true) (hC : C w.drew)
    (h : C w.drew → wpAnyK P .any ops Q k C ops.size (Array.replicate ops.size false) a w.drew) : (Code.region id ops true).wp P Q a w :=
  wp_region_any hm (wpAny_of_key _ _ _ _ (h hC))
end
end Go.Proofs.YtihghljfmlbfhaaDoor


namespace Go.Proofs.YtihghljfmlbfhaaDoor
open Go.RowKit
theorem prove_le : ∀ (n : Nat) (l : List (List UInt8)) (i : Nat), l.length ≤ n → (proveS l i).length ≤ l.length
  | 0, l, i, h => by rw [proveS_one l i (by omega)]; simp
  | n + 1, l, i, h => by
    by_cases h1 : l.length ≤ 1
    · rw [proveS_one l i h1]; simp
    · have hb := splitS_bounds l.length (by omega)
      by_cases hk : i < splitS l.length
      · have := prove_le n (l.take (splitS l.length)) i (by rw [List.length_take]; omega)
        rw [proveS_left l i (by omega) hk]
        rw [List.length_take] at this
        simp
        omega
      · have := prove_le n (l.drop (splitS l.length)) (i - splitS l.length) (by rw [List.length_drop]; omega)
        rw [proveS_right l i (by omega) hk]
        rw [List.length_drop] at this
        simp
        omega
end Go.Proofs.YtihghljfmlbfhaaDoor


namespace Go.Proofs.YtihghljfmlbfhaaDoor
open Go.RowKit
def okH (h : Int) : Prop := 0 ≤ h ∧ h ≤ 4
def leavesS (seed : List UInt8) (n : Nat) : List (List UInt8) := (List.range n).map fun (k : Nat) => publicS seed (k : Int)
theorem leavesS_length (seed : List UInt8) (n : Nat) : (leavesS seed n).length = n := by unfold leavesS; simp
theorem publicS_length (seed : List UInt8) (i : Int) : (publicS seed i).length = 16 := digestS_length _ _
theorem leavesS_get (seed : List UInt8) (n k : Nat) (h : k < n) : (leavesS seed n)[k]? = some (publicS seed (k : Int)) := by
  unfold leavesS
  rw [List.getElem?_map, List.getElem?_range h]
  rfl
theorem leavesS_16 (seed : List UInt8) (n : Nat) : D16 (leavesS seed n) := fun d hd => by
  unfold leavesS at hd
  obtain ⟨k, _, rfl⟩ := List.mem_map.1 hd
  exact publicS_length _ _
theorem valid_yes (h : Int) (w : World) (hh : okH h) : Calls Tryd.prog 11 #[.int .i64 h] w fun e w' => e = .returned (.bool true) ∧ w = w' := by
  obtain ⟨h1, h2⟩ := hh
  go_enter Tryd.func11, Tryd.ntmps11
  go_wp2
  go_ret
  exact ⟨rfl, rfl⟩
theorem valid_no (h : Int) (w : World) (hh : ¬ okH h) : Calls Tryd.prog 11 #[.int .i64 h] w fun e w' => e = .returned (.bool false) ∧ w = w' := by
  unfold okH at hh
  by_cases h1 : 0 ≤ h
  · have h2 : ¬ h ≤ 4 := by omega
    clear hh
    go_enter Tryd.func11, Tryd.ntmps11
    go_wp2
    go_ret
    exact ⟨rfl, rfl⟩
  · clear hh
    go_enter Tryd.func11, Tryd.ntmps11
    go_wp2
    go_ret
    exact ⟨rfl, rfl⟩
theorem pow_five {P : Nat → Prop} (h : Nat) (hh : h ≤ 4) (h0 : P 0) (h1 : P 1) (h2 : P 2) (h3 : P 3) (h4 : P 4) : P h := by
  match h, hh with
  | 0, _ => exact h0
  | 1, _ => exact h1
  | 2, _ => exact h2
  | 3, _ => exact h3
  | 4, _ => exact h4
theorem shl_one (h : Nat) (hh : h ≤ 4) : wrap64 ((2 : Int) ^ h) = ((2 ^ h : Nat) : Int) :=
  pow_five (P := fun h => wrap64 ((2 : Int) ^ h) = ((2 ^ h : Nat) : Int)) h hh (by decide +kernel) (by decide +kernel) (by decide +kernel) (by decide +kernel) (by decide +kernel)
theorem shl_one2 (h : Nat) (hh : h ≤ 4) : IntKind.i64.wrap ((2 : Int) ^ h) = ((2 ^ h : Nat) : Int) :=
  pow_five (P := fun h => IntKind.i64.wrap ((2 : Int) ^ h) = ((2 ^ h : Nat) : Int)) h hh (by decide +kernel) (by decide +kernel) (by decide +kernel) (by decide +kernel) (by decide +kernel)
set_option maxRecDepth 100000 in
set_option maxHeartbeats 2000000 in
theorem keys_any (arr : Array Value) (h : Int) (w : World) :
    Calls Tryd.prog 22 #[.agg arr, .int .i64 h] w fun e w' => e = .returned (.func (.func 35) #[] #[.pointer (some ⟨w.heap.size + 1, 0, none⟩), .pointer (some ⟨w.heap.size, 0, none⟩)]) ∧
      (w.alloc (.cells arr 23)).alloc (.cells #[.int .i64 h] 3) = w' := by
  have hmf := mkfun
  go_enter Tryd.func22, Tryd.ntmps22
  go_wp2
  go_ret
  exact ⟨rfl, rfl⟩
theorem wpListIn_loadM {P : Program} {F : Fence} {n0 : Nat} {ops : Array Oper} {rest : List Oper} {o : Oper} {a : Act} {w : World} {Q : Exit → Act → World → Prop} (hgd : o.guard = none) {ty : TypeId} {x : Operand} (ho : o.op = .load ty x) {n : Nat} (W : Wide P ty n)
    {g off : Nat} (hx : a.eval x = .pointer (some ⟨g, off, none⟩)) {cs : List Value} (hB : w.rangeAt g off cs) (hn : cs.length = n) (h : wpListIn F n0 P ops Q rest (a.put o.dst (.agg cs.toArray)) w) : wpListIn F n0 P ops Q (o :: rest) a w :=
  wpListIn_plain hgd fun _ hK => by
    obtain ⟨d, hu, hd⟩ := W.und
    unfold Oper.wpIn
    refine ⟨by simp [Oper.about, ho], ?_⟩
    rw [Oper.semAt_plain F _ _ (by rw [ho]; intro c h; cases h)]
    unfold execOp
    have hr := run_loadVar_mid (P := P) w g off ty cs d hB hu hd (by rw [hn]; exact W.info)
    simp only [ho, hx, Instr.loadAt, Instr.sureAddr, Sem.run_bind, Sem.run_pure, Result.andThen_ok, hr]
    exact hK _ _ h
section
variable {P : Program} {F : Fence} {n0 : Nat}
theorem wpListIn_build1 {ops : Array Oper} {rest : List Oper} {o : Oper} {a : Act} {w : World} {Q : Exit → Act → World → Prop} (hgd : o.guard = none) {t e : TypeId} {size bytes : Nat} (T : SlTy P t e size bytes) (hsz : size ≤ 1000) {x : Operand} (ho : o.op = .buildSlice t 1 #[(0, x)]) {cs : Array Value} (hx : a.eval x = .agg cs) (hn : cs.size = size)
    (h : wpListIn F n0 P ops Q rest (a.put o.dst (.slice (some ⟨w.heap.size, 0, none⟩) 1 1)) (w.alloc (.cells cs e))) : wpListIn F n0 P ops Q (o :: rest) a w :=
  wpListIn_plain hgd fun _ hK => by
    obtain ⟨ht, ⟨i, z, hi, hz, hsize, _, hzs⟩, h0, _⟩ := T
    unfold Oper.wpIn
    refine ⟨by simp [Oper.about, ho], ?_⟩
    rw [Oper.semAt_plain F _ _ (by rw [ho]; intro c h; cases h)]
    unfold execOp
    have hfl : Instr.fill (fun i' => some (i' * i.size, i.size)) ((Array.range (1 * i.size)).map (z.cells[· % z.cells.size]!)) ((#[(0, x)] : Array (Nat × Operand)).map fun (i, x) => (i, a.eval x)).toList = some cs := by
      rw [hsize]
      have := fill_one ((Array.range (1 * size)).map (z.cells[· % z.cells.size]!)) cs size (by simp) hn
      simpa [hx] using this
    simp only [ho, Sem.run_bind, run_buildSlice w t e 1 _ cs i z ht hi hz (by rw [hsize]; omega) (by rw [hsize]; omega) hfl, Result.andThen_ok]
    exact hK _ _ h
theorem wpListIn_app {ops : Array Oper} {rest : List Oper} {o : Oper} {a : Act} {w : World} {Q : Exit → Act → World → Prop} (hgd : o.guard = none) {s x : Operand} {t : TypeId}
    (ho : o.op = .call { callee := .builtin .append, args := #[s, x], argTypes := #[t, t] })
    {B : Nat} {e : TypeId} {size bytes : Nat} (T : SlTy P t e size bytes) {v : Value} (hs : a.eval s = v) {n : Nat} {xs : List Value} (hown : w.ownsRow B e size v n xs)
    {u : Value} (hx : a.eval x = u) {m : Nat} {news : List Value} (hr : Reads w size u m news) (h1 : AllOne news) (hbytes : (n + m) * bytes ≤ 140737488355328) (hbase : B ≤ w.heap.size)
    (h : ∀ (A' : Option Addr) (c' : Nat) w', w'.ownsRow B e size (.slice A' (n + m) c') (n + m) (xs ++ news) → Chg (fun k => v.ownBlock = some k) w w' → wpListIn F n0 P ops Q rest (a.put o.dst (.slice A' (n + m) c')) w') : wpListIn F n0 P ops Q (o :: rest) a w :=
  wpListIn_plain hgd fun _ hK => by
    obtain ⟨v', w', hrun, h2, h3, _⟩ := run_app (P := P) (ty := o.type) T hown hr h1 hbytes hbase
    obtain ⟨A', c', rfl⟩ := own_slice h2
    unfold Oper.wpIn
    refine ⟨by simp [Oper.about, ho, resolve, Target.leads, Sem.run_pure], ?_⟩
    rw [Oper.semAt_plain F _ _ (by rw [ho]; intro c h; cases h)]
    simp [execOp, ho, resolve, invoke, builtin, hs, hx, hrun, Result.andThen]
    exact hK _ _ (h A' c' w' h2 h3)
end
attribute [local go_sem] Oper.semAt_some
set_option maxRecDepth 100000 in
set_option maxHeartbeats 4000000 in
theorem keys_stops (seed : List UInt8) (h n : Nat) (hn : n = 2 ^ h) (hh : h ≤ 4) (Bh Bs : Nat) (S : Nat → Prop) (w : World) (hv : seed.length = 16) (hM : ShaMem w) (hs1 : ¬ S 1) (hs2 : ¬ S 0) (_ : ¬ S Bh) (hs4 : ¬ S Bs)
    (h1 : w.cell? ⟨Bh, 0, none⟩ = some (.int .i64 (h : Int))) (h2 : Blk w Bs 23 (seed.map u8v).toArray) :
    SeqStopsK Fence.wide 2 Tryd.prog 35 #[.pointer (some ⟨Bh, 0, none⟩), .pointer (some ⟨Bs, 0, none⟩)] (fun x : Fin n => #[.agg ((publicS seed ((x.val : Nat) : Int)).map u8v).toArray]) (KeepC S) (fun ys => ys = List.finRange n) (fun _ => True) n w := by
  intro l J Jx W hW hJ hJx hY h0
  have hE := Ext.of_below hW
  have k1 := Ext.cellv hE h1
  have hn16 : n ≤ 16 := by subst hn; exact Nat.le_trans (Nat.pow_le_pow_right (by omega) hh) (by omega)
  have HI0 := hide (show ShaMem W ∧ W.rangeAt Bs 0 (seed.map u8v) from ⟨hM.ext hE, fun j v hj => Ext.cellv hE (by rw [Nat.zero_add, h2.cell]; simpa using hj)⟩)
  have HPb := hide (fun k (hk : k < n) W (hM : ShaMem W) => public_any seed ((k : Nat) : Int) W hM hv (by omega) (by omega))
  have HSL := hide (show (seed.map u8v).length = 16 from by simpa using hv)
  clear h1 h2 hM hE hW
  refine callsIn_wide.2 ?_
  have hsh : wrap64 ((2 : Int) ^ h) = (n : Int) := by rw [shl_one h hh, hn]
  clear hn hv
  go_enter Tryd.func35, Tryd.ntmps35
  go_wp2
  clear hsh
  go_loopw [7] (fun i wr => ∃ k : Nat, k ≤ n ∧ i = .int .i64 k ∧ Hid (J ((List.finRange n).take k) wr ∧ ShaMem wr ∧ wr.rangeAt Bs 0 (seed.map u8v))) (fun i _ => n - (intOf i).toNat)
  case atStart => exact ⟨0, Nat.zero_le _, rfl, hide ⟨h0, (unhide HI0).1, (unhide HI0).2⟩⟩
  case round =>
    obtain ⟨k, hk, rfl, HJ⟩ := hrel
    by_cases hlt : k < n
    · have HP := hide (unhide HPb k hlt wr (unhide HJ).2.1)
      have hltI : (k : Int) < (n : Int) := by omega
      have HY := hide (fun W (hE : Ext wr W) => hY ((List.finRange n).take k) ⟨k, hlt⟩ W (hJ _ _ W none (unhide HJ).1 (grown_of_ext hE) (fun r e => by cases e)) (by simp; omega))
      obtain ⟨arr, harr⟩ : ∃ x, (seed.map u8v).toArray = x := ⟨_, rfl⟩
      obtain ⟨pb, hpb⟩ : ∃ x, ((publicS seed ((k : Nat) : Int)).map u8v).toArray = x := ⟨_, rfl⟩
      rw [harr] at HP
      rw [hpb] at HP HY
      go_upto_region 3 with fail
      refine (wpIn_wide (n := 2)).1 ?_
      gi_wp2_with ((refine wpListIn_loadM (ty := 23) (x := .tmp 2) rfl rfl digest_wide rfl (unhide HJ).2.2 (unhide HSL) ?_; rw [harr]))
      refine ⟨trivial, ?_⟩
      refine (callsIn_wide.2 (unhide HP)).mono ?_
      rintro e w1 ⟨rfl, hE1⟩
      have H1 := hide hE1
      obtain ⟨fn, tmps, assign, body, hy, hR⟩ := unhide HY w1 hE1
      clear hE1
      try dsimp only at hy
      gi_wp2
      clear hy
      refine hR.mono ?_
      rintro e W3 (⟨rfl, hJ3, hk3⟩ | ⟨rfl, hJx3⟩)
      · have HJ4 := hide (show J ((List.finRange n).take (k + 1)) W3 ∧ ShaMem W3 ∧ W3.rangeAt Bs 0 (seed.map u8v) from
          ⟨by rw [fin_step n k hlt]; exact hJ3, ⟨fun j v hj => hk3 _ _ hs1 (((unhide HJ).2.1.ext (unhide H1)).k j v hj), fun j v hj => hk3 _ _ hs2 (((unhide HJ).2.1.ext (unhide H1)).h j v hj)⟩, fun j v hj => hk3 _ _ hs4 (Ext.cellv (unhide H1) ((unhide HJ).2.2 j v hj))⟩)
        clear hJ3 hk3
        gi_wp2
        go_wp2
        go_roundw
        case rel => exact ⟨k + 1, by omega, by go_num, HJ4⟩
        case measure => simp [intOf]; omega
      · gi_wp2
        go_wp2
        refine bodyPost_ret (results_none rfl _ _ _) rfl ?_
        exact ⟨⟨_, rfl⟩, .inr ⟨_, trivial, hJx3⟩⟩
    · obtain rfl : k = n := by omega
      go_wp2
      go_end0
      exact ⟨⟨_, rfl⟩, .inl ⟨_, rfl, by have := (unhide HJ).1; rwa [List.take_of_length_le (by simp)] at this⟩⟩
def LJ (seed : List UInt8) (B bo : Nat) {n : Nat} (pre : List (Fin n)) (W : World) : Prop := ∃ A c, Blk W bo 43 #[.slice A pre.length c] ∧ W.ownsRow B 23 16 (.slice A pre.length c) pre.length (dcells (pre.map fun x => publicS seed ((x.val : Nat) : Int)))
theorem LJ.keep {seed : List UInt8} {B bo n : Nat} {pre : List (Fin n)} {W W' : World} (h : LJ seed B bo pre W) (hk : KeepB W W') : LJ seed B bo pre W' := by
  obtain ⟨A, c, h1, h2⟩ := h
  exact ⟨A, c, hk.blk h1, hk.own' h2⟩
theorem fin_leaves (seed : List UInt8) (n : Nat) : (List.finRange n).map (fun x => publicS seed ((x.val : Nat) : Int)) = leavesS seed n := by
  unfold leavesS
  rw [← fin_map, List.map_map]
  rfl
set_option maxRecDepth 100000 in
set_option maxHeartbeats 8000000 in
theorem leaves_any (seed : List UInt8) (h n : Nat) (hn : n = 2 ^ h) (hh : h ≤ 4) (w : World) (hv : seed.length = 16) (hM : ShaMem w) :
    Calls Tryd.prog 13 #[.agg (seed.map u8v).toArray, .int .i64 (h : Int)] w fun e w' => ∃ A c, e = .returned (.slice A n c) ∧ GD w w.heap.size (.slice A n c) n (leavesS seed n) w' := by
  have hsl := hM.lt
  have hn16 : n ≤ 16 := by subst hn; exact Nat.le_trans (Nat.pow_le_pow_right (by omega) hh) (by omega)
  have HST := hide (fun W (hE : Ext w W) (h1 : W.cell? ⟨w.heap.size + 3, 0, none⟩ = some (.int .i64 (h : Int))) (h2 : Blk W (w.heap.size + 2) 23 (seed.map u8v).toArray) =>
    keys_stops seed h n hn hh (w.heap.size + 3) (w.heap.size + 2) (fun k => k = w.heap.size + 1 ∨ w.heap.size + 4 ≤ k) W hv (hM.ext hE) (by omega) (by omega) (by omega) (by omega) h1 h2)
  have HF := hide (fin_leaves seed n)
  have H16 := hide (leavesS_16 seed n)
  have HPL := hide (publicS_length seed)
  obtain ⟨arr, harr⟩ : ∃ x, (seed.map u8v).toArray = x := ⟨_, rfl⟩
  have HSZ := hide (show arr.size = 16 from by rw [← harr]; simpa using hv)
  rw [harr] at HST ⊢
  have HKy := hide (fun W => keys_any arr (h : Int) W)
  clear hM hsl hn hh harr hv
  refine (callsIn_wide (n := 3)).1 (callsIn_of_wp_marks Tryd.func13 rfl trivial ((wpIn_wide (n := 3)).2 ?_))
  simp only [Tryd.ntmps13, List.size_toArray, List.length_cons, List.length_nil, Nat.reduceAdd, Nat.reduceSub, Array.replicate_succ, Array.replicate_zero, List.push_toArray, List.append_toArray, List.nil_append, List.cons_append]
  go_wp2_with (first
    | (refine wpList_loadB (ty := 23) (t := 23) (x := .tmp 2) rfl rfl digest_wide rfl (cs := arr) ((Blk.new w _ _).alloc _) (unhide HSZ) ?_)
    | (go_at_call 22; refine (unhide HKy _).mono ?_; rintro e w1 ⟨rfl, rfl⟩))
  have HW := hide (show Ext w ((((w.alloc (.cells arr 23)).alloc (.cells #[.slice none 0 0] 43)).alloc (.cells arr 23)).alloc (.cells #[.int .i64 (h : Int)] 3)) ∧
      Blk ((((w.alloc (.cells arr 23)).alloc (.cells #[.slice none 0 0] 43)).alloc (.cells arr 23)).alloc (.cells #[.int .i64 (h : Int)] 3)) (w.heap.size + 1) 43 #[.slice none 0 0] ∧
      Blk ((((w.alloc (.cells arr 23)).alloc (.cells #[.slice none 0 0] 43)).alloc (.cells arr 23)).alloc (.cells #[.int .i64 (h : Int)] 3)) (w.heap.size + 2) 23 arr ∧
      ((((w.alloc (.cells arr 23)).alloc (.cells #[.slice none 0 0] 43)).alloc (.cells arr 23)).alloc (.cells #[.int .i64 (h : Int)] 3)).cell? ⟨w.heap.size + 3, 0, none⟩ = some (.int .i64 (h : Int)) ∧
      ((((w.alloc (.cells arr 23)).alloc (.cells #[.slice none 0 0] 43)).alloc (.cells arr 23)).alloc (.cells #[.int .i64 (h : Int)] 3)).heap.size = w.heap.size + 4 from
    ⟨((((Ext.refl w).alloc _).alloc _).alloc _).alloc _, ((Blk.new' _ _ _ (by simp)).alloc _).alloc _, (Blk.new' _ _ _ (by simp)).alloc _, new_cell _ _ _ (by simp) rfl, by simp⟩)
  generalize hW0 : ((((w.alloc (.cells arr 23)).alloc (.cells #[.slice none 0 0] 43)).alloc (.cells arr 23)).alloc (.cells #[.int .i64 (h : Int)] 3)) = W0 at *
  clear hW0
  refine wp_rangeH (gf := 35) (S := fun k => k = w.heap.size + 1 ∨ w.heap.size + 4 ≤ k) (all := List.finRange n) (N := n) (encs := fun x : Fin n => #[.agg ((publicS seed ((x.val : Nat) : Int)).map u8v).toArray]) rfl (call_enters Tryd.func35 (by kernel_rfl) rfl)
    (unhide HST W0 (unhide HW).1 (unhide HW).2.2.2.1 (unhide HW).2.2.1) (fun _ => rfl)
    (LJ seed (w.heap.size + 4) (w.heap.size + 1)) (fun _ _ _ h k => h.keep k) ⟨none, 0, (unhide HW).2.1, World.ownsRow_nil _ _ _ _⟩
    (fun x a' W => ∃ Bx, Blk W Bx 23 ((publicS seed ((x.val : Nat) : Int)).map u8v).toArray ∧ a' = { tmps := #[.agg arr, .int .i64 (h : Int), .pointer (some ⟨w.heap.size, 0, none⟩), undef, .slice none 0 0, .pointer (some ⟨w.heap.size + 1, 0, none⟩), .pointer (some ⟨Bx, 0, none⟩), .agg arr, .int .i64 (h : Int), .func (.func 35) #[] #[.pointer (some ⟨w.heap.size + 1 + 1 + 1, 0, none⟩), .pointer (some ⟨w.heap.size + 1 + 1, 0, none⟩)], .agg ((publicS seed ((x.val : Nat) : Int)).map u8v).toArray, undef, undef, undef, undef, undef], defers := [] })
    (fun x a' W W' h k => by obtain ⟨Bx, h1, h2⟩ := h; exact ⟨Bx, k.blk h1, h2⟩) ?assign ?body ?done
  case assign =>
    intro l pre x W K hc hj hK
    have HPx := hide (show ((publicS seed ((x.val : Nat) : Int)).map u8v).toArray.size = 16 from by simpa using unhide HPL _)
    obtain ⟨pb, hpb⟩ : ∃ y, ((publicS seed ((x.val : Nat) : Int)).map u8v).toArray = y := ⟨_, rfl⟩
    have HPb := hide (show pb.all (·.oneCell') = true from by rw [← hpb]; exact bytes_one _)
    rw [hpb] at hK HPx ⊢
    clear hpb
    gi_wp2_with (refine wpListIn_storeB (ty := 23) (t := 23) (x := .tmp 6) (y := .tmp 10) rfl rfl digest_wide rfl rfl (Blk.new W _ _) rfl (unhide HPx) (unhide HPb) ?_; intro w10 hb10 hc10 hz10; have H10 := hide (And.intro hb10 (made_ext1 hc10)); clear hb10 hc10 hz10)
    exact hK _ _ (unhide H10).2 ⟨_, (unhide H10).1, rfl⟩
  case body =>
    rintro l pre x a' W hc ⟨A, c, hb, ho⟩ ⟨Bx, hx, rfl⟩ hlen
    have HPx := hide (unhide HPL ((x.val : Nat) : Int))
    have HQ := hide (show dcells ((pre ++ [x]).map fun x => publicS seed ((x.val : Nat) : Int)) = dcells (pre.map fun x => publicS seed ((x.val : Nat) : Int)) ++ (publicS seed ((x.val : Nat) : Int)).map u8v from by rw [List.map_append, dcells_append]; congr 1; exact dcells_one _)
    generalize publicS seed ((x.val : Nat) : Int) = p at *
    have HB := hide (And.intro hb (And.intro ho (And.intro hx (And.intro hc (show w.heap.size + 4 ≤ W.heap.size from by have := hc.size; have := (unhide HW).2.2.2.2; omega)))))
    have cb : W.cell? ⟨w.heap.size + 1, 0, none⟩ = some (.slice A pre.length c) := by rw [hb.cell]; rfl
    have fb := hb.frozen 0
    have lb := hb.lt
    clear hb ho hx hc
    gi_wp2_with (first
      | (refine wpListIn_loadB (ty := 23) (t := 23) (x := .tmp 6) rfl rfl digest_wide rfl (unhide HB).2.2.1 (by simpa using unhide HPx) ?_)
      | (refine wpListIn_build1 (t := 43) (x := .tmp 12) rfl digs_row (by omega) rfl rfl (by simpa using unhide HPx) ?_)
      | (gi_at_builtin; refine wpListIn_app rfl rfl digs_row rfl (ownsRow_ext (unhide HB).2.1 ((Ext.refl W).alloc _)) rfl (Reads.newD _ _ _ (unhide HPx) rfl) (AllOne.u8 p) (by omega) (by have := (unhide HB).2.2.2.2; simp; omega) ?_; intro A' c' w4 ho hc4; have H4 := hide (And.intro ho hc4); have cb4 := Chg.cellv hc4 (old_cell W (.cells (p.map u8v).toArray 23) cb) (fun e => by have := ((unhide HB).2.1.lt _ e).1; simp at this); have fb4 := (((unhide HB).1.alloc (.cells (p.map u8v).toArray 23)).chg hc4 (fun e => by have := ((unhide HB).2.1.lt _ e).1; omega)).frozen 0; clear ho hc4))
    refine ⟨?_, ?_, A', c', ?_, ?_⟩
    · exact ((((Ext.refl W).alloc _).chg (S := fun k => k = w.heap.size + 1 ∨ w.heap.size + 4 ≤ k)).trans ((unhide H4).2.mono (fun k _ hk => .inr ((unhide HB).2.1.lt k hk).1))).setCell (p := ⟨w.heap.size + 1, 0, none⟩) (.inl (.inl rfl)) _
    · exact (((KeepsOthers.alloc W _).from _).trans (keeps_own (ownsRow_ext (unhide HB).2.1 ((Ext.refl W).alloc _)) (unhide H4).2)).trans ((KeepsOthers.setCell _ _ _).from _)
    · have := (((unhide HB).1.alloc (.cells (p.map u8v).toArray 23)).chg (unhide H4).2 (fun e => by have := ((unhide HB).2.1.lt _ e).1; omega)).set_ 0 (.slice A' (pre.length + 1) c')
      rw [List.length_append]
      exact this
    · rw [unhide HQ, List.length_append]
      refine ownsRow_chg (unhide H4).1 (Chg.setCell (Chg.refl (fun k => k = w.heap.size + 1) w4) (p := ⟨w.heap.size + 1, 0, none⟩) (.inl rfl) _) (fun k hk => ?_)
      have := ((unhide H4).1.lt k hk).1
      omega
  case done =>
    rintro D W hD hc ⟨A, c, hb, ho⟩ hK
    rw [unhide HF] at ho
    rw [List.length_finRange] at hb ho
    have cb : W.cell? ⟨w.heap.size + 1, 0, none⟩ = some (.slice A n c) := by rw [hb.cell]; rfl
    have HB := hide (And.intro ho (And.intro hc hK))
    have hDw : w.heap.size + 4 ≤ D := by have := (unhide HW).2.2.2.2; omega
    clear hb ho hc hK
    go_wp2
    refine leave_mark rfl (unhide HB).2.2 (results_tmp rfl _ _ _) ?_
    have hE : Ext w W := (unhide HW).1.trans' (unhide HB).2.1 (fun _ _ h => h) (fun i hi e => by omega)
    exact ⟨A, c, rfl, ownsRow_base (ownsRow_putObj (unhide HB).1 _ (unhide HB).2.2 rfl) (by omega), unhide H16, putObj_ext _ hE (by omega), Nat.le_refl _, by have := (putObj_ext (D := D) (.deferred none) hE (by omega)).size'; exact this⟩
end Go.Proofs.YtihghljfmlbfhaaDoor


namespace Go.Proofs.YtihghljfmlbfhaaDoor
open Go.RowKit
structure GI (w0 : World) (B : Nat) (v : Value) (n : Nat) (l : List Value) (wr : World) : Prop where
  own : wr.ownsRow B 3 1 v n l
  ext : Ext w0 wr
  base : w0.heap.size ≤ B
  room : B ≤ wr.heap.size
theorem GI.nil {w0 wr : World} {B : Nat} (hE : Ext w0 wr) (hB : w0.heap.size ≤ B) (hR : B ≤ wr.heap.size) : GI w0 B (.slice none 0 0) 0 [] wr := ⟨World.ownsRow_nil _ _ _ _, hE, hB, hR⟩
theorem GI.to {w0 wr w1 : World} {B n : Nat} {v : Value} {l : List Value} (h : GI w0 B v n l wr) (hE : Ext wr w1) : GI w0 B v n l w1 := ⟨ownsRow_ext h.own hE, h.ext.trans hE, h.base, Nat.le_trans h.room hE.size'⟩
theorem GI.step {w0 wr w1 w2 : World} {B n n' : Nat} {v v' : Value} {l l' : List Value} (h : GI w0 B v n l wr) (hE : Ext wr w1) (hc : Chg (fun k => v.ownBlock = some k) w1 w2) (ho : w2.ownsRow B 3 1 v' n' l') : GI w0 B v' n' l' w2 :=
  ⟨ho, (h.ext.trans hE).trans' hc (fun _ _ h => h) (fun i hi e => by have := (h.own.lt i e).1; have := h.base; omega), h.base, Nat.le_trans h.room (Nat.le_trans hE.size' hc.size)⟩
theorem GI.blk {w0 wr w1 w2 : World} {B n : Nat} {v : Value} {l : List Value} (h : GI w0 B v n l wr) (hE : Ext wr w1) (hc : Chg (fun k => v.ownBlock = some k) w1 w2) {g : Nat} {t : TypeId} {cs : Array Value} (hb : Blk wr g t cs) (hg : g < B) : Blk w2 g t cs :=
  (hb.ext hE).chg hc (fun e => by have := (h.own.lt g e).1; omega)
theorem GI.reads {w0 wr : World} {B n : Nat} {v : Value} {l : List Value} (h : GI w0 B v n l wr) : Reads wr 1 v n l := Reads.of_own h.own
end Go.Proofs.YtihghljfmlbfhaaDoor


namespace Go.Proofs.YtihghljfmlbfhaaDoor
open Go.RowKit
def S2 (w : World) (v : Array Value) (W : World) : Prop := Ext w W ∧ Blk W w.heap.size 23 v ∧ ∃ cs : Array Value, cs.size = 16 ∧ Blk W (w.heap.size + 1) 23 cs
theorem S2.ext {w : World} {v : Array Value} {W W' : World} (h : S2 w v W) (hE : Ext W W') : S2 w v W' := ⟨h.1.trans hE, h.2.1.ext hE, h.2.2.imp fun _ k => ⟨k.1, k.2.ext hE⟩⟩
theorem S2.new (w : World) (v : Array Value) : S2 w v ((w.alloc (.cells v 23)).alloc (.cells (Array.replicate 16 (.int .u8 0)) 23)) := ⟨((Ext.refl w).alloc _).alloc _, (Blk.new w _ _).alloc _, _, rfl, Blk.new' _ _ _ (by simp)⟩
theorem S2.store {w : World} {v cs : Array Value} {W W' : World} (h : S2 w v W) (hb : Blk W' (w.heap.size + 1) 23 cs) (hc : Chg (fun k => k = w.heap.size + 1) W W') (hs : cs.size = 16) : S2 w v W' :=
  ⟨h.1.trans' hc (fun _ _ h => h) (fun i hi e => by omega), h.2.1.chg hc (by omega), _, hs, hb⟩
end Go.Proofs.YtihghljfmlbfhaaDoor


namespace Go.Proofs.YtihghljfmlbfhaaDoor
open Go.RowKit
theorem pow_le16 (j h : Nat) (hj : j ≤ h) (hh : h ≤ 4) : 2 ^ j ≤ 16 := Nat.le_trans (Nat.pow_le_pow_right (by omega) (Nat.le_trans hj hh)) (by omega)
set_option maxRecDepth 100000 in
set_option maxHeartbeats 4000000 in
theorem troot_no (seed : List UInt8) (h : Int) (w : World) (hh : ¬ okH h) :
    Calls Tryd.prog 6 #[.agg (seed.map u8v).toArray, .int .i64 h] w fun e w' => e = .returned (.tuple #[.agg (z16.map u8v).toArray, .int .i64 1]) ∧ Ext w w' := by
  have HV := hide (fun W => valid_no h W hh)
  obtain ⟨arr, harr⟩ : ∃ x, (seed.map u8v).toArray = x := ⟨_, rfl⟩
  rw [harr]
  clear hh harr
  go_enter Tryd.func6, Tryd.ntmps6
  go_wp2_with (go_at_call 11; refine (unhide HV _).mono ?_; rintro e wz ⟨rfl, rfl⟩)
  refine bodyPost_ret (v := .tuple #[.agg (z16.map u8v).toArray, .int .i64 1]) (results_two digest_wide rfl (Blk.new' _ _ _ (by simp)) rfl rfl rfl) rfl ⟨rfl, ?_⟩
  exact ((Ext.refl w).alloc _).alloc _
theorem okH_nat (h : Nat) (hh : h ≤ 4) : okH (h : Int) := ⟨by omega, by omega⟩
set_option maxRecDepth 100000 in
set_option maxHeartbeats 4000000 in
theorem troot_yes (seed : List UInt8) (h n : Nat) (hn : n = 2 ^ h) (hh : h ≤ 4) (w : World) (hv : seed.length = 16) (hM : ShaMem w) :
    Calls Tryd.prog 6 #[.agg (seed.map u8v).toArray, .int .i64 (h : Int)] w fun e w' => e = .returned (.tuple #[.agg ((rootS (leavesS seed n)).map u8v).toArray, .int .i64 0]) ∧ Ext w w' := by
  have hn16 : n ≤ 16 := by subst hn; exact pow_le16 h h (Nat.le_refl _) hh
  have hn1 : 1 ≤ n := by subst hn; exact Nat.one_le_two_pow
  have HV := hide (fun W => (fun W => valid_yes (h : Int) W (okH_nat h hh)) W)
  have HK := hide (fun W (hE : Ext w W) => leaves_any seed h n hn hh W hv (hM.ext hE))
  have HG := hide (fun (A : Option Addr) (c : Nat) W (hE : Ext w W) (hD : Digs W (.slice A n c) (leavesS seed n)) => root_any n (leavesS seed n) (.slice A n c) W (hM.ext hE) (by rw [leavesS_length]; omega) (by rw [leavesS_length]; omega) hD)
  have HL := hide (rootS_length (leavesS seed n))
  obtain ⟨res, hres⟩ : ∃ x, rootS (leavesS seed n) = x := ⟨_, rfl⟩
  rw [hres] at HG HL ⊢
  obtain ⟨arr, harr⟩ : ∃ x, (seed.map u8v).toArray = x := ⟨_, rfl⟩
  have HSZ := hide (show arr.size = 16 from by rw [← harr]; simpa using hv)
  rw [harr] at HK ⊢
  have hnI : ¬ (n : Int) = 0 := by omega
  clear hn hh harr hv hres hM
  go_enter Tryd.func6, Tryd.ntmps6
  go_wp2_with (first
    | (go_at_call 11; refine (unhide HV _).mono ?_; rintro e wz ⟨rfl, rfl⟩)
    | (refine wpList_loadB (ty := 23) (t := 23) (x := .tmp 2) rfl rfl digest_wide rfl (cs := arr) ((Blk.new w _ _).alloc _) (unhide HSZ) ?_)
    | (go_at_call 13; refine (unhide HK _ (((Ext.refl w).alloc _).alloc _)).mono ?_; rintro e w1 ⟨A1, c1, rfl, hG⟩; have H1 := hide (And.intro hG.digs (And.intro ((((Ext.refl w).alloc _).alloc _).trans hG.ext) ((Blk.new' (w.alloc (.cells arr 23)) 23 (Array.replicate 16 (.int .u8 0)) (g := w.heap.size + 1) (by simp)).ext hG.ext))); clear hG)
    | (go_at_call 12; refine (unhide HG A1 c1 _ (unhide H1).2.1 (unhide H1).1).mono ?_; rintro e w2 ⟨rfl, hE2⟩; have H2 := hide (And.intro ((unhide H1).2.1.trans hE2) ((unhide H1).2.2.ext hE2)); clear hE2)
    | (refine wpList_storeB (ty := 23) (t := 23) (x := .tmp 4) (y := .tmp 13) rfl rfl digest_wide rfl rfl (unhide H2).2 rfl (by simpa using unhide HL) (bytes_one _) ?_; intro w7 hb7 hc7 hz7; have H7 := hide (And.intro hb7 hc7); clear hb7 hc7 hz7))
  refine bodyPost_ret (v := .tuple #[.agg (res.map u8v).toArray, .int .i64 0]) (results_two digest_wide rfl (unhide H7).1 (by simpa using unhide HL) rfl rfl) rfl ⟨rfl, ?_⟩
  exact (unhide H2).1.trans' (unhide H7).2 (fun _ _ h => h) (fun i hi e => by omega)
end Go.Proofs.YtihghljfmlbfhaaDoor


namespace Go.Proofs.YtihghljfmlbfhaaDoor
open Go.RowKit
end Go.Proofs.YtihghljfmlbfhaaDoor


namespace Go.Proofs.YtihghljfmlbfhaaDoor
open Go.RowKit
def S3 (w : World) (v : Array Value) (dv : Value) (m : List UInt8) (W : World) : Prop := Ext w W ∧ Blk W w.heap.size 23 v ∧ Reads W 1 dv 68 (icells (digC m) 68)
theorem S3.ext {w : World} {v : Array Value} {dv : Value} {m : List UInt8} {W W' : World} (h : S3 w v dv m W) (hE : Ext W W') : S3 w v dv m W' := ⟨h.1.trans hE, h.2.1.ext hE, h.2.2.ext hE⟩
theorem S3.chg {w : World} {v : Array Value} {dv : Value} {m : List UInt8} {W W' : World} {S : Nat → Prop} {B : Nat} (h : S3 w v dv m W) (hc : Chg S W W') (hS : ∀ k, S k → B ≤ k) (hB : w.heap.size < B) (hd : ∀ k, dv.ownBlock = some k → k < B) : S3 w v dv m W' :=
  ⟨h.1.trans' hc (fun _ _ h => h.elim) (fun i hi e => by have := hS i e; omega), h.2.1.chg hc (fun e => by have := hS _ e; omega), h.2.2.chg hc (fun k _ hk e => by have := hS k e; have := hd k hk; omega)⟩
end Go.Proofs.YtihghljfmlbfhaaDoor


namespace Go.Proofs.YtihghljfmlbfhaaDoor
open Go.RowKit
theorem sig_wide : Wide Tryd.prog 45 3 := ⟨⟨_, Tryd.underlying45, rfl⟩, by kernel_rfl⟩
def SigR (w : World) (v : Value) (index : Int) (chain path : List (List UInt8)) : Prop := ∃ cv pv, v = .agg #[.int .i64 index, cv, pv] ∧ Digs w cv chain ∧ Digs w pv path
theorem SigR.ext {w w' : World} {v : Value} {index : Int} {chain path : List (List UInt8)} (h : SigR w v index chain path) (hE : Ext w w') : SigR w' v index chain path := by
  obtain ⟨cv, pv, h1, h2, h3⟩ := h
  exact ⟨cv, pv, h1, h2.ext hE, h3.ext hE⟩
def NewSig (B : Nat) (v : Value) : Prop := ∃ i cv pv, v = .agg #[i, cv, pv] ∧ (∀ k, cv.ownBlock = some k → B ≤ k) ∧ (∀ k, pv.ownBlock = some k → B ≤ k)
def SignPost (w : World) (index : Int) (chain path : List (List UInt8)) (e : Ending) (w' : World) : Prop := ∃ v, e = .returned (.tuple #[v, .int .i64 0]) ∧ SigR w' v index chain path ∧ Ext w w' ∧ NewSig w.heap.size v
theorem okH_cases (h : Int) (ho : okH h) : ∃ k : Nat, h = (k : Int) ∧ k ≤ 4 := ⟨h.toNat, by obtain ⟨h1, h2⟩ := ho; omega, by obtain ⟨h1, h2⟩ := ho; omega⟩
theorem valid_ok (h : Int) (ho : okH h) (w : World) : Calls Tryd.prog 11 #[.int .i64 h] w fun e w' => e = .returned (.bool true) ∧ w = w' := valid_yes h w ho
end Go.Proofs.YtihghljfmlbfhaaDoor


namespace Go.Proofs.YtihghljfmlbfhaaDoor
open Go.RowKit
end Go.Proofs.YtihghljfmlbfhaaDoor
