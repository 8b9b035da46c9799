/-
  Several texts in one file: each has its own heading below.
-/
import Derived.Test.YtplkplegjoabgaaGreatDoorQzI
import Derived.Deep.RegionHeld3
import Derived.Test.YtplkplegjoabgaaGreatDoorQzH
import Derived.Test.YtplkplegjoabgaaGreatDoorQzG

/-
  The reference of one-time signatures: Step, Advance, Start, Public.
-/
namespace Go.Proofs.YtplkplegjoabgaaGreatDoor
open Go.RowKit

/-- What a region keeps: the argument's block, and a block for the result. -/
def S2 (w : World) (v : Array Value) (W : World) : Prop := Ext w W ∧ Blk W w.heap.size 23 v ∧ ∃ cs : Array Value, cs.size = 16 ∧ Blk W (w.heap.size + 1) 23 cs
theorem S2.ext {w : World} {v : Array Value} {W W' : World} (h : S2 w v W) (hE : Ext W W') : S2 w v W' := ⟨h.1.trans hE, h.2.1.ext hE, h.2.2.imp fun _ k => ⟨k.1, k.2.ext hE⟩⟩
theorem S2.new (w : World) (v : Array Value) : S2 w v ((w.alloc (.cells v 23)).alloc (.cells (Array.replicate 16 (.int .u8 0)) 23)) := ⟨((Ext.refl w).alloc _).alloc _, (Blk.new w _ _).alloc _, _, rfl, Blk.new' _ _ _ (by simp)⟩
theorem S2.store {w : World} {v cs : Array Value} {W W' : World} (h : S2 w v W) (hb : Blk W' (w.heap.size + 1) 23 cs) (hc : Chg (fun k => k = w.heap.size + 1) W W') (hs : cs.size = 16) : S2 w v W' :=
  ⟨h.1.trans' hc (fun _ _ h => h) (fun i hi e => by omega), h.2.1.chg hc (by omega), _, hs, hb⟩

set_option maxRecDepth 100000 in
set_option maxHeartbeats 4000000 in
theorem rstep_any (k : Nat) (v : List UInt8) (w : World) (hv : v.length = 16) (hk : k < 1000) :
    Calls Tryz.prog 115 #[.int .i64 (k : Int), .agg (v.map u8v).toArray] w fun e w' => e = .returned (.agg ((stepS k v).map u8v).toArray) ∧ Ext w w' := by
  have HW := hide (fun w => rint_any (k : Int) w (by omega) (by omega))
  have HRw := hide (fun w => rraw_any v w hv)
  have HD := hide (fun (W : World) (A A' : Option Addr) (c c' : Nat) (pv : Value) (h1 : Reads W 1 pv 2 [.slice A (wInt k).length c, .slice A' v.length c']) (h2 : Reads W 1 (.slice A (wInt k).length c) (wInt k).length ((wInt k).map u8v)) (h3 : Reads W 1 (.slice A' v.length c') v.length (v.map u8v)) =>
    rdigest_any 3 [wInt k, v] pv W (Parts.two h1 h2 h3) (by simp) (fun p hp => by have := wInt_length (k : Int); simp at hp; rcases hp with rfl | rfl <;> omega))
  obtain ⟨arr, harr⟩ : ∃ r, (v.map u8v).toArray = r := ⟨_, rfl⟩
  rw [harr] at HRw ⊢
  have hasz : arr.size = 16 := by rw [← harr]; simpa using hv
  obtain ⟨res, hres⟩ : ∃ r, stepS k v = r := ⟨_, rfl⟩
  have HR := hide (And.intro hres (show res.length = 16 from by rw [← hres]; exact digestS_length _ _))
  rw [hres]
  clear harr hres hv
  have HZ := hide (S2.new w arr)
  go_enter Tryz.func115, Tryz.ntmps115
  go_upto_region 1 with fail
  refine wp_region_held_drew (S := S2 w arr) (by kernel_rfl) ((unhide HZ).ext ((Ext.refl _).drew)) (fun hHeld => ?_)
  refine wpAnyH_take (i := 0) (oi := _) (v := ?_) rfl (by kernel_rfl) (by kernel_rfl) (by kernel_rfl) (fun _ _ _ h => h) (Or.inl ⟨by rfl, fun wz hSz => ?_⟩) (by assumption) ?_
  rotate_left
  · (first | (go_simp; done) | (go_simp; with_reducible rfl))
  try simp only [Act.put, List.setIfInBounds_toArray, List.set_cons_zero, List.set_cons_succ, List.getElem_toArray, List.getElem_cons_zero]
  refine wpAnyH_take (i := 2) (oi := _) (v := _) rfl (by kernel_rfl) (by kernel_rfl) (by kernel_rfl) (fun _ _ _ h => h) (ylb digest_wide rfl (by rfl) rfl hasz (fun w' hw => hw.2.1)) (by assumption) ?_
  try simp only [Act.put, List.setIfInBounds_toArray, List.set_cons_zero, List.set_cons_succ, List.getElem_toArray, List.getElem_cons_succ, List.getElem_cons_zero]
  refine wpAnyH_ready (rs := [1]) (by kernel_rfl) (by simp) (AllReadyH.cons (o := _) rfl (fun K hK => ?_) AllReadyH.nil)
  try go_simp
  (refine (unhide HW _).mono ?_; rintro e w3 ⟨A3, c3, rfl, ho3, hE3⟩; have hS := hHeld.ext hE3; have H3 := hide (Reads.of_own ho3); clear hHeld hE3 ho3)
  refine hK.out _ _ ?_ (fun hHeld => ?_)
  · exact hS
  clear hK K
  try simp only [Act.put, List.setIfInBounds_toArray, List.set_cons_zero, List.set_cons_succ, List.getElem_toArray, List.getElem_cons_succ, List.getElem_cons_zero]
  refine wpAnyH_ready (rs := [3]) (by kernel_rfl) (by simp) (AllReadyH.cons (o := _) rfl (fun K hK => ?_) AllReadyH.nil)
  try go_simp
  (refine (unhide HRw _).mono ?_; rintro e w4 ⟨A4, c4, rfl, ho4, hE4⟩; have hS := hHeld.ext hE4; have H4 := hide (And.intro ((unhide H3).ext hE4) ho4); clear hHeld hE4 ho4 H3)
  refine hK.out _ _ ?_ (fun hHeld => ?_)
  · exact hS
  clear hK K
  try simp only [Act.put, List.setIfInBounds_toArray, List.set_cons_zero, List.set_cons_succ, List.getElem_toArray, List.getElem_cons_succ, List.getElem_cons_zero]
  refine wpAnyH_ready (rs := [4]) (by kernel_rfl) (by simp) (AllReadyH.cons (o := _) rfl (fun K hK => ?_) AllReadyH.nil)
  try go_simp
  (have hS := hHeld.ext ((Ext.refl w4).alloc (.cells #[.slice A3 (wInt k).length c3, .slice A4 v.length c4] 40)); clear hHeld)
  refine hK.out _ _ ?_ (fun hHeld => ?_)
  · exact hS
  clear hK K
  try simp only [Act.put, List.setIfInBounds_toArray, List.set_cons_zero, List.set_cons_succ, List.getElem_toArray, List.getElem_cons_succ, List.getElem_cons_zero]
  refine wpAnyH_ready (rs := [5]) (by kernel_rfl) (by simp) (AllReadyH.cons (o := _) rfl (fun K hK => ?_) AllReadyH.nil)
  try go_simp
  (refine (unhide HD _ A3 A4 c3 c4 _ (Reads.new2 _ _ _ _ rfl) ((unhide H4).1.ext ((Ext.refl _).alloc _)) ((unhide H4).2.ext ((Ext.refl _).alloc _))).mono ?_; rintro e w5 ⟨rfl, hE5⟩; rw [show digestS 3 [wInt k, v] = res from (unhide HR).1]; have hS := hHeld.ext hE5; clear hHeld hE5)
  refine hK.out _ _ ?_ (fun hHeld => ?_)
  · exact hS
  clear hK K
  try simp only [Act.put, List.setIfInBounds_toArray, List.set_cons_zero, List.set_cons_succ, List.getElem_toArray, List.getElem_cons_succ, List.getElem_cons_zero]
  obtain ⟨cs, hcs, hBk⟩ := hHeld.2.2
  refine wpAnyH_ready (rs := [6]) (by kernel_rfl) (by simp) (AllReadyH.cons (o := _) rfl (fun K hK => ?_) AllReadyH.nil)
  (refine step_storeB (ty := 23) (t := 23) (x := .tmp 4) (y := .tmp 10) rfl rfl digest_wide rfl rfl hBk hcs (by simpa using (unhide HR).2) (bytes_one _) ?_; intro w7 hb7 hc7 hz7; have hS := hHeld.store hb7 hc7 (by simpa using (unhide HR).2); have H7 := hide hb7; clear hb7 hc7 hz7 hHeld)
  refine hK.out _ _ ?_ (fun hHeld => ?_)
  · exact hS
  clear hK K
  try simp only [Act.put, List.getElem_toArray, List.getElem_cons_succ, List.getElem_cons_zero]
  refine wpAnyH_done (by kernel_rfl) ?_ _
  have H8 := hide hHeld.1
  go_wp2
  refine bodyPost_ret (v := .agg (res.map u8v).toArray) (results_blk digest_wide rfl (unhide H7) (by simpa using (unhide HR).2) rfl) rfl ⟨rfl, unhide H8⟩

set_option maxRecDepth 100000 in
set_option maxHeartbeats 4000000 in
theorem radv_any (k n : Nat) (v : List UInt8) (w : World) (hv : v.length = 16) (hk : k < 1000) (hn : n < 1000) :
    Calls Tryz.prog 83 #[.int .i64 (k : Int), .agg (v.map u8v).toArray, .int .i64 (n : Int)] w fun e w' => e = .returned (.agg ((advS k v n).map u8v).toArray) ∧ Ext w w' := by
  have HD := hide (fun (j : Nat) (W : World) => rstep_any k (advS k v j) W (advS_length k v hv j) hk)
  have HL := hide (advS_length k v hv)
  have HS := hide (fun j => show stepS k (advS k v j) = advS k v (j + 1) from rfl)
  obtain ⟨F, hF⟩ : ∃ F, advS k v = F := ⟨_, rfl⟩
  rw [hF] at HD HL HS ⊢
  have h0 : F 0 = v := by rw [← hF]; rfl
  go_enter Tryz.func83, Tryz.ntmps83
  go_wp2_with fail
  go_loopw [7] (fun i wr => ∃ j : Nat, j ≤ n ∧ i = .int .i64 j ∧ Hid (Blk wr w.heap.size 23 ((F j).map u8v).toArray ∧ Blk wr (w.heap.size + 1) 23 (Array.replicate 16 (.int .u8 0)) ∧ Ext w wr)) (fun i _ => n - (intOf i).toNat)
  case atStart => exact ⟨0, by omega, rfl, hide ⟨by rw [h0]; exact (Blk.new w _ _).alloc _, Blk.new' _ _ _ (by simp), ((Ext.refl w).alloc _).alloc _⟩⟩
  case round =>
    obtain ⟨j, hj, rfl, HI⟩ := hrel
    by_cases hlt : j < n
    · have HJ := hide (unhide HS j)
      have HL1 := hide (unhide HL (j + 1))
      have HLj := hide (unhide HL j)
      have HDj := hide (unhide HD j)
      rw [unhide HJ] at HDj
      go_wp2_with (first
        | (refine wpList_loadB (ty := 23) (t := 23) (x := .tmp 4) rfl rfl digest_wide rfl (unhide HI).1 (by simpa using unhide HLj) ?_)
        | (go_at_call 115; refine (unhide HDj _).mono ?_; rintro e w5 ⟨rfl, hE5⟩; have H5 := hide hE5; clear hE5)
        | (refine wpList_storeB (ty := 23) (t := 23) (x := .tmp 4) (y := .tmp 15) rfl rfl digest_wide rfl rfl ((unhide HI).1.ext (unhide H5)) (by simpa using unhide HLj) (by simpa using unhide HL1) (bytes_one _) ?_; intro w6 hb6 hc6 hz6; have H6 := hide (And.intro hb6 hc6); clear hb6 hc6 hz6))
      go_roundw
      case rel => exact ⟨j + 1, by omega, by go_num, hide ⟨(unhide H6).1, ((unhide HI).2.1.ext (unhide H5)).chg (unhide H6).2 (by omega), ((unhide HI).2.2.trans (unhide H5)).trans' (unhide H6).2 (fun _ _ h => h) (fun i hi e => by omega)⟩⟩
      case measure => simp [intOf]; omega
    · obtain rfl : j = n := by omega
      go_wp2_with (first
        | (refine wpList_loadB (ty := 23) (t := 23) (x := .tmp 4) rfl rfl digest_wide rfl (unhide HI).1 (by simpa using unhide HL j) ?_)
        | (refine wpList_storeB (ty := 23) (t := 23) (x := .tmp 6) (y := .tmp 16) rfl rfl digest_wide rfl rfl (unhide HI).2.1 rfl (by simpa using unhide HL j) (bytes_one _) ?_; intro w7 hb7 hc7 hz7; have H7 := hide (And.intro hb7 hc7); clear hb7 hc7 hz7))
      refine bodyPost_ret (v := .agg ((F j).map u8v).toArray) (results_blk digest_wide rfl (unhide H7).1 (by simpa using unhide HL j) rfl) rfl ⟨rfl, ?_⟩
      exact (unhide HI).2.2.trans' (unhide H7).2 (fun _ _ h => h) (fun i hi e => by omega)

set_option maxRecDepth 100000 in
set_option maxHeartbeats 4000000 in
theorem rstart_any (k : Nat) (seed : List UInt8) (index : Int) (w : World) (hv : seed.length = 16) (hk : k < 1000) (h1 : -9223372036854775808 ≤ index) (h2 : index < 9223372036854775808) :
    Calls Tryz.prog 86 #[.agg (seed.map u8v).toArray, .int .i64 index, .int .i64 (k : Int)] w fun e w' => e = .returned (.agg ((startS seed index k).map u8v).toArray) ∧ Ext w w' := by
  have HW := hide (fun w => rint_any index w h1 h2)
  have HW2 := hide (fun w => rint_any (k : Int) w (by omega) (by omega))
  have HRw := hide (fun w => rraw_any seed w hv)
  have HD := hide (fun (W : World) (A A' A0 : Option Addr) (c c' c0 : Nat) (pv : Value) (h1 : Reads W 1 pv 2 [.slice A (wInt index).length c, .slice A' (wInt k).length c']) (h2 : Reads W 1 (.slice A (wInt index).length c) (wInt index).length ((wInt index).map u8v)) (h2' : Reads W 1 (.slice A' (wInt k).length c') (wInt k).length ((wInt k).map u8v)) (h3 : Reads W 1 (.slice A0 seed.length c0) seed.length (seed.map u8v)) =>
    rderive_any seed (.slice A0 seed.length c0) ⟨#[119, 111, 116, 115]⟩ [wInt index, wInt k] pv W h3 (by omega) (by decide) (Parts.two h1 h2 h2') (by simp) (fun p hp => by have := wInt_length (k : Int); have := wInt_length index; simp at hp; rcases hp with rfl | rfl <;> omega))
  obtain ⟨arr, harr⟩ : ∃ r, (seed.map u8v).toArray = r := ⟨_, rfl⟩
  rw [harr] at HRw ⊢
  have hasz : arr.size = 16 := by rw [← harr]; simpa using hv
  obtain ⟨res, hres⟩ : ∃ r, startS seed index k = r := ⟨_, rfl⟩
  have HR := hide (And.intro hres (show res.length = 16 from by rw [← hres]; exact startS_length _ _ _))
  rw [hres]
  clear harr hres h1 h2 hv
  have HT := hide True.intro
  have HZ := hide (S2.new w arr)
  go_enter Tryz.func86, Tryz.ntmps86
  go_wp2_with (first
    | (refine wpList_loadB (ty := 23) (t := 23) (x := .tmp 3) rfl rfl digest_wide rfl (unhide HZ).2.1 hasz ?_)
    | (go_at_call 82; refine (unhide HRw _).mono ?_; rintro e w0 ⟨A0, c0, rfl, ho0, hE0⟩; have H0 := hide (And.intro ho0 ((unhide HZ).ext hE0)); clear ho0 hE0)
    | (clear HT; go_at_call 117; refine (unhide HW _).mono ?_; rintro e w3 ⟨A3, c3, rfl, ho3, hE3⟩; have H3 := hide (And.intro ((unhide H0).1.ext hE3) (And.intro (Reads.of_own ho3) ((unhide H0).2.ext hE3))); clear ho3 hE3)
    | (go_at_call 117; refine (unhide HW2 _).mono ?_; rintro e w4 ⟨A4, c4, rfl, ho4, hE4⟩; have H4 := hide (And.intro ((unhide H3).1.ext hE4) (And.intro ((unhide H3).2.1.ext hE4) (And.intro (Reads.of_own ho4) ((unhide H3).2.2.ext hE4)))); clear ho4 hE4)
    | (go_at_call 116; refine (unhide HD _ A3 A4 A0 c3 c4 c0 _ (Reads.new2 _ _ _ _ rfl) ((unhide H4).2.1.ext ((Ext.refl _).alloc _)) ((unhide H4).2.2.1.ext ((Ext.refl _).alloc _)) ((unhide H4).1.ext ((Ext.refl _).alloc _))).mono ?_; rintro e w5 ⟨rfl, hE5⟩; rw [show deriveS seed (⟨#[119, 111, 116, 115]⟩ : ByteArray).data.toList [wInt index, wInt k] = res from (unhide HR).1]; have H5 := hide ((unhide H4).2.2.2.ext (((Ext.refl w4).alloc _).trans hE5)); clear hE5
       obtain ⟨cs, hcs, hBk⟩ := (unhide H5).2.2
       have HBk := hide (And.intro hcs hBk)
       clear hcs hBk)
    | (refine wpList_storeB (ty := 23) (t := 23) (x := .tmp 6) (y := .tmp 14) rfl rfl digest_wide rfl rfl (unhide HBk).2 (unhide HBk).1 (by simpa using (unhide HR).2) (bytes_one _) ?_; intro w6 hb6 hc6 hz6; have H6 := hide (And.intro hb6 hc6); clear hb6 hc6 hz6))
  refine bodyPost_ret (v := .agg (res.map u8v).toArray) (results_blk digest_wide rfl (unhide H6).1 (by simpa using (unhide HR).2) rfl) rfl ⟨rfl, ?_⟩
  exact (unhide H5).1.trans' (unhide H6).2 (fun _ _ h => h) (fun i hi e => by omega)

set_option maxRecDepth 100000 in
set_option maxHeartbeats 4000000 in
theorem rpublic_any (seed : List UInt8) (index : Int) (w : World) (hv : seed.length = 16) (h1 : -9223372036854775808 ≤ index) (h2 : index < 9223372036854775808) :
    Calls Tryz.prog 76 #[.agg (seed.map u8v).toArray, .int .i64 index] w fun e w' => e = .returned (.agg ((publicS seed index).map u8v).toArray) ∧ Ext w w' := by
  have HS := hide (fun k (hk : k < 68) (W : World) => rstart_any k seed index W hv (by omega) h1 h2)
  have HA := hide (fun k (hk : k < 68) (W : World) => radv_any k 3 (startS seed index k) W (startS_length _ _ _) (by omega) (by omega))
  have HW := hide (fun k (W : World) => rraw_any (advS k (startS seed index k) 3) W (advS_length k _ (startS_length _ _ _) 3))
  have HL := hide (fun k => advS_length k _ (startS_length seed index k) 3)
  have HE := hide (endsS_step (fun k => advS k (startS seed index k) 3))
  have HEL := hide (endsS_length (fun k => advS k (startS seed index k) 3) (unhide HL) 68)
  have HP := hide (show digestS 4 [endsS (fun k => advS k (startS seed index k) 3) 68] = publicS seed index ∧ (publicS seed index).length = 16 from ⟨rfl, digestS_length _ _⟩)
  obtain ⟨F, hF⟩ : ∃ F, endsS (fun k => advS k (startS seed index k) 3) = F := ⟨_, rfl⟩
  have hF0 : F 0 = [] := by rw [← hF]; rfl
  rw [hF] at HE HEL HP
  obtain ⟨arr, harr⟩ : ∃ r, (seed.map u8v).toArray = r := ⟨_, rfl⟩
  rw [harr] at HS ⊢
  have hasz : arr.size = 16 := by rw [← harr]; simpa using hv
  obtain ⟨res, hres⟩ : ∃ r, publicS seed index = r := ⟨_, rfl⟩
  rw [hres] at HP ⊢
  have HD := hide (fun (W : World) (A : Option Addr) (c : Nat) (pv : Value) (h1 : Reads W 1 pv 1 [.slice A (F 68).length c]) (h2 : Reads W 1 (.slice A (F 68).length c) (F 68).length ((F 68).map u8v)) =>
    rdigest_any 4 [F 68] pv W (Parts.one h1 h2) (by simp) (fun p hp => by have := unhide HEL; simp at hp; subst hp; omega))
  clear harr hres hF hv h1 h2
  have HZ := hide (S2.new w arr)
  go_enter Tryz.func76, Tryz.ntmps76
  go_wp2_with fail
  go_loopw [5, 6] (fun b i wr => ∃ (k : Nat) (A : Option Addr) (c : Nat), k ≤ 68 ∧ i = .int .i64 k ∧ b = .slice A (16 * k) c ∧ Hid (GB w (w.heap.size + 2) b (16 * k) (F k) wr ∧ Blk wr w.heap.size 23 arr ∧ Blk wr (w.heap.size + 1) 23 (Array.replicate 16 (.int .u8 0)))) (fun _ i _ => 68 - (intOf i).toNat)
  case atStart => exact ⟨0, none, 0, by omega, rfl, rfl, hide ⟨by rw [hF0]; exact GB.nil (unhide HZ).1 (by omega) (by simp), (unhide HZ).2.1, Blk.new' _ _ _ (by simp)⟩⟩
  case round =>
    clear HZ
    obtain ⟨k, A, c, hk, rfl, rfl, HI⟩ := hrel
    by_cases hlt : k < 68
    · have HSk := hide (unhide HS k hlt)
      have HAk := hide (unhide HA k hlt)
      have HWk := hide (unhide HW k)
      have HLk := hide (unhide HL k)
      have HEk := hide (unhide HE k)
      generalize hd : advS k (startS seed index k) 3 = d at *
      generalize hst : ((startS seed index k).map u8v).toArray = st at *
      have hkI : (k : Int) < 68 := by omega
      clear hd hst
      go_wp2_with (first
        | (refine wpList_loadB (ty := 23) (t := 23) (x := .tmp 2) rfl rfl digest_wide rfl (unhide HI).2.1 hasz ?_)
        | (go_at_call 86; refine (unhide HSk _).mono ?_; rintro e w2 ⟨rfl, hE2⟩; have H2 := hide hE2; clear hE2)
        | (go_at_call 83; refine (unhide HAk _).mono ?_; rintro e w3 ⟨rfl, hE3⟩; have H3 := hide ((unhide H2).trans hE3); clear hE3)
        | (go_at_call 82; refine (unhide HWk _).mono ?_; rintro e w4 ⟨A4, c4, rfl, ho4, hE4⟩; have H4 := hide (And.intro ho4 ((unhide H3).trans hE4)); clear hE4 ho4)
        | (at_builtin; refine wpList_app rfl rfl u8_row rfl ((unhide HI).1.to (unhide H4).2).own rfl (unhide H4).1 (AllOne.u8 d) (by have := unhide HLk; omega) ((unhide HI).1.to (unhide H4).2).room ?_; intro A' c' w5 ho hc hv; have H5 := hide (And.intro ho hc); clear ho hc hv))
      go_roundw
      case rel =>
        have e16 : 16 * k + d.length = 16 * (k + 1) := by have := unhide HLk; omega
        refine ⟨k + 1, A', c', by omega, by go_num, by rw [e16], hide ⟨?_, (unhide HI).1.blk (unhide H4).2 (unhide H5).2 (unhide HI).2.1 (by omega), (unhide HI).1.blk (unhide H4).2 (unhide H5).2 (unhide HI).2.2 (by omega)⟩⟩
        have h5 := (unhide H5).1
        rw [← List.map_append] at h5
        rw [unhide HEk, ← e16]
        exact (unhide HI).1.step (unhide H4).2 (unhide H5).2 h5
      case measure => simp [intOf]; omega
    · obtain rfl : k = 68 := by omega
      have HX := hide (show GB w (w.heap.size + 2) (.slice A (F 68).length c) (F 68).length (F 68) wr from by rw [unhide HEL]; exact (unhide HI).1)
      have HZ2 := hide (unhide HI).2.2
      have e68 : 16 * 68 = (F 68).length := (unhide HEL).symm
      rw [e68]
      clear HI e68
      go_wp2_with (first
        | (go_at_call 72; refine (unhide HD _ A c _ (Reads.new1 _ _ _) ((unhide HX).reads.ext ((Ext.refl _).alloc _))).mono ?_; rintro e w5 ⟨rfl, hE5⟩; rw [(unhide HP).1]; have H5 := hide (((Ext.refl wr).alloc _).trans hE5); clear hE5)
        | (refine wpList_storeB (ty := 23) (t := 23) (x := .tmp 4) (y := .tmp 22) rfl rfl digest_wide rfl rfl ((unhide HZ2).ext (unhide H5)) rfl (by simpa using (unhide HP).2) (bytes_one _) ?_; intro w7 hb7 hc7 hz7; have H7 := hide (And.intro hb7 hc7); clear hb7 hc7 hz7))
      refine bodyPost_ret (v := .agg (res.map u8v).toArray) (results_blk digest_wide rfl (unhide H7).1 (by simpa using (unhide HP).2) rfl) rfl ⟨rfl, ?_⟩
      exact ((unhide HX).ext.trans (unhide H5)).trans' (unhide H7).2 (fun _ _ h => h) (fun i hi e => by omega)

end Go.Proofs.YtplkplegjoabgaaGreatDoor

/-
  Trees of one-time keys: the keys of the reference; the roots.
-/
namespace Go.Proofs.YtplkplegjoabgaaGreatDoor
open Go.RowKit

theorem many_no (h : Int) (w : World) (hh : ¬ okH h) : Calls Tryz.prog 19 #[.int .i64 h] w fun e w' => e = .returned (.int .i64 0) ∧ w = w' := by
  unfold okH at hh
  by_cases h1 : h < 0
  · clear hh
    go_enter Tryz.func19, Tryz.ntmps19
    go_wp2
    go_ret
    exact ⟨rfl, rfl⟩
  · have h2 : 4 < h := by omega
    clear hh
    go_enter Tryz.func19, Tryz.ntmps19
    go_wp2
    go_ret
    exact ⟨rfl, rfl⟩
theorem pow_le16 (j h : Nat) (hj : j ≤ h) (hh : h ≤ 4) : 2 ^ j ≤ 16 := Nat.le_trans (Nat.pow_le_pow_right (by omega) (Nat.le_trans hj hh)) (by omega)
theorem many_yes (h n : Nat) (hn : n = 2 ^ h) (hh : h ≤ 4) (w : World) : Calls Tryz.prog 19 #[.int .i64 (h : Int)] w fun e w' => e = .returned (.int .i64 (n : Int)) ∧ w = w' := by
  have HN := hide hn
  clear hn
  go_enter Tryz.func19, Tryz.ntmps19
  go_wp2
  go_loop [3, 4] (fun x y => ∃ j q : Nat, j ≤ h ∧ q ≤ 16 ∧ x = .int .i64 q ∧ y = .int .i64 j ∧ Hid (q = 2 ^ j)) (fun _ y => h - (intOf y).toNat)
  case atStart => exact ⟨0, 1, by omega, by omega, rfl, rfl, hide rfl⟩
  case round =>
    obtain ⟨j, q, hj, hq, rfl, rfl, HQ⟩ := hrel
    by_cases hlt : j < h
    · have hltI : (j : Int) < (h : Int) := by omega
      go_wp2
      go_round
      case rel => exact ⟨j + 1, 2 * q, by omega, by have := pow_le16 (j + 1) h (by omega) hh; have := unhide HQ; rw [Nat.pow_succ] at *; omega, by go_num, by go_num, hide (by rw [unhide HQ, Nat.pow_succ]; omega)⟩
      case measure => simp [intOf]; omega
    · obtain rfl : j = h := by omega
      obtain rfl : n = q := by rw [unhide HN, unhide HQ]
      go_wp2
      go_ret
      exact ⟨rfl, rfl⟩

set_option maxRecDepth 100000 in
set_option maxHeartbeats 4000000 in
theorem rkeys_any (seed : List UInt8) (h n : Nat) (hn : n = 2 ^ h) (hh : h ≤ 4) (w : World) (hv : seed.length = 16) :
    Calls Tryz.prog 38 #[.agg (seed.map u8v).toArray, .int .i64 (h : Int)] w fun e w' => ∃ A c, e = .returned (.slice A n c) ∧ GD w w.heap.size (.slice A n c) n (leavesS seed n) w' := by
  have hn16 : n ≤ 16 := by subst hn; exact pow_le16 h h (Nat.le_refl _) hh
  have HMn := hide (fun W => many_yes h n hn hh W)
  have HPb := hide (fun k (hk : k < n) W => rpublic_any seed ((k : Nat) : Int) W hv (by omega) (by omega))
  have HPL := hide (publicS_length seed)
  have HST := hide (leavesS_step seed)
  have HS0 := hide (show leavesS seed 0 = [] from rfl)
  obtain ⟨arr, harr⟩ : ∃ x, (seed.map u8v).toArray = x := ⟨_, rfl⟩
  have HSZ := hide (show arr.size = 16 from by rw [← harr]; simpa using hv)
  rw [harr] at HPb ⊢
  clear hn hh harr hv
  go_enter Tryz.func38, Tryz.ntmps38
  go_wp2_with fail
  go_loopw [5, 6] (fun b i wr => ∃ (k : Nat) (A : Option Addr) (c : Nat), k ≤ n ∧ i = .int .i64 k ∧ b = .slice A k c ∧ Hid (GD w (w.heap.size + 1) (.slice A k c) k (leavesS seed k) wr ∧ Blk wr w.heap.size 23 arr)) (fun _ i _ => n - (intOf i).toNat)
  case atStart => exact ⟨0, none, 0, by omega, rfl, rfl, hide ⟨by rw [unhide HS0]; exact GD.nil ((Ext.refl w).alloc _) (by omega) (by simp), Blk.new w _ _⟩⟩
  case round =>
    obtain ⟨k, A, c, hk, rfl, rfl, HI⟩ := hrel
    by_cases hlt : k < n
    · have HP := hide (unhide HPb k hlt wr)
      have HL := hide (unhide HPL ((k : Nat) : Int))
      have HTk := hide (unhide HST k)
      have hltI : (k : Int) < (n : Int) := by omega
      generalize publicS seed ((k : Nat) : Int) = p at *
      go_wp2_with (first
        | (go_at_call 19; refine (unhide HMn _).mono ?_; rintro e wz ⟨rfl, rfl⟩)
        | (refine wpList_loadB (ty := 23) (t := 23) (x := .tmp 2) rfl rfl digest_wide rfl (cs := arr) (unhide HI).2 (unhide HSZ) ?_)
        | (go_at_call 76; refine (unhide HP).mono ?_; rintro e w3 ⟨rfl, hE3⟩; have H3 := hide hE3; clear hE3)
        | (refine wpList_build1 (t := 30) (x := .tmp 16) rfl digs_row (by omega) rfl rfl (by simpa using unhide HL) ?_)
        | (at_builtin; refine wpList_app rfl rfl digs_row rfl ((unhide HI).1.to ((unhide H3).alloc _)).own rfl (Reads.newD _ _ _ (unhide HL) rfl) (AllOne.u8 p) (by omega) ((unhide HI).1.to ((unhide H3).alloc _)).room ?_; intro A' c' w4 ho hc4 hv; have H4 := hide (And.intro ho hc4); clear ho hc4 hv))
      go_roundw
      case rel =>
        refine ⟨k + 1, A', c', by omega, by go_num, rfl, hide ⟨by rw [unhide HTk]; exact (unhide HI).1.step (unhide HL) ((unhide H3).alloc _) (unhide H4).2 (unhide H4).1, ?_⟩⟩
        exact ((unhide HI).2.ext ((unhide H3).alloc _)).chg (unhide H4).2 (fun e => by have h5 := ((unhide HI).1.own.lt _ e).1; omega)
      case measure => simp [intOf]; omega
    · obtain rfl : k = n := by omega
      go_wp2_with (go_at_call 19; refine (unhide HMn _).mono ?_; rintro e wz ⟨rfl, rfl⟩)
      go_ret
      exact ⟨A, c, rfl, ⟨ownsRow_base (unhide HI).1.own (by omega), (unhide HI).1.all, (unhide HI).1.ext, Nat.le_refl _, (unhide HI).1.ext.size'⟩⟩

set_option maxRecDepth 100000 in
set_option maxHeartbeats 4000000 in
theorem troot_no (seed : List UInt8) (h : Int) (w : World) (hh : ¬ okH h) :
    Calls Tryz.prog 50 #[.agg (seed.map u8v).toArray, .int .i64 h] w fun e w' => e = .returned (.tuple #[.agg (z16.map u8v).toArray, .int .i64 1]) ∧ Ext w w' := by
  have HV := hide (fun W => valid_no h W hh)
  obtain ⟨arr, harr⟩ : ∃ x, (seed.map u8v).toArray = x := ⟨_, rfl⟩
  rw [harr]
  clear hh harr
  go_enter Tryz.func50, Tryz.ntmps50
  go_wp2_with (go_at_call 88; refine (unhide HV _).mono ?_; rintro e wz ⟨rfl, rfl⟩)
  refine bodyPost_ret (v := .tuple #[.agg (z16.map u8v).toArray, .int .i64 1]) (results_two digest_wide rfl (Blk.new' _ _ _ (by simp)) rfl rfl rfl) rfl ⟨rfl, ?_⟩
  exact ((Ext.refl w).alloc _).alloc _
set_option maxRecDepth 100000 in
set_option maxHeartbeats 4000000 in
theorem rtroot_no (seed : List UInt8) (h : Int) (w : World) (hh : ¬ okH h) :
    Calls Tryz.prog 14 #[.agg (seed.map u8v).toArray, .int .i64 h] w fun e w' => e = .returned (.tuple #[.agg (z16.map u8v).toArray, .int .i64 1]) ∧ Ext w w' := by
  have HV := hide (fun W => many_no h W hh)
  obtain ⟨arr, harr⟩ : ∃ x, (seed.map u8v).toArray = x := ⟨_, rfl⟩
  rw [harr]
  clear hh harr
  go_enter Tryz.func14, Tryz.ntmps14
  go_wp2_with (go_at_call 19; refine (unhide HV _).mono ?_; rintro e wz ⟨rfl, rfl⟩)
  refine bodyPost_ret (v := .tuple #[.agg (z16.map u8v).toArray, .int .i64 1]) (results_two digest_wide rfl (Blk.new' _ _ _ (by simp)) rfl rfl rfl) rfl ⟨rfl, ?_⟩
  exact ((Ext.refl w).alloc _).alloc _
theorem okH_nat (h : Nat) (hh : h ≤ 4) : okH (h : Int) := ⟨by omega, by omega⟩
set_option maxRecDepth 100000 in
set_option maxHeartbeats 4000000 in
theorem troot_yes (seed : List UInt8) (h n : Nat) (hn : n = 2 ^ h) (hh : h ≤ 4) (w : World) (hv : seed.length = 16) (hM : ShaMem w) :
    Calls Tryz.prog 50 #[.agg (seed.map u8v).toArray, .int .i64 (h : Int)] w fun e w' => e = .returned (.tuple #[.agg ((rootS (leavesS seed n)).map u8v).toArray, .int .i64 0]) ∧ Ext w w' := by
  have hn16 : n ≤ 16 := by subst hn; exact pow_le16 h h (Nat.le_refl _) hh
  have hn1 : 1 ≤ n := by subst hn; exact Nat.one_le_two_pow
  have HV := hide (fun W => (fun W => valid_yes (h : Int) W (okH_nat h hh)) W)
  have HK := hide (fun W (hE : Ext w W) => leaves_any seed h n hn hh W hv (hM.ext hE))
  have HG := hide (fun (A : Option Addr) (c : Nat) W (hE : Ext w W) (hD : Digs W (.slice A n c) (leavesS seed n)) => root_any n (leavesS seed n) (.slice A n c) W (hM.ext hE) (by rw [leavesS_length]; omega) (by rw [leavesS_length]; omega) hD)
  have HL := hide (rootS_length (leavesS seed n))
  obtain ⟨res, hres⟩ : ∃ x, rootS (leavesS seed n) = x := ⟨_, rfl⟩
  rw [hres] at HG HL ⊢
  obtain ⟨arr, harr⟩ : ∃ x, (seed.map u8v).toArray = x := ⟨_, rfl⟩
  have HSZ := hide (show arr.size = 16 from by rw [← harr]; simpa using hv)
  rw [harr] at HK ⊢
  have hnI : ¬ (n : Int) = 0 := by omega
  clear hn hh harr hv hres hM
  go_enter Tryz.func50, Tryz.ntmps50
  go_wp2_with (first
    | (go_at_call 88; refine (unhide HV _).mono ?_; rintro e wz ⟨rfl, rfl⟩)
    | (refine wpList_loadB (ty := 23) (t := 23) (x := .tmp 2) rfl rfl digest_wide rfl (cs := arr) ((Blk.new w _ _).alloc _) (unhide HSZ) ?_)
    | (go_at_call 90; refine (unhide HK _ (((Ext.refl w).alloc _).alloc _)).mono ?_; rintro e w1 ⟨A1, c1, rfl, hG⟩; have H1 := hide (And.intro hG.digs (And.intro ((((Ext.refl w).alloc _).alloc _).trans hG.ext) ((Blk.new' (w.alloc (.cells arr 23)) 23 (Array.replicate 16 (.int .u8 0)) (g := w.heap.size + 1) (by simp)).ext hG.ext))); clear hG)
    | (go_at_call 89; refine (unhide HG A1 c1 _ (unhide H1).2.1 (unhide H1).1).mono ?_; rintro e w2 ⟨rfl, hE2⟩; have H2 := hide (And.intro ((unhide H1).2.1.trans hE2) ((unhide H1).2.2.ext hE2)); clear hE2)
    | (refine wpList_storeB (ty := 23) (t := 23) (x := .tmp 4) (y := .tmp 13) rfl rfl digest_wide rfl rfl (unhide H2).2 rfl (by simpa using unhide HL) (bytes_one _) ?_; intro w7 hb7 hc7 hz7; have H7 := hide (And.intro hb7 hc7); clear hb7 hc7 hz7))
  refine bodyPost_ret (v := .tuple #[.agg (res.map u8v).toArray, .int .i64 0]) (results_two digest_wide rfl (unhide H7).1 (by simpa using unhide HL) rfl rfl) rfl ⟨rfl, ?_⟩
  exact (unhide H2).1.trans' (unhide H7).2 (fun _ _ h => h) (fun i hi e => by omega)
set_option maxRecDepth 100000 in
set_option maxHeartbeats 4000000 in
theorem rtroot_yes (seed : List UInt8) (h n : Nat) (hn : n = 2 ^ h) (hh : h ≤ 4) (w : World) (hv : seed.length = 16)  :
    Calls Tryz.prog 14 #[.agg (seed.map u8v).toArray, .int .i64 (h : Int)] w fun e w' => e = .returned (.tuple #[.agg ((rootS (leavesS seed n)).map u8v).toArray, .int .i64 0]) ∧ Ext w w' := by
  have hn16 : n ≤ 16 := by subst hn; exact pow_le16 h h (Nat.le_refl _) hh
  have hn1 : 1 ≤ n := by subst hn; exact Nat.one_le_two_pow
  have HV := hide (fun W => (fun W => many_yes h n hn hh W) W)
  have HK := hide (fun W (hE : Ext w W) => rkeys_any seed h n hn hh W hv )
  have HG := hide (fun (A : Option Addr) (c : Nat) W (hE : Ext w W) (hD : Digs W (.slice A n c) (leavesS seed n)) => rroot_any n (leavesS seed n) (.slice A n c) W  (by rw [leavesS_length]; omega) (by rw [leavesS_length]; omega) hD)
  have HL := hide (rootS_length (leavesS seed n))
  obtain ⟨res, hres⟩ : ∃ x, rootS (leavesS seed n) = x := ⟨_, rfl⟩
  rw [hres] at HG HL ⊢
  obtain ⟨arr, harr⟩ : ∃ x, (seed.map u8v).toArray = x := ⟨_, rfl⟩
  have HSZ := hide (show arr.size = 16 from by rw [← harr]; simpa using hv)
  rw [harr] at HK ⊢
  have hnI : ¬ (n : Int) = 0 := by omega
  clear hn hh harr hv hres 
  go_enter Tryz.func14, Tryz.ntmps14
  go_wp2_with (first
    | (go_at_call 19; refine (unhide HV _).mono ?_; rintro e wz ⟨rfl, rfl⟩)
    | (refine wpList_loadB (ty := 23) (t := 23) (x := .tmp 2) rfl rfl digest_wide rfl (cs := arr) ((Blk.new w _ _).alloc _) (unhide HSZ) ?_)
    | (go_at_call 38; refine (unhide HK _ (((Ext.refl w).alloc _).alloc _)).mono ?_; rintro e w1 ⟨A1, c1, rfl, hG⟩; have H1 := hide (And.intro hG.digs (And.intro ((((Ext.refl w).alloc _).alloc _).trans hG.ext) ((Blk.new' (w.alloc (.cells arr 23)) 23 (Array.replicate 16 (.int .u8 0)) (g := w.heap.size + 1) (by simp)).ext hG.ext))); clear hG)
    | (go_at_call 37; refine (unhide HG A1 c1 _ (unhide H1).2.1 (unhide H1).1).mono ?_; rintro e w2 ⟨rfl, hE2⟩; have H2 := hide (And.intro ((unhide H1).2.1.trans hE2) ((unhide H1).2.2.ext hE2)); clear hE2)
    | (refine wpList_storeB (ty := 23) (t := 23) (x := .tmp 4) (y := .tmp 13) rfl rfl digest_wide rfl rfl (unhide H2).2 rfl (by simpa using unhide HL) (bytes_one _) ?_; intro w7 hb7 hc7 hz7; have H7 := hide (And.intro hb7 hc7); clear hb7 hc7 hz7))
  refine bodyPost_ret (v := .tuple #[.agg (res.map u8v).toArray, .int .i64 0]) (results_two digest_wide rfl (unhide H7).1 (by simpa using unhide HL) rfl rfl) rfl ⟨rfl, ?_⟩
  exact (unhide H2).1.trans' (unhide H7).2 (fun _ _ h => h) (fun i hi e => by omega)

end Go.Proofs.YtplkplegjoabgaaGreatDoor

/-
  The reference of Merkle trees: Prove.
-/
namespace Go.Proofs.YtplkplegjoabgaaGreatDoor
open Go.RowKit

theorem ret_sl {n m : Nat} {A : Option Addr} {c : Nat} {x : Value} (h : n = m) : Ending.returned (.tuple #[.slice A n c, x]) = .returned (.tuple #[.slice A m c, x]) := by rw [h]
set_option maxRecDepth 100000 in
set_option maxHeartbeats 4000000 in
theorem rprove_any (N : Nat) : ∀ (l : List (List UInt8)) (i : Nat) (v : Value) (w : World), l.length ≤ N → i < l.length → l.length ≤ 1000 → Digs w v l →
    Calls Tryz.prog 44 #[v, .int .i64 (i : Int)] w fun e w' => ∃ A c, e = .returned (.tuple #[.slice A (proveS l i).length c, .int .i64 0]) ∧ GD w w.heap.size (.slice A (proveS l i).length c) (proveS l i).length (proveS l i) w' := by
  induction N with
  | zero => intro l i v w h1 h2; omega
  | succ N ih =>
    intro l i v w hN hi h5 hD
    have hi1 : ¬ (i : Int) < 0 := by omega
    have hi2 : ¬ (l.length : Int) ≤ (i : Int) := by omega
    have hi3 : (i : Int) < (l.length : Int) := by omega
    by_cases h1 : l.length = 1
    · obtain ⟨A, c, rfl, _, _⟩ := hD.form
      have HP := hide (proveS_one l i (by omega))
      rw [h1] at hi2 hi3 ⊢
      obtain ⟨p, hp⟩ : ∃ p, proveS l i = p := ⟨_, rfl⟩
      rw [hp] at HP ⊢
      obtain rfl : p = [] := unhide HP
      clear hD ih hp HP h1
      go_enter Tryz.func44, Tryz.ntmps44
      go_wp2_with fail
      go_ret2
      exact ⟨none, 0, rfl, GD.nil (Ext.refl _) (Nat.le_refl _) (Nat.le_refl _)⟩
    · have hb := splitS_bounds l.length (by omega)
      have HSp := hide (fun W => rsplit_any l.length W (by omega) (by omega))
      obtain ⟨b, o, c, rfl, hc1, hc2, hbl, hL, hRt⟩ := hD.parts (by omega) hb.1 hb.2
      have hll : (l.take (splitS l.length)).length = splitS l.length := by rw [List.length_take]; omega
      have hrl : (l.drop (splitS l.length)).length = l.length - splitS l.length := by rw [List.length_drop]
      have HDL := hide (hL c (by omega) (by omega))
      have HDR := hide (hRt (c - splitS l.length) (by omega) (by omega))
      have hnI : ¬ (l.length : Int) = 1 := by omega
      have hk1 : splitS l.length ≤ l.length := by omega
      have hk2 : splitS l.length ≤ c := by omega
      have hk3 : ¬ l.length = splitS l.length := by omega
      have hk4 : ¬ c = splitS l.length := by omega
      unfold maxLen at hc2
      by_cases hk : i < splitS l.length
      · have HQ := hide (proveS_left l i (by omega) hk)
        have HPL := hide (prove_le l.length (l.take (splitS l.length)) i (by omega))
        have hple : (proveS (l.take (splitS l.length)) i).length ≤ 1000 := by have := unhide HPL; omega
        have HW := hide (fun W (hE : Ext w W) => ih (l.take (splitS l.length)) i (.slice (some ⟨b, o, none⟩) (splitS l.length) c) W (by omega) (by omega) (by omega) ((unhide HDL).ext hE))
        obtain ⟨ro, hro⟩ : ∃ r, rootS (l.drop (splitS l.length)) = r := ⟨_, rfl⟩
        have HRt := hide (fun W (hE : Ext w W) => rroot_any (l.drop (splitS l.length)).length (l.drop (splitS l.length)) (.slice (some ⟨b, o + splitS l.length * 16, none⟩) (l.length - splitS l.length) (c - splitS l.length)) W (Nat.le_refl _) (by omega) ((unhide HDR).ext hE))
        rw [hro] at HRt HQ
        have HL16 := hide (show ro.length = 16 from by rw [← hro]; exact rootS_length _)
        have hkI : (i : Int) < ((splitS l.length : Nat) : Int) := by omega
        obtain ⟨q, hq⟩ : ∃ q, proveS l i = q := ⟨_, rfl⟩
        obtain ⟨q1, hq1⟩ : ∃ q, proveS (l.take (splitS l.length)) i = q := ⟨_, rfl⟩
        rw [hq, hq1] at HQ
        rw [hq1] at HW hple
        rw [hq]
        have HLQ := hide (show q.length = q1.length + 1 from by rw [unhide HQ, List.length_append]; rfl)
        clear hD ih hL hRt hro hq hq1
        go_enter Tryz.func44, Tryz.ntmps44
        go_wp2_with (first
          | (go_at_call 74; refine (unhide HSp _).mono ?_; rintro e wz ⟨rfl, rfl⟩)
          | (go_at_call 44; refine (unhide HW _ (Ext.refl _)).mono ?_; rintro e w1 ⟨A1, c1, rfl, hG⟩; have H1 := hide hG; clear hG)
          | (go_at_call 37; refine (unhide HRt _ (unhide H1).ext).mono ?_; rintro e w3 ⟨rfl, hE3⟩; have H3 := hide hE3; clear hE3)
          | (refine wpList_build1 (t := 30) (x := .tmp 40) rfl digs_row (by omega) rfl rfl (by simpa using unhide HL16) ?_)
          | (at_builtin; refine wpList_app rfl rfl digs_row rfl ((unhide H1).to ((unhide H3).alloc _)).own rfl (Reads.newD _ _ _ (unhide HL16) rfl) (AllOne.u8 ro) (by omega) ((unhide H1).to ((unhide H3).alloc _)).room ?_; intro A' c' w4 ho hc4 hv; have H4 := hide ((unhide H1).step (unhide HL16) ((unhide H3).alloc _) hc4 ho); clear ho hc4 hv))
        go_ret2
        exact ⟨A', c', ret_sl (unhide HLQ).symm, by rw [unhide HLQ, unhide HQ]; exact unhide H4⟩
      · have HQ := hide (proveS_right l i (by omega) hk)
        have HPL := hide (prove_le l.length (l.drop (splitS l.length)) (i - splitS l.length) (by omega))
        have hple : (proveS (l.drop (splitS l.length)) (i - splitS l.length)).length ≤ 1000 := by have := unhide HPL; omega
        have HW := hide (fun W (hE : Ext w W) => ih (l.drop (splitS l.length)) (i - splitS l.length) (.slice (some ⟨b, o + splitS l.length * 16, none⟩) (l.length - splitS l.length) (c - splitS l.length)) W (by omega) (by omega) (by omega) ((unhide HDR).ext hE))
        obtain ⟨ro, hro⟩ : ∃ r, rootS (l.take (splitS l.length)) = r := ⟨_, rfl⟩
        have HRt := hide (fun W (hE : Ext w W) => rroot_any (l.take (splitS l.length)).length (l.take (splitS l.length)) (.slice (some ⟨b, o, none⟩) (splitS l.length) c) W (Nat.le_refl _) (by omega) ((unhide HDL).ext hE))
        rw [hro] at HRt HQ
        have HL16 := hide (show ro.length = 16 from by rw [← hro]; exact rootS_length _)
        have hkI : ¬ (i : Int) < ((splitS l.length : Nat) : Int) := by omega
        have eki : ((i - splitS l.length : Nat) : Int) = (i : Int) - ((splitS l.length : Nat) : Int) := by omega
        rw [eki] at HW
        obtain ⟨q, hq⟩ : ∃ q, proveS l i = q := ⟨_, rfl⟩
        obtain ⟨q1, hq1⟩ : ∃ q, proveS (l.drop (splitS l.length)) (i - splitS l.length) = q := ⟨_, rfl⟩
        rw [hq, hq1] at HQ
        rw [hq1] at HW hple
        rw [hq]
        have HLQ := hide (show q.length = q1.length + 1 from by rw [unhide HQ, List.length_append]; rfl)
        clear hD ih hL hRt hro hq hq1 eki
        go_enter Tryz.func44, Tryz.ntmps44
        go_wp2_with (first
          | (go_at_call 74; refine (unhide HSp _).mono ?_; rintro e wz ⟨rfl, rfl⟩)
          | (go_at_call 44; refine (unhide HW _ (Ext.refl _)).mono ?_; rintro e w1 ⟨A1, c1, rfl, hG⟩; have H1 := hide hG; clear hG)
          | (go_at_call 37; refine (unhide HRt _ (unhide H1).ext).mono ?_; rintro e w3 ⟨rfl, hE3⟩; have H3 := hide hE3; clear hE3)
          | (refine wpList_build1 (t := 30) (x := .tmp 57) rfl digs_row (by omega) rfl rfl (by simpa using unhide HL16) ?_)
          | (at_builtin; refine wpList_app rfl rfl digs_row rfl ((unhide H1).to ((unhide H3).alloc _)).own rfl (Reads.newD _ _ _ (unhide HL16) rfl) (AllOne.u8 ro) (by omega) ((unhide H1).to ((unhide H3).alloc _)).room ?_; intro A' c' w4 ho hc4 hv; have H4 := hide ((unhide H1).step (unhide HL16) ((unhide H3).alloc _) hc4 ho); clear ho hc4 hv))
        go_ret2
        exact ⟨A', c', ret_sl (unhide HLQ).symm, by rw [unhide HLQ, unhide HQ]; exact unhide H4⟩

end Go.Proofs.YtplkplegjoabgaaGreatDoor

/-
  The reference of one-time signatures: Sign, Recover.
-/
namespace Go.Proofs.YtplkplegjoabgaaGreatDoor
open Go.RowKit

def S3 (w : World) (v : Array Value) (dv : Value) (m : List UInt8) (W : World) : Prop := Ext w W ∧ Blk W w.heap.size 23 v ∧ Reads W 1 dv 68 (icells (digC m) 68)
theorem S3.ext {w : World} {v : Array Value} {dv : Value} {m : List UInt8} {W W' : World} (h : S3 w v dv m W) (hE : Ext W W') : S3 w v dv m W' := ⟨h.1.trans hE, h.2.1.ext hE, h.2.2.ext hE⟩
theorem S3.chg {w : World} {v : Array Value} {dv : Value} {m : List UInt8} {W W' : World} {S : Nat → Prop} {B : Nat} (h : S3 w v dv m W) (hc : Chg S W W') (hS : ∀ k, S k → B ≤ k) (hB : w.heap.size < B) (hd : ∀ k, dv.ownBlock = some k → k < B) : S3 w v dv m W' :=
  ⟨h.1.trans' hc (fun _ _ h => h.elim) (fun i hi e => by have := hS i e; omega), h.2.1.chg hc (fun e => by have := hS _ e; omega), h.2.2.chg hc (fun k _ hk e => by have := hS k e; have := hd k hk; omega)⟩

set_option maxRecDepth 100000 in
set_option maxHeartbeats 4000000 in
theorem rsign_any (seed : List UInt8) (index : Int) (m : List UInt8) (w : World) (hv : seed.length = 16) (hm : m.length = 16) (h1 : -9223372036854775808 ≤ index) (h2 : index < 9223372036854775808) :
    Calls Tryz.prog 45 #[.agg (seed.map u8v).toArray, .int .i64 index, .agg (m.map u8v).toArray] w fun e w' => ∃ A c, e = .returned (.slice A 68 c) ∧ GD w w.heap.size (.slice A 68 c) 68 (signS seed index m 68) w' := by
  have HDg := hide (fun (W : World) => rdigits_any m W hm)
  have HS := hide (fun k (hk : k < 68) (W : World) => rstart_any k seed index W hv (by omega) h1 h2)
  have HA := hide (fun k (hk : k < 68) (W : World) => radv_any k (digC m k) (startS seed index k) W (startS_length _ _ _) (by omega) (by have := digC_le m k; omega))
  have HL := hide (signAt_length seed index m)
  have HT := hide (signS_step seed index m)
  have HG := hide (fun k (hk : k < 68) => icells_get (digC m) hk)
  have HQ := hide (fun k => show advS k (startS seed index k) (digC m k) = signAt seed index m k from rfl)
  obtain ⟨arr, harr⟩ : ∃ r, (seed.map u8v).toArray = r := ⟨_, rfl⟩
  obtain ⟨marr, hmarr⟩ : ∃ r, (m.map u8v).toArray = r := ⟨_, rfl⟩
  rw [harr] at HS ⊢
  rw [hmarr] at HDg ⊢
  have hasz : arr.size = 16 := by rw [← harr]; simp; omega
  have hmsz : marr.size = 16 := by rw [← hmarr]; simp; omega
  clear harr hmarr hv hm
  go_enter Tryz.func45, Tryz.ntmps45
  go_wp2_with (refine wpList_loadB (ty := 23) (t := 23) (x := .tmp 5) rfl rfl digest_wide rfl (Blk.new' _ _ _ (by simp)) hmsz ?_)
  refine (unhide HDg _).mono ?_
  rintro e w1 ⟨A0, c0, rfl, hr1, hE1⟩
  have H1 := hide (show S3 w arr (.slice A0 68 c0) m w1 from ⟨(((Ext.refl w).alloc _).alloc _).trans hE1, ((Blk.new w 23 arr).alloc _).ext hE1, hr1⟩)
  have hol := hr1.own_lt (by omega) (by omega)
  obtain ⟨b0, o0, cc, u, hv0, _⟩ := hr1.at1 (k := 0) (by omega)
  cases hv0
  have HOL := hide hol
  clear hr1 hE1 hol
  go_wp2_with fail
  go_loopw [8, 9] (fun b i wr => ∃ (k : Nat) (A : Option Addr) (c : Nat), k ≤ 68 ∧ i = .int .i64 k ∧ b = .slice A k c ∧ Hid (GD w w1.heap.size (.slice A k c) k (signS seed index m k) wr ∧ S3 w arr (.slice (some ⟨b0, o0, none⟩) 68 c0) m wr)) (fun _ i _ => 68 - (intOf i).toNat)
  case atStart => exact ⟨0, none, 0, by omega, rfl, rfl, hide ⟨GD.nil (unhide H1).1 (unhide H1).1.size' (Nat.le_refl _), unhide H1⟩⟩
  case round =>
    obtain ⟨k, A, c, hk, rfl, rfl, HI⟩ := hrel
    by_cases hlt : k < 68
    · have HF : Hid (∀ W, S3 w arr (.slice (some ⟨b0, o0, none⟩) 68 c0) m W → W.cell? ⟨b0, o0 + k, none⟩ = some (.int .i64 ((digC m k : Nat) : Int))) := hide (fun W hW => hW.2.2.at_ (unhide HG k hlt))
      have HSk := hide (unhide HS k hlt)
      have HAk := hide (unhide HA k hlt)
      have HLk := hide (unhide HL k)
      have HTk := hide (unhide HT k)
      rw [unhide HQ k] at HAk
      generalize digC m k = dk at *
      generalize hst : ((startS seed index k).map u8v).toArray = st at *
      generalize signAt seed index m k = d at *
      have hkI : (k : Int) < 68 := by omega
      go_upto_region 6 with fail
      refine wp_region_held_drew (S := S3 w arr (.slice (some ⟨b0, o0, none⟩) 68 c0) m) (by kernel_rfl) ((unhide HI).2.ext ((Ext.refl _).drew)) (fun hHeld => ?_)
      refine wpAnyH_take (i := 0) (oi := _) (v := ?_) rfl (by kernel_rfl) (by kernel_rfl) (by kernel_rfl) (fun _ _ _ h => h) (Or.inl ⟨by rfl, fun wz hSz => ?_⟩) (by assumption) ?_
      rotate_left
      · (first | (go_simp; done) | (go_simp; with_reducible rfl) | (obtain f1 := (unhide HF) wz hSz; clear hSz; first | (go_simp; done) | (go_simp; with_reducible rfl)))
      try simp only [Act.put, List.setIfInBounds_toArray, List.set_cons_zero, List.set_cons_succ, List.getElem_toArray, List.getElem_cons_zero]
      refine wpAnyH_take (i := 1) (oi := _) (v := ?_) rfl (by kernel_rfl) (by kernel_rfl) (by kernel_rfl) (fun _ _ _ h => h) (Or.inl ⟨by rfl, fun wz hSz => ?_⟩) (by assumption) ?_
      rotate_left
      · (first | (go_simp; done) | (go_simp; with_reducible rfl) | (obtain f1 := (unhide HF) wz hSz; clear hSz; first | (go_simp; done) | (go_simp; with_reducible rfl)))
      try simp only [Act.put, List.setIfInBounds_toArray, List.set_cons_zero, List.set_cons_succ, List.getElem_toArray, List.getElem_cons_succ, List.getElem_cons_zero]
      refine wpAnyH_take (i := 2) (oi := _) (v := _) rfl (by kernel_rfl) (by kernel_rfl) (by kernel_rfl) (fun _ _ _ h => h) (ylb digest_wide rfl (by rfl) rfl hasz (fun w' hw => hw.2.1)) (by assumption) ?_
      try simp only [Act.put, List.setIfInBounds_toArray, List.set_cons_zero, List.set_cons_succ, List.getElem_toArray, List.getElem_cons_succ, List.getElem_cons_zero]
      refine wpAnyH_take (i := 3) (oi := _) (v := ?_) rfl (by kernel_rfl) (by kernel_rfl) (by kernel_rfl) (fun _ _ _ h => h) (Or.inl ⟨by rfl, fun wz hSz => ?_⟩) (by assumption) ?_
      rotate_left
      · (first | (go_simp; done) | (go_simp; with_reducible rfl) | (obtain f1 := (unhide HF) wz hSz; clear hSz; first | (go_simp; done) | (go_simp; with_reducible rfl)))
      try simp only [Act.put, List.setIfInBounds_toArray, List.set_cons_zero, List.set_cons_succ, List.getElem_toArray, List.getElem_cons_succ, List.getElem_cons_zero]
      refine wpAnyH_take (i := 4) (oi := _) (v := ?_) rfl (by kernel_rfl) (by kernel_rfl) (by kernel_rfl) (fun _ _ _ h => h) (Or.inl ⟨by rfl, fun wz hSz => ?_⟩) (by assumption) ?_
      rotate_left
      · (first | (go_simp; done) | (go_simp; with_reducible rfl) | (obtain f1 := (unhide HF) wz hSz; clear hSz; first | (go_simp; done) | (go_simp; with_reducible rfl)))
      try simp only [Act.put, List.setIfInBounds_toArray, List.set_cons_zero, List.set_cons_succ, List.getElem_toArray, List.getElem_cons_succ, List.getElem_cons_zero]
      refine wpAnyH_take (i := 6) (oi := _) (v := ?_) rfl (by kernel_rfl) (by kernel_rfl) (by kernel_rfl) (fun _ _ _ h => h) (Or.inl ⟨by rfl, fun wz hSz => ?_⟩) (by assumption) ?_
      rotate_left
      · (first | (go_simp; done) | (go_simp; with_reducible rfl) | (obtain f1 := (unhide HF) wz hSz; clear hSz; first | (go_simp; done) | (go_simp; with_reducible rfl)))
      try simp only [Act.put, List.setIfInBounds_toArray, List.set_cons_zero, List.set_cons_succ, List.getElem_toArray, List.getElem_cons_succ, List.getElem_cons_zero]
      refine wpAnyH_take (i := 7) (oi := _) (v := ?_) rfl (by kernel_rfl) (by kernel_rfl) (by kernel_rfl) (fun _ _ _ h => h) (Or.inl ⟨by rfl, fun wz hSz => ?_⟩) (by assumption) ?_
      rotate_left
      · (first | (go_simp; done) | (go_simp; with_reducible rfl) | (obtain f1 := (unhide HF) wz hSz; clear hSz; first | (go_simp; done) | (go_simp; with_reducible rfl)))
      try simp only [Act.put, List.setIfInBounds_toArray, List.set_cons_zero, List.set_cons_succ, List.getElem_toArray, List.getElem_cons_succ, List.getElem_cons_zero]
      refine wpAnyH_take (i := 8) (oi := _) (v := ?_) rfl (by kernel_rfl) (by kernel_rfl) (by kernel_rfl) (fun _ _ _ h => h) (Or.inl ⟨by rfl, fun wz hSz => ?_⟩) (by assumption) ?_
      rotate_left
      · (first | (go_simp; done) | (go_simp; with_reducible rfl) | (obtain f1 := (unhide HF) wz hSz; clear hSz; first | (go_simp; done) | (go_simp; with_reducible rfl)))
      try simp only [Act.put, List.setIfInBounds_toArray, List.set_cons_zero, List.set_cons_succ, List.getElem_toArray, List.getElem_cons_succ, List.getElem_cons_zero]
      refine wpAnyH_take (i := 9) (oi := _) (v := ?_) rfl (by kernel_rfl) (by kernel_rfl) (by kernel_rfl) (fun _ _ _ h => h) (Or.inl ⟨by rfl, fun wz hSz => ?_⟩) (by assumption) ?_
      rotate_left
      · (first | (go_simp; done) | (go_simp; with_reducible rfl) | (obtain f1 := (unhide HF) wz hSz; clear hSz; first | (go_simp; done) | (go_simp; with_reducible rfl)))
      try simp only [Act.put, List.setIfInBounds_toArray, List.set_cons_zero, List.set_cons_succ, List.getElem_toArray, List.getElem_cons_succ, List.getElem_cons_zero]
      refine wpAnyH_ready (rs := [5]) (by kernel_rfl) (by simp) (AllReadyH.cons (o := _) rfl (fun K hK => ?_) AllReadyH.nil)
      try go_simp
      (refine (unhide HSk _).mono ?_; rintro e w2 ⟨rfl, hE2⟩; have hS := hHeld.ext hE2; have H2 := hide (((Ext.refl wr).drew).trans hE2); clear hHeld hE2)
      refine hK.out _ _ ?_ (fun hHeld => ?_)
      · exact hS
      clear hK K
      try simp only [Act.put, List.setIfInBounds_toArray, List.set_cons_zero, List.set_cons_succ, List.getElem_toArray, List.getElem_cons_succ, List.getElem_cons_zero]
      refine wpAnyH_ready (rs := [10]) (by kernel_rfl) (by simp) (AllReadyH.cons (o := _) rfl (fun K hK => ?_) AllReadyH.nil)
      try go_simp
      (refine (unhide HAk _).mono ?_; rintro e w3 ⟨rfl, hE3⟩; have hS := hHeld.ext hE3; have H3 := hide ((unhide H2).trans hE3); clear hHeld hE3 H2)
      refine hK.out _ _ ?_ (fun hHeld => ?_)
      · exact hS
      clear hK K
      try simp only [Act.put, List.setIfInBounds_toArray, List.set_cons_zero, List.set_cons_succ, List.getElem_toArray, List.getElem_cons_succ, List.getElem_cons_zero]
      refine wpAnyH_ready (rs := [11]) (by kernel_rfl) (by simp) (AllReadyH.cons (o := _) rfl (fun K hK => ?_) AllReadyH.nil)
      (rw [if_pos (by rfl)]; refine wp_build1 (t := 30) (x := .tmp 26) digs_row (by omega) rfl rfl (by simpa using unhide HLk) ?_; have hS := hHeld.ext ((Ext.refl w3).alloc (.cells (d.map u8v).toArray 23)); clear hHeld)
      refine hK.out _ _ ?_ (fun hHeld => ?_)
      · exact hS
      clear hK K
      try simp only [Act.put, List.setIfInBounds_toArray, List.set_cons_zero, List.set_cons_succ, List.getElem_toArray, List.getElem_cons_succ, List.getElem_cons_zero]
      refine wpAnyH_ready (rs := [12]) (by kernel_rfl) (by simp) (AllReadyH.cons (o := _) rfl (fun K hK => ?_) AllReadyH.nil)
      (refine step_app rfl rfl digs_row rfl ((unhide HI).1.to ((unhide H3).alloc _)).own rfl (Reads.newD _ _ _ (unhide HLk) rfl) (AllOne.u8 d) (by omega) ((unhide HI).1.to ((unhide H3).alloc _)).room ?_; intro A' c' w4 ho hc4 hv; have hS := hHeld.chg (B := w1.heap.size) hc4 (fun j hj => ((unhide HI).1.own.lt j hj).1) (unhide H1).2.1.lt (unhide HOL); have H4 := hide ((unhide HI).1.step (unhide HLk) ((unhide H3).alloc _) hc4 ho); clear ho hc4 hv hHeld)
      refine hK.out _ _ ?_ (fun hHeld => ?_)
      · exact hS
      clear hK K
      try simp only [Act.put, List.setIfInBounds_toArray, List.set_cons_zero, List.set_cons_succ, List.getElem_toArray, List.getElem_cons_succ, List.getElem_cons_zero]
      refine wpAnyH_take (i := 13) (oi := _) (v := ?_) rfl (by kernel_rfl) (by kernel_rfl) (by kernel_rfl) (fun _ _ _ h => h) (Or.inl ⟨by rfl, fun wz hSz => ?_⟩) (by assumption) ?_
      rotate_left
      · (first | (go_simp; done) | (go_simp; with_reducible rfl) | (obtain f1 := (unhide HF) wz hSz; clear hSz; first | (go_simp; done) | (go_simp; with_reducible rfl)))
      try simp only [Act.put, List.setIfInBounds_toArray, List.set_cons_zero, List.set_cons_succ, List.getElem_toArray, List.getElem_cons_succ, List.getElem_cons_zero]
      refine wpAnyH_done (by kernel_rfl) ?_ _
      have H5 := hide hHeld
      clear hHeld
      go_wp2
      go_roundw
      case rel => exact ⟨k + 1, A', c', by omega, by go_num, rfl, hide ⟨by rw [unhide HTk]; exact unhide H4, unhide H5⟩⟩
      case measure => simp [intOf]; omega
    · obtain rfl : k = 68 := by omega
      go_wp2
      go_ret
      exact ⟨A, c, rfl, ⟨ownsRow_base (unhide HI).1.own (unhide H1).1.size', (unhide HI).1.all, (unhide HI).1.ext, Nat.le_refl _, (unhide HI).1.ext.size'⟩⟩

end Go.Proofs.YtplkplegjoabgaaGreatDoor

/-
  Trees of one-time keys: signatures.
-/
namespace Go.Proofs.YtplkplegjoabgaaGreatDoor
open Go.RowKit

theorem sig_wide : Wide Tryz.prog 32 3 := ⟨⟨_, Tryz.underlying32, rfl⟩, by kernel_rfl⟩
theorem proveS_D16 (l : List (List UInt8)) (i : Nat) : D16 (proveS l i) := proveS_16 l.length l i (Nat.le_refl _)
theorem prove_height (h n : Nat) (hn : n = 2 ^ h) (hh : h ≤ 4) (seed : List UInt8) (i : Nat) (hi : i < n) : (proveS (leavesS seed n) i).length = h := by
  have h1 := (prove_spec n (leavesS seed n) i _ (leavesS_get seed n i hi) (by rw [leavesS_length]; omega)).1
  rw [leavesS_length] at h1
  subst hn
  rw [h1, sides_pow_length h hh i hi]
/-- What a signature reads as. -/
def SigR (w : World) (v : Value) (index : Int) (chain path : List (List UInt8)) : Prop := ∃ cv pv, v = .agg #[.int .i64 index, cv, pv] ∧ Digs w cv chain ∧ Digs w pv path
theorem SigR.ext {w w' : World} {v : Value} {index : Int} {chain path : List (List UInt8)} (h : SigR w v index chain path) (hE : Ext w w') : SigR w' v index chain path := by
  obtain ⟨cv, pv, h1, h2, h3⟩ := h
  exact ⟨cv, pv, h1, h2.ext hE, h3.ext hE⟩
def NewSig (B : Nat) (v : Value) : Prop := ∃ i cv pv, v = .agg #[i, cv, pv] ∧ (∀ k, cv.ownBlock = some k → B ≤ k) ∧ (∀ k, pv.ownBlock = some k → B ≤ k)
def SignPost (w : World) (index : Int) (chain path : List (List UInt8)) (e : Ending) (w' : World) : Prop := ∃ v, e = .returned (.tuple #[v, .int .i64 0]) ∧ SigR w' v index chain path ∧ Ext w w' ∧ NewSig w.heap.size v

theorem okH_cases (h : Int) (ho : okH h) : ∃ k : Nat, h = (k : Int) ∧ k ≤ 4 := ⟨h.toNat, by obtain ⟨h1, h2⟩ := ho; omega, by obtain ⟨h1, h2⟩ := ho; omega⟩
def ManyPost (w : World) (e : Ending) (w' : World) : Prop := ∃ n : Nat, 1 ≤ n ∧ e = .returned (.int .i64 (n : Int)) ∧ w = w'
theorem valid_ok (h : Int) (ho : okH h) (w : World) : Calls Tryz.prog 88 #[.int .i64 h] w fun e w' => e = .returned (.bool true) ∧ w = w' := valid_yes h w ho
theorem many_ok (h : Int) (ho : okH h) (w : World) : Calls Tryz.prog 19 #[.int .i64 h] w (ManyPost w) := by
  obtain ⟨k, rfl, hk⟩ := okH_cases h ho
  exact (many_yes k _ rfl hk w).mono fun e w' ⟨h1, h2⟩ => ⟨2 ^ k, Nat.one_le_two_pow, h1, h2⟩
set_option maxRecDepth 100000 in
set_option maxHeartbeats 4000000 in
theorem rtsign_arg (seed msg : List UInt8) (h index : Int) (w : World) (hh : ¬ okH h ∨ index < 0) :
    Calls Tryz.prog 20 #[.agg (seed.map u8v).toArray, .int .i64 h, .int .i64 index, .agg (msg.map u8v).toArray] w fun e w' => e = .returned (.tuple #[.agg #[.int .i64 0, .slice none 0 0, .slice none 0 0], .int .i64 1]) ∧ Ext w w' := by
  obtain ⟨arr, harr⟩ : ∃ x, (seed.map u8v).toArray = x := ⟨_, rfl⟩
  obtain ⟨mrr, hmrr⟩ : ∃ x, (msg.map u8v).toArray = x := ⟨_, rfl⟩
  rw [harr, hmrr]
  clear harr hmrr
  by_cases ho : okH h
  · have hi : index < 0 := by rcases hh with h | h; exact absurd ho h; exact h
    have HV := hide (fun W => many_ok h ho W)
    clear hh ho
    go_enter Tryz.func20, Tryz.ntmps20
    go_wp2_with (go_at_call 19; refine (unhide HV _).mono ?_; rintro e wz ⟨n, hn1, rfl, rfl⟩; have hnI : ¬ (n : Int) = 0 := by omega)
    refine bodyPost_ret (v := .tuple #[.agg #[.int .i64 0, .slice none 0 0, .slice none 0 0], .int .i64 1]) (results_two sig_wide rfl (Blk.new' _ _ _ (by simp)) rfl rfl rfl) rfl ⟨rfl, ?_⟩
    exact (((Ext.refl w).alloc _).alloc _).alloc _
  · have HV := hide (fun W => many_no h W ho)
    clear hh ho
    go_enter Tryz.func20, Tryz.ntmps20
    go_wp2_with (go_at_call 19; refine (unhide HV _).mono ?_; rintro e wz ⟨rfl, rfl⟩)
    refine bodyPost_ret (v := .tuple #[.agg #[.int .i64 0, .slice none 0 0, .slice none 0 0], .int .i64 1]) (results_two sig_wide rfl (Blk.new' _ _ _ (by simp)) rfl rfl rfl) rfl ⟨rfl, ?_⟩
    exact (((Ext.refl w).alloc _).alloc _).alloc _

set_option maxRecDepth 100000 in
set_option maxHeartbeats 4000000 in
theorem rtsign_out (seed msg : List UInt8) (h n : Nat) (hn : n = 2 ^ h) (hh : h ≤ 4) (index : Int) (w : World) (h0 : (n : Int) ≤ index) :
    Calls Tryz.prog 20 #[.agg (seed.map u8v).toArray, .int .i64 (h : Int), .int .i64 index, .agg (msg.map u8v).toArray] w fun e w' => e = .returned (.tuple #[.agg #[.int .i64 0, .slice none 0 0, .slice none 0 0], .int .i64 17]) ∧ Ext w w' := by
  have HV := hide (fun W => (fun W => many_yes h n hn hh W) W)
  have hsh : wrap64 ((2 : Int) ^ h) = (n : Int) := by rw [shl_one h hh, hn]
  have hn1 : 1 ≤ n := by subst hn; exact Nat.one_le_two_pow
  have hnI : ¬ (n : Int) = 0 := by omega
  have hnB : ((n : Int) == 0) = false := beq_eq_false_iff_ne.2 (by omega)
  have hi0 : ¬ index < 0 := by omega
  obtain ⟨arr, harr⟩ : ∃ x, (seed.map u8v).toArray = x := ⟨_, rfl⟩
  obtain ⟨mrr, hmrr⟩ : ∃ x, (msg.map u8v).toArray = x := ⟨_, rfl⟩
  rw [harr, hmrr]
  clear harr hmrr hn
  go_enter Tryz.func20, Tryz.ntmps20
  go_wp2_with (go_at_call 19; refine (unhide HV _).mono ?_; rintro e wz ⟨rfl, rfl⟩)
  refine bodyPost_ret (v := .tuple #[.agg #[.int .i64 0, .slice none 0 0, .slice none 0 0], .int .i64 17]) (results_two sig_wide rfl (Blk.new' _ _ _ (by simp)) rfl rfl rfl) rfl ⟨rfl, ?_⟩
  exact (((Ext.refl w).alloc _).alloc _).alloc _


end Go.Proofs.YtplkplegjoabgaaGreatDoor

/-
  Trees of one-time keys: signatures of the reference.
-/
namespace Go.Proofs.YtplkplegjoabgaaGreatDoor
open Go.RowKit

set_option maxRecDepth 100000 in
set_option maxHeartbeats 4000000 in
theorem rtsign_yes (seed msg : List UInt8) (h n : Nat) (hn : n = 2 ^ h) (hh : h ≤ 4) (i : Nat) (hi : i < n) (w : World) (hv : seed.length = 16) (hm : msg.length = 16)  :
    Calls Tryz.prog 20 #[.agg (seed.map u8v).toArray, .int .i64 (h : Int), .int .i64 (i : Int), .agg (msg.map u8v).toArray] w (SignPost w (i : Int) (signS seed (i : Int) msg 68) (proveS (leavesS seed n) i)) := by
  have hn16 : n ≤ 16 := by subst hn; exact pow_le16 h h (Nat.le_refl _) hh
  have hsh : wrap64 ((2 : Int) ^ h) = (n : Int) := by rw [shl_one h hh, hn]
  have HV := hide (fun W => (fun W => many_yes h n hn hh W) W)
  have HK := hide (fun W (hE : Ext w W) => rkeys_any seed h n hn hh W hv )
  have HP := hide (fun (A : Option Addr) (c : Nat) W (hE : Ext w W) (hD : Digs W (.slice A n c) (leavesS seed n)) => rprove_any n (leavesS seed n) i (.slice A n c) W (by rw [leavesS_length]; omega) (by rw [leavesS_length]; omega) (by rw [leavesS_length]; omega) hD)
  have HS := hide (fun W (hE : Ext w W) => rsign_any seed (i : Int) msg W  hv hm (by omega) (by omega))
  have hnI : ¬ (n : Int) = 0 := by omega
  have hnB : ((n : Int) == 0) = false := beq_eq_false_iff_ne.2 (by omega)
  have hi0 : ¬ (i : Int) < 0 := by omega
  have hi1 : ¬ (n : Int) ≤ (i : Int) := by omega
  have hi2 : (i : Int) < (n : Int) := by omega
  obtain ⟨chain, hchain⟩ : ∃ x, signS seed (i : Int) msg 68 = x := ⟨_, rfl⟩
  obtain ⟨path, hpath⟩ : ∃ x, proveS (leavesS seed n) i = x := ⟨_, rfl⟩
  rw [hchain] at HS ⊢
  rw [hpath] at HP ⊢
  obtain ⟨arr, harr⟩ : ∃ x, (seed.map u8v).toArray = x := ⟨_, rfl⟩
  obtain ⟨mrr, hmrr⟩ : ∃ x, (msg.map u8v).toArray = x := ⟨_, rfl⟩
  have HSZ := hide (show arr.size = 16 ∧ mrr.size = 16 from by rw [← harr, ← hmrr]; exact ⟨by simpa using hv, by simpa using hm⟩)
  rw [harr] at HK HS ⊢
  rw [hmrr] at HS ⊢
  have HZ := hide (show Ext w (((w.alloc (.cells arr 23)).alloc (.cells mrr 23)).alloc (.cells #[.int .i64 0, .slice none 0 0, .slice none 0 0] 32)) ∧ Blk (((w.alloc (.cells arr 23)).alloc (.cells mrr 23)).alloc (.cells #[.int .i64 0, .slice none 0 0, .slice none 0 0] 32)) w.heap.size 23 arr ∧
    Blk (((w.alloc (.cells arr 23)).alloc (.cells mrr 23)).alloc (.cells #[.int .i64 0, .slice none 0 0, .slice none 0 0] 32)) (w.heap.size + 1) 23 mrr ∧ Blk (((w.alloc (.cells arr 23)).alloc (.cells mrr 23)).alloc (.cells #[.int .i64 0, .slice none 0 0, .slice none 0 0] 32)) (w.heap.size + 1 + 1) 32 #[.int .i64 0, .slice none 0 0, .slice none 0 0]
    from ⟨(((Ext.refl w).alloc _).alloc _).alloc _, ((Blk.new w _ _).alloc _).alloc _, (Blk.new' _ _ _ (by simp)).alloc _, Blk.new' _ _ _ (by simp)⟩)
  clear hn hv hm harr hmrr hchain hpath hi 
  go_enter Tryz.func20, Tryz.ntmps20
  go_upto_region 5 with (go_at_call 19; refine (unhide HV _).mono ?_; rintro e wz ⟨rfl, rfl⟩)
  generalize hW0 : (((w.alloc (.cells arr 23)).alloc (.cells mrr 23)).alloc (.cells #[.int .i64 0, .slice none 0 0, .slice none 0 0] 32)) = W0 at *
  clear hW0 hsh

  go_wp2_with (first
    | (refine wpList_loadB (ty := 23) (t := 23) (x := .tmp 4) rfl rfl digest_wide rfl (cs := arr) (unhide HZ).2.1 (unhide HSZ).1 ?_)
    | (go_at_call 38; refine (unhide HK _ (unhide HZ).1).mono ?_; rintro e w1 ⟨A1, c1, rfl, hG⟩; have H1 := hide (And.intro hG.digs hG.ext); clear hG)
    | (go_at_call 44; refine (unhide HP A1 c1 _ ((unhide HZ).1.trans (unhide H1).2) (unhide H1).1).mono ?_; rintro e w2 ⟨A2, c2, rfl, hG⟩; have HO2 := hide (fun k (hk : (Value.slice A2 path.length c2).ownBlock = some k) => show w.heap.size + 1 + 1 < k from by have := (hG.own.lt k hk).1; have := (unhide HZ).2.2.2.lt; have := (unhide H1).2.size'; omega); have H2 := hide (And.intro hG.digs ((unhide H1).2.trans hG.ext)); clear hG)
    | (refine wpList_loadB (ty := 23) (t := 23) (x := .tmp 4) rfl rfl digest_wide rfl (cs := arr) ((unhide HZ).2.1.ext (unhide H2).2) (unhide HSZ).1 ?_)
    | (refine wpList_loadB (ty := 23) (t := 23) (x := .tmp 7) rfl rfl digest_wide rfl (cs := mrr) ((unhide HZ).2.2.1.ext (unhide H2).2) (unhide HSZ).2 ?_)
    | (go_at_call 45; refine (unhide HS _ ((unhide HZ).1.trans (unhide H2).2)).mono ?_; rintro e w3 ⟨A3, c3, rfl, hG⟩; have HO3 := hide (fun k (hk : (Value.slice A3 68 c3).ownBlock = some k) => show w.heap.size + 1 + 1 < k from by have := (hG.own.lt k hk).1; have := (unhide HZ).2.2.2.lt; have := (unhide H2).2.size'; omega); have H3 := hide (And.intro hG.digs (And.intro ((unhide H2).1.ext hG.ext) ((unhide H2).2.trans hG.ext))); obtain ⟨q0, q1, q2, qf, ql⟩ := ((unhide HZ).2.2.2.ext (unhide H3).2.2).cells3; clear hG))
  refine bodyPost_ret (v := .tuple #[.agg #[.int .i64 (i : Int), .slice A3 68 c3, .slice A2 path.length c2], .int .i64 0]) (results_two sig_wide rfl ((((unhide HZ).2.2.2.ext (unhide H3).2.2).set_ 0 _).set_ 1 _ |>.set_ 2 _) rfl rfl rfl) rfl ?_
  have hc : Chg (fun k => k = w.heap.size + 1 + 1) w3 (((w3.setCell ⟨w.heap.size + 1 + 1, 0, none⟩ (.int .i64 (i : Int))).setCell ⟨w.heap.size + 1 + 1, 1, none⟩ (.slice A3 68 c3)).setCell ⟨w.heap.size + 1 + 1, 2, none⟩ (.slice A2 path.length c2)) := (((Chg.refl (fun k => k = w.heap.size + 1 + 1) w3).setCell (p := ⟨w.heap.size + 1 + 1, 0, none⟩) (.inl rfl) _).setCell (p := ⟨w.heap.size + 1 + 1, 1, none⟩) (.inl rfl) _).setCell (p := ⟨w.heap.size + 1 + 1, 2, none⟩) (.inl rfl) _
  refine ⟨_, rfl, ⟨_, _, rfl, ?_, ?_⟩, ((unhide HZ).1.trans (unhide H3).2.2).trans' hc (fun _ _ h => h) (fun i hi e => by omega), ⟨_, _, _, rfl, fun k hk => by have := unhide HO3 k hk; omega, fun k hk => by have := unhide HO2 k hk; omega⟩⟩
  · exact (unhide H3).1.chg hc (fun k hk e => by have := unhide HO3 k hk; omega)
  · exact (unhide H3).2.1.chg hc (fun k hk e => by have := unhide HO2 k hk; omega)

end Go.Proofs.YtplkplegjoabgaaGreatDoor

/-
  merkle.Verify.
-/
namespace Go.Proofs.YtplkplegjoabgaaGreatDoor
open Go.RowKit

/-- The cells of a list of bools. -/
def bcells (l : List Bool) : List Value := l.map .bool
theorem bools_row : SlTy Tryz.prog 221 4 1 1 := SlTy.mk' (z := .bool false) (by kernel_rfl) (by kernel_rfl) rfl (by omega) (by omega)
theorem bcells_one (l : List Bool) : AllOne (bcells l) := AllOne.map (fun _ => rfl) l

set_option maxRecDepth 100000 in
set_option maxHeartbeats 4000000 in
theorem mverify_out (root leaf : List UInt8) (n : Nat) (i : Int) (ps : List (List UInt8)) (pv : Value) (w : World) (hD : Digs w pv ps) (h : i < 0 ∨ (n : Int) ≤ i) :
    Calls Tryz.prog 143 #[.agg (root.map u8v).toArray, .int .i64 (n : Int), .int .i64 i, .agg (leaf.map u8v).toArray, pv] w fun e w' => e = .returned (.bool false) ∧ Ext w w' := by
  obtain ⟨A, c, rfl, _, _⟩ := hD.form
  obtain ⟨ra, hra⟩ : ∃ x, (root.map u8v).toArray = x := ⟨_, rfl⟩
  obtain ⟨la, hla⟩ : ∃ x, (leaf.map u8v).toArray = x := ⟨_, rfl⟩
  rw [hra, hla]
  generalize ps.length = m at *
  clear hD hra hla
  by_cases h0 : i < 0
  · clear h
    go_enter Tryz.func143, Tryz.ntmps143
    go_wp2
    go_ret
    exact ⟨rfl, ((Ext.refl w).alloc _).alloc _⟩
  · have h1 : (n : Int) ≤ i := by omega
    clear h
    go_enter Tryz.func143, Tryz.ntmps143
    go_wp2
    go_ret
    exact ⟨rfl, ((Ext.refl w).alloc _).alloc _⟩

/-- Where the walk down the tree stands: what is collected, and what is to come, make up the sides. -/
def Down (n0 i0 : Nat) (ss : List Bool) (n i : Nat) : Prop := i < n ∧ sidesS n0 i0 = ss ++ sidesS n i ∧ ss.length + n ≤ n0
theorem Down.left {n0 i0 n i : Nat} {ss : List Bool} (h : Down n0 i0 ss n i) (h1 : 1 < n) (hk : i < splitS n) : Down n0 i0 (ss ++ [true]) (splitS n) i := by
  have hb := splitS_bounds n h1
  obtain ⟨h2, h3, h4⟩ := h
  refine ⟨hk, by rw [h3, sidesS_left n i h1 hk, List.append_assoc]; rfl, by rw [List.length_append]; simp; omega⟩
theorem Down.right {n0 i0 n i : Nat} {ss : List Bool} (h : Down n0 i0 ss n i) (h1 : 1 < n) (hk : ¬ i < splitS n) : Down n0 i0 (ss ++ [false]) (n - splitS n) (i - splitS n) := by
  have hb := splitS_bounds n h1
  obtain ⟨h2, h3, h4⟩ := h
  refine ⟨by omega, by rw [h3, sidesS_right n i h1 hk, List.append_assoc]; rfl, by rw [List.length_append]; simp; omega⟩
theorem Down.stop {n0 i0 n i : Nat} {ss : List Bool} (h : Down n0 i0 ss n i) (h1 : ¬ 1 < n) : ss = sidesS n0 i0 := by
  rw [h.2.1, sidesS_one n i (by omega), List.append_nil]

/-- What the second loop leans on, and the digest that it carries. -/
structure Up (w : World) (bs : Nat) (ra : Array Value) (ps : List (List UInt8)) (pv sv : Value) (sd : List Bool) (g : Nat) (d : List UInt8) (wr : World) : Prop where
  ext : Ext w wr
  root : Blk wr w.heap.size 23 ra
  path : Digs wr pv ps
  side : Reads wr 1 sv sd.length (bcells sd)
  cell : Blk wr g 23 (d.map u8v).toArray
  lt : w.heap.size < g ∧ (0 < ps.length → ∀ k, pv.ownBlock = some k → k < g) ∧ (∀ k, sv.ownBlock = some k → k < g) ∧ bs < g
theorem Up.to {w : World} {bs : Nat} {ra : Array Value} {ps : List (List UInt8)} {pv sv : Value} {sd : List Bool} {g : Nat} {d : List UInt8} {wr wr' : World} (h : Up w bs ra ps pv sv sd g d wr) (hE : Ext wr wr') : Up w bs ra ps pv sv sd g d wr' :=
  ⟨h.ext.trans hE, h.root.ext hE, h.path.ext hE, h.side.ext hE, h.cell.ext hE, h.lt⟩
theorem Up.store {w : World} {bs : Nat} {ra : Array Value} {ps : List (List UInt8)} {pv sv : Value} {sd : List Bool} {g : Nat} {d d' : List UInt8} {wr wr' : World} (h : Up w bs ra ps pv sv sd g d wr) (hc : Chg (fun k => k = g) wr wr') (hb : Blk wr' g 23 (d'.map u8v).toArray) : Up w bs ra ps pv sv sd g d' wr' := by
  obtain ⟨l1, l2, l3, l4⟩ := h.lt
  exact ⟨h.ext.trans' hc (fun _ _ h => h) (fun i hi e => by omega), h.root.chg hc (by omega), ⟨h.path.1, h.path.2.chg hc (fun k hp hk e => by have := l2 hp k hk; omega)⟩, h.side.chg hc (fun k _ hk e => by have := l3 k hk; omega), hb, h.lt⟩

set_option maxRecDepth 100000 in
set_option maxHeartbeats 8000000 in
theorem mverify_in (root leaf : List UInt8) (n i : Nat) (ps : List (List UInt8)) (pv : Value) (w : World) (hM : ShaMem w) (hr : root.length = 16) (hl : leaf.length = 16) (hn : n ≤ 100000) (hpl : ps.length ≤ 100000) (hD : Digs w pv ps) (h : i < n) :
    Calls Tryz.prog 143 #[.agg (root.map u8v).toArray, .int .i64 (n : Int), .int .i64 (i : Int), .agg (leaf.map u8v).toArray, pv] w fun e w' => e = .returned (.bool (verifyS root n i leaf ps)) ∧ Ext w w' := by
  have HM := hide hM
  have HD := hide hD
  have HSp := hide (fun (m : Nat) W (h1 : 1 < m) (h2 : m ≤ 100000) => split_any m W h1 (by omega))
  have HLf := hide (fun W (hE : Ext w W) => leaf_any leaf W (hM.ext hE) hl)
  have HV := hide (show verifyS root n i leaf ps = (decide (i < n) && (decide ((sidesS n i).length = ps.length) && decide (foldS (leafS leaf) (sidesS n i).reverse ps = root))) from rfl)
  have HDown := hide (show Down n i [] n i from ⟨h, rfl, by simp⟩)
  obtain ⟨res, hres⟩ : ∃ b, verifyS root n i leaf ps = b := ⟨_, rfl⟩
  rw [hres] at HV ⊢
  obtain ⟨A0, c0, rfl, hc01, hc02⟩ := hD.form
  obtain ⟨ra, hra⟩ : ∃ x, (root.map u8v).toArray = x := ⟨_, rfl⟩
  obtain ⟨la, hla⟩ : ∃ x, (leaf.map u8v).toArray = x := ⟨_, rfl⟩
  rw [hla] at HLf
  have HRA := hide hra
  have HSZ := hide (show ra.size = 16 ∧ la.size = 16 ∧ (leafS leaf).length = 16 from by rw [← hra, ← hla]; exact ⟨by simpa using hr, by simpa using hl, leafS_length _⟩)
  rw [hra, hla]
  obtain ⟨lf, hlf⟩ : ∃ x, leafS leaf = x := ⟨_, rfl⟩
  rw [hlf] at HV HLf HSZ
  have HRL := hide hr
  have hi0 : ¬ (i : Int) < 0 := by omega
  have hin : ¬ (n : Int) ≤ (i : Int) := by omega
  have HZ := hide (show Ext w ((w.alloc (.cells ra 23)).alloc (.cells la 23)) ∧ Blk ((w.alloc (.cells ra 23)).alloc (.cells la 23)) w.heap.size 23 ra ∧ Blk ((w.alloc (.cells ra 23)).alloc (.cells la 23)) (w.heap.size + 1) 23 la ∧ ((w.alloc (.cells ra 23)).alloc (.cells la 23)).heap.size = w.heap.size + 2 from ⟨((Ext.refl w).alloc _).alloc _, (Blk.new w _ _).alloc _, Blk.new' _ _ _ (by simp), by simp⟩)
  clear hM hD hres hra hla hlf hr hl h
  go_enter Tryz.func143, Tryz.ntmps143
  go_wp2_with fail
  generalize hW0 : ((w.alloc (.cells ra 23)).alloc (.cells la 23)) = W0 at *
  clear hW0
  go_loopw [1, 2, 11] (fun x y b wr => ∃ (m j k : Nat) (A : Option Addr) (c : Nat) (ss : List Bool), x = .int .i64 m ∧ y = .int .i64 j ∧ b = .slice A k c ∧ m ≤ 100000 ∧ k + m ≤ 100000 ∧ j < m ∧ Hid (ss.length = k ∧ Down n i ss m j ∧ wr.ownsRow (w.heap.size + 2) 4 1 (.slice A k c) k (bcells ss) ∧ Ext W0 wr)) (fun x _ _ _ => (intOf x).toNat)
  case atStart => exact ⟨n, i, 0, none, 0, [], rfl, rfl, rfl, hn, by omega, (unhide HDown).1, hide ⟨rfl, unhide HDown, World.ownsRow_nil _ _ _ _, Ext.refl _⟩⟩
  case round =>
    obtain ⟨m, j, k, A, c, ss, rfl, rfl, rfl, hm, hk, hjm, HI⟩ := hrel
    by_cases h1 : 1 < m
    · have hb := splitS_bounds m h1
      have HS1 := hide (fun W => unhide HSp m W h1 hm)
      have HDo := hide (show (j < splitS m → Down n i (ss ++ [true]) (splitS m) j) ∧ (¬ j < splitS m → Down n i (ss ++ [false]) (m - splitS m) (j - splitS m)) from ⟨fun hk => (unhide HI).2.1.left h1 hk, fun hk => (unhide HI).2.1.right h1 hk⟩)
      have h1I : (1 : Int) < (m : Int) := by omega
      generalize splitS m = q at *
      by_cases hj : j < q
      · have hjI : (j : Int) < (q : Int) := by omega
        go_wp2_with (first
          | (go_at_call 119; refine (unhide HS1 _).mono ?_; rintro e wz ⟨rfl, rfl⟩)
          | (at_builtin; refine wpList_app rfl rfl bools_row rfl (ownsRow_ext (unhide HI).2.2.1 ((Ext.refl wr).alloc _)) rfl (Reads.new1' _ _ _ (g := wr.heap.size) rfl) (AllOne.one rfl) (by omega) (by have := (unhide HI).2.2.2.size'; have := (unhide HZ).2.2.2; simp; omega) ?_; intro A' c' w4 ho hc4 hv; have H4 := hide (And.intro ho hc4); clear ho hc4 hv))
        go_roundw
        case rel => exact ⟨q, j, k + 1, A', c', ss ++ [true], rfl, rfl, rfl, by omega, by omega, hj, hide ⟨by rw [List.length_append, (unhide HI).1]; rfl, (unhide HDo).1 hj, by have := (unhide H4).1; unfold bcells at this ⊢; rw [List.map_append]; exact this, (((unhide HI).2.2.2.alloc _).trans' (unhide H4).2 (fun _ _ h => h) (fun x hx e => by have := ((unhide HI).2.2.1.lt x e).1; have := (unhide HZ).2.2.2; omega))⟩⟩
        case measure => simp [intOf]; omega
      · have hjI : ¬ (j : Int) < (q : Int) := by omega
        go_wp2_with (first
          | (go_at_call 119; refine (unhide HS1 _).mono ?_; rintro e wz ⟨rfl, rfl⟩)
          | (at_builtin; refine wpList_app rfl rfl bools_row rfl (ownsRow_ext (unhide HI).2.2.1 ((Ext.refl wr).alloc _)) rfl (Reads.new1' _ _ _ (g := wr.heap.size) rfl) (AllOne.one rfl) (by omega) (by have := (unhide HI).2.2.2.size'; have := (unhide HZ).2.2.2; simp; omega) ?_; intro A' c' w4 ho hc4 hv; have H4 := hide (And.intro ho hc4); clear ho hc4 hv))
        go_roundw
        case rel => exact ⟨m - q, j - q, k + 1, A', c', ss ++ [false], int_eq (by omega), int_eq (by omega), rfl, by omega, by omega, by omega, hide ⟨by rw [List.length_append, (unhide HI).1]; rfl, (unhide HDo).2 hj, by have := (unhide H4).1; unfold bcells at this ⊢; rw [List.map_append]; exact this, (((unhide HI).2.2.2.alloc _).trans' (unhide H4).2 (fun _ _ h => h) (fun x hx e => by have := ((unhide HI).2.2.1.lt x e).1; have := (unhide HZ).2.2.2; omega))⟩⟩
        case measure => simp [intOf]; omega
    · have HST := hide ((unhide HI).2.1.stop h1)
      have h1I : ¬ (1 : Int) < (m : Int) := by omega
      by_cases hkp : k = ps.length
      · subst hkp
        have HF := hide (show res = decide (foldS lf (sidesS n i).reverse ps = root) from by
          rw [unhide HV, decide_eq_true (by have := (unhide HDown).1; exact this), decide_eq_true (show (sidesS n i).length = ps.length from by rw [← unhide HST, (unhide HI).1]), Bool.true_and, Bool.true_and])
        generalize hsd : sidesS n i = sd at *
        obtain rfl : ss = sd := unhide HST
        clear hsd
        go_wp2_with (first
          | (refine wpList_loadB (ty := 23) (t := 23) (x := .tmp 8) rfl rfl digest_wide rfl (cs := la) ((unhide HZ).2.2.1.ext (unhide HI).2.2.2) (unhide HSZ).2.1 ?_)
          | (go_at_call 118; refine (unhide HLf _ ((unhide HZ).1.trans (unhide HI).2.2.2)).mono ?_; rintro e w5 ⟨rfl, hE5⟩; have H5 := hide hE5; clear hE5)
          | (refine wpList_storeB (ty := 23) (t := 23) (x := .tmp 13) (y := .tmp 49) rfl rfl digest_wide rfl rfl (Blk.new w5 _ _) rfl (by simpa using (unhide HSZ).2.2) (bytes_one _) ?_; intro w7 hb7 hc7 hz7; have H7 := hide (And.intro hb7 (made_ext (unhide H5) hc7)); clear hb7 hc7 hz7))
        have HU := hide (show Up w 0 ra ps (.slice A0 ps.length c0) (.slice A ps.length c) ss w5.heap.size lf w7 from
          ⟨(unhide HZ).1.trans ((unhide HI).2.2.2.trans (unhide H7).2), (unhide HZ).2.1.ext ((unhide HI).2.2.2.trans (unhide H7).2), (unhide HD).ext ((unhide HZ).1.trans ((unhide HI).2.2.2.trans (unhide H7).2)),
            by have := (Reads.of_own (unhide HI).2.2.1).ext (unhide H7).2; rw [← (unhide HI).1] at this; rw [← (unhide HI).1]; exact this, (unhide H7).1, by
            have l1 := (unhide HZ).2.2.2
            have l2 := (unhide HI).2.2.2.size'
            have l3 := (unhide H5).size'
            refine ⟨by omega, fun hp0 x hx => ?_, fun x hx => ?_, by omega⟩
            · have := (unhide HD).own_lt hp0 x hx; omega
            · have := ((unhide HI).2.2.1.lt x hx).2; omega⟩)
        have HJ := hide (fun (lr : List UInt8 × List UInt8) W (hE : Ext w W) (h1 : lr.1.length = 16) (h2 : lr.2.length = 16) => node_any lr.1 lr.2 W ((unhide HM).ext hE) h1 h2)
        have HKL := hide (unhide HI).1
        have hkl1 : ss.length ≤ ps.length := by have := unhide HKL; omega
        have hkl2 : ps.length ≤ ss.length := by have := unhide HKL; omega
        have hsl : ps.length ≤ ss.reverse.length ∧ ss.reverse.length ≤ ps.length := by rw [List.length_reverse]; omega
        have HFT := hide (fun j (hj : j < ps.length) => foldS_take lf ss.reverse ps j (by omega) (by omega))
        have HFL := hide (fun j => foldS_length lf (unhide HSZ).2.2 (ss.reverse.take j) (ps.take j))
        have HF0 := hide (show foldS lf (ss.reverse.take 0) (ps.take 0) = lf from rfl)
        have HFK := hide (show foldS lf (ss.reverse.take ps.length) (ps.take ps.length) = foldS lf ss.reverse ps from by rw [List.take_of_length_le (by omega), List.take_of_length_le (by omega)])
        obtain ⟨g5, hg5⟩ : ∃ x, w5.heap.size = x := ⟨_, rfl⟩
        rw [hg5] at HU ⊢
        clear HI H5 hg5
        go_wp2_with fail
        go_loopw [52] (fun x wr => ∃ j : Nat, x = .int .i64 j ∧ j ≤ ps.length ∧ Hid (Up w 0 ra ps (.slice A0 ps.length c0) (.slice A ps.length c) ss g5 (foldS lf (ss.reverse.take j) (ps.take j)) wr)) (fun x _ => ps.length - (intOf x).toNat)
        case atStart => exact ⟨0, rfl, by omega, hide (by rw [unhide HF0]; exact unhide HU)⟩
        case round =>
          obtain ⟨j, rfl, hj, HUp⟩ := hrel
          by_cases hlt : j < ps.length
          · obtain ⟨b, o, c', hv, _, _, hbl, hR⟩ := (unhide HUp).path.at (k := j) (by omega)
            cases hv
            have hS := (unhide HUp).side
            rw [unhide HKL] at hS
            obtain ⟨b2, o2, c2, u, hv, _, _, hb2, hu, hcu⟩ := hS.at1 (k := ps.length - 1 - j) (by omega)
            cases hv
            have hT := unhide HFT j hlt
            have hsj : ss[ps.length - 1 - j]? = some ss.reverse[j] := by
              have := List.getElem?_reverse (l := ss) (i := j) (by omega)
              rw [List.getElem?_eq_getElem (by omega), unhide HKL] at this
              exact this.symm
            obtain ⟨s, hs⟩ : ∃ s, ss.reverse[j] = s := ⟨_, rfl⟩
            rw [hs] at hT hsj
            obtain rfl : u = .bool s := by
              unfold bcells at hu
              rw [List.getElem?_map, hsj] at hu
              exact (Option.some.inj hu).symm
            have hp16 := (unhide HUp).path.1.get (k := j) (by omega)
            have hd16 := unhide HFL j
            obtain ⟨p, hp⟩ : ∃ p, ps[j] = p := ⟨_, rfl⟩
            obtain ⟨d, hd⟩ : ∃ d, foldS lf (ss.reverse.take j) (ps.take j) = d := ⟨_, rfl⟩
            rw [hp] at hT hp16 hR
            rw [hd] at hT hd16 HUp
            have HR := hide (show (p.map u8v).length = 16 ∧ wr.rangeAt b (o + j * 16) (p.map u8v) ∧ p.length = 16 ∧ d.length = 16 from ⟨by simpa using hp16, hR, hp16, hd16⟩)
            have HC := hide (And.intro hcu hb2)
            obtain ⟨nd, hnd⟩ : ∃ x, foldS lf (ss.reverse.take (j + 1)) (ps.take (j + 1)) = x := ⟨_, rfl⟩
            rw [hnd] at hT
            have HN := hide hnd
            clear hR hcu hu hsj hs hp hd hp16 hd16 hS hnd hb2
            have hjI : (j : Int) < (ps.length : Int) := by omega
            cases s
            · have HT := hide (show nd = nodeS p d ∧ nd.length = 16 from ⟨hT, by rw [hT]; exact nodeS_length _ _⟩)
              clear hT
              go_wp2_with (first
                | (refine wpList_loadMG (by rfl) (ty := 23) (x := .tmp 55) rfl digest_wide rfl (unhide HR).2.1 (unhide HR).1 ?_)
                | (refine wpList_storeB (ty := 23) (t := 23) (x := .tmp 15) (y := .tmp 56) rfl rfl digest_wide rfl rfl (Blk.new wr _ _) rfl (by simpa using (unhide HR).1) (bytes_one _) ?_; intro w8 hb8 hc8 hz8; have H8 := hide (And.intro hb8 (made_ext1 hc8)); have hcs := Ext.cellv (unhide H8).2 (unhide HC).1; clear hb8 hc8 hz8)
                | (refine wpList_loadB (ty := 23) (t := 23) (x := .tmp 13) rfl rfl digest_wide rfl (cs := (d.map u8v).toArray) ((unhide HUp).to (unhide H8).2).cell (by simpa using (unhide HR).2.2.2) ?_)
                | (refine wpList_loadB (ty := 23) (t := 23) (x := .tmp 15) rfl rfl digest_wide rfl (cs := (p.map u8v).toArray) (unhide H8).1 (by simpa using (unhide HR).2.2.1) ?_)
                | (go_at_call 120; refine (unhide HJ (p, d) _ ((unhide HUp).to (unhide H8).2).ext (unhide HR).2.2.1 (unhide HR).2.2.2).mono ?_; rintro e w9 ⟨rfl, hE9⟩; rw [← (unhide HT).1]; have H9 := hide ((unhide HUp).to ((unhide H8).2.trans hE9)); clear hE9)
                | (refine wpList_storeB (ty := 23) (t := 23) (x := .tmp 13) (y := .tmp 70) rfl rfl digest_wide rfl rfl (unhide H9).cell (by simpa using (unhide HR).2.2.2) (by simpa using (unhide HT).2) (bytes_one _) ?_; intro w10 hb10 hc10 hz10; have H10 := hide ((unhide H9).store hc10 hb10); clear hb10 hc10 hz10))
              go_roundw
              case rel => exact ⟨j + 1, by go_num, by omega, hide (by rw [unhide HN]; exact unhide H10)⟩
              case measure => simp [intOf]; omega
            · have HT := hide (show nd = nodeS d p ∧ nd.length = 16 from ⟨hT, by rw [hT]; exact nodeS_length _ _⟩)
              clear hT
              go_wp2_with (first
                | (refine wpList_loadMG (by rfl) (ty := 23) (x := .tmp 55) rfl digest_wide rfl (unhide HR).2.1 (unhide HR).1 ?_)
                | (refine wpList_storeB (ty := 23) (t := 23) (x := .tmp 15) (y := .tmp 56) rfl rfl digest_wide rfl rfl (Blk.new wr _ _) rfl (by simpa using (unhide HR).1) (bytes_one _) ?_; intro w8 hb8 hc8 hz8; have H8 := hide (And.intro hb8 (made_ext1 hc8)); have hcs := Ext.cellv (unhide H8).2 (unhide HC).1; clear hb8 hc8 hz8)
                | (refine wpList_loadB (ty := 23) (t := 23) (x := .tmp 13) rfl rfl digest_wide rfl (cs := (d.map u8v).toArray) ((unhide HUp).to (unhide H8).2).cell (by simpa using (unhide HR).2.2.2) ?_)
                | (refine wpList_loadB (ty := 23) (t := 23) (x := .tmp 15) rfl rfl digest_wide rfl (cs := (p.map u8v).toArray) (unhide H8).1 (by simpa using (unhide HR).2.2.1) ?_)
                | (go_at_call 120; refine (unhide HJ (d, p) _ ((unhide HUp).to (unhide H8).2).ext (unhide HR).2.2.2 (unhide HR).2.2.1).mono ?_; rintro e w9 ⟨rfl, hE9⟩; rw [← (unhide HT).1]; have H9 := hide ((unhide HUp).to ((unhide H8).2.trans hE9)); clear hE9)
                | (refine wpList_storeB (ty := 23) (t := 23) (x := .tmp 13) (y := .tmp 67) rfl rfl digest_wide rfl rfl (unhide H9).cell (by simpa using (unhide HR).2.2.2) (by simpa using (unhide HT).2) (bytes_one _) ?_; intro w10 hb10 hc10 hz10; have H10 := hide ((unhide H9).store hc10 hb10); clear hb10 hc10 hz10))
              go_roundw
              case rel => exact ⟨j + 1, by go_num, by omega, hide (by rw [unhide HN]; exact unhide H10)⟩
              case measure => simp [intOf]; omega
          · obtain rfl : j = ps.length := by omega
            obtain ⟨d, hd⟩ : ∃ d, foldS lf (ss.reverse.take ps.length) (ps.take ps.length) = d := ⟨_, rfl⟩
            have hd16 := unhide HFL ps.length
            rw [hd] at HUp hd16
            have HE := hide (show res = decide (d = root) from by rw [unhide HF, ← unhide HFK, hd])
            have HX := hide (show (d.map u8v).toArray.size = 16 from by simpa using hd16)
            have heq := fun W => eq16 hd16 (unhide HRL) W
            rw [unhide HRA] at heq
            obtain ⟨da, hda⟩ : ∃ x, (d.map u8v).toArray = x := ⟨_, rfl⟩
            rw [hda] at HX heq
            have HB := hide (show Blk wr g5 23 da from by rw [← hda]; exact (unhide HUp).cell)
            rw [← unhide HE] at heq
            clear HE hd hd16 hda
            go_wp2_with (first
              | (refine wpList_loadB (ty := 23) (t := 23) (x := .tmp 13) rfl rfl digest_wide rfl (unhide HB) (unhide HX) ?_)
              | (refine wpList_loadB (ty := 23) (t := 23) (x := .tmp 5) rfl rfl digest_wide rfl (unhide HUp).root (unhide HSZ).1 ?_))
            go_ret
            exact ⟨rfl, (unhide HUp).ext⟩
      · have hkI : ¬ (k : Int) = (ps.length : Int) := by omega
        have HF := hide (show res = false from by rw [unhide HV, decide_eq_false (show ¬ (sidesS n i).length = ps.length from by rw [← unhide HST, (unhide HI).1]; exact hkp)]; simp)
        obtain rfl : res = false := unhide HF
        clear HF
        go_wp2
        go_ret
        exact ⟨rfl, (unhide HZ).1.trans (unhide HI).2.2.2⟩

end Go.Proofs.YtplkplegjoabgaaGreatDoor
