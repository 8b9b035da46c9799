/-
  Several texts in one file: each has its own heading below.
-/
import Derived.Test.YtplkplegjoabgaaGreatDoorQzG
import Derived.Deep.RegionLaw
import Derived.Deep.Cut
import Derived.Test.YtplkplegjoabgaaGreatDoorQzE
import Derived.Test.YtplkplegjoabgaaGreatDoorQzD
import Derived.Test.YtplkplegjoabgaaGreatDoorCards
import Derived.Test.YtplkplegjoabgaaGreatDoorTie
import Derived.Test.YtplkplegjoabgaaGreatDoorQzF
import Derived.WalkKit
import Derived.ProofKit
import Derived.OpenShut
import Derived.ShutString
import Derived.ChangeOld
import Derived.Lib.SmallJoins
import Derived.Deep.Slices
import Derived.Deep.DeepHandedRow
import Derived.Lib.LaidTab
import Derived.Stop.LaidErr
import Derived.Laws.Bits128

/-
  Merkle trees: the digests of a leaf and of a node, the split, of the program and of the reference.
-/
namespace Go.Proofs.YtplkplegjoabgaaGreatDoor
open Go.RowKit

set_option maxRecDepth 100000 in
set_option maxHeartbeats 2000000 in
theorem leaf_any (d : List UInt8) (w : World) (hM : ShaMem w) (hd : d.length = 16) :
    Calls Tryz.prog 118 #[.agg (d.map u8v).toArray] w fun e w' => e = .returned (.agg ((leafS d).map u8v).toArray) ∧ Ext w w' := by
  have HD := hide (fun (W : World) (pv : Value) (hE : Ext w W) (h1 : Reads W 1 pv 1 [.slice (some ⟨w.heap.size, 0, none⟩) 16 16]) (h3 : Blk W w.heap.size 23 (d.map u8v).toArray) =>
    digest_any 1 [d] pv W (hM.ext hE) (Parts.one h1 (h3.digR hd)) (by simp) (fun p hp => by simp at hp; subst hp; omega))
  obtain ⟨arr, harr⟩ : ∃ r, (d.map u8v).toArray = r := ⟨_, rfl⟩
  rw [harr] at HD ⊢
  have HR := hide (And.intro (show digestS 1 [d] = leafS d from rfl) (leafS_length d))
  obtain ⟨res, hres⟩ : ∃ r, leafS d = r := ⟨_, rfl⟩
  rw [hres] at HR ⊢
  clear harr hres hd
  go_enter Tryz.func118, Tryz.ntmps118
  go_wp2_with (first
    | (go_at_call 96; refine (unhide HD _ _ ((((Ext.refl w).alloc _).alloc _).alloc _) (Reads.new1' _ _ _ (g := w.heap.size + 1 + 1) (by simp)) (((Blk.new w _ _).alloc _).alloc _)).mono ?_; rintro e w5 ⟨rfl, hE5⟩; rw [(unhide HR).1]; have H5 := hide (And.intro (((((Ext.refl w).alloc _).alloc _).alloc _).trans hE5) (((Blk.new' (w.alloc (.cells arr 23)) 23 (Array.replicate 16 (.int .u8 0)) (g := w.heap.size + 1) (by simp)).alloc _).ext hE5)); clear hE5)
    | (refine wpList_storeB (ty := 23) (t := 23) (x := .tmp 2) (y := .tmp 5) rfl rfl digest_wide rfl rfl (unhide H5).2 rfl (by simpa using (unhide HR).2) (bytes_one _) ?_; intro w7 hb7 hc7 hz7; have H7 := hide (And.intro hb7 hc7); clear hb7 hc7 hz7))
  refine bodyPost_ret (v := .agg (res.map u8v).toArray) (results_blk digest_wide rfl (unhide H7).1 (by simpa using (unhide HR).2) rfl) rfl ⟨rfl, ?_⟩
  exact (unhide H5).1.trans' (unhide H7).2 (fun _ _ h => h) (fun i hi e => by omega)
set_option maxRecDepth 100000 in
set_option maxHeartbeats 2000000 in
theorem rleaf_any (d : List UInt8) (w : World)  (hd : d.length = 16) :
    Calls Tryz.prog 73 #[.agg (d.map u8v).toArray] w fun e w' => e = .returned (.agg ((leafS d).map u8v).toArray) ∧ Ext w w' := by
  have HD := hide (fun (W : World) (pv : Value) (hE : Ext w W) (h1 : Reads W 1 pv 1 [.slice (some ⟨w.heap.size, 0, none⟩) 16 16]) (h3 : Blk W w.heap.size 23 (d.map u8v).toArray) =>
    rdigest_any 1 [d] pv W  (Parts.one h1 (h3.digR hd)) (by simp) (fun p hp => by simp at hp; subst hp; omega))
  obtain ⟨arr, harr⟩ : ∃ r, (d.map u8v).toArray = r := ⟨_, rfl⟩
  rw [harr] at HD ⊢
  have HR := hide (And.intro (show digestS 1 [d] = leafS d from rfl) (leafS_length d))
  obtain ⟨res, hres⟩ : ∃ r, leafS d = r := ⟨_, rfl⟩
  rw [hres] at HR ⊢
  clear harr hres hd
  go_enter Tryz.func73, Tryz.ntmps73
  go_wp2_with (first
    | (go_at_call 72; refine (unhide HD _ _ ((((Ext.refl w).alloc _).alloc _).alloc _) (Reads.new1' _ _ _ (g := w.heap.size + 1 + 1) (by simp)) (((Blk.new w _ _).alloc _).alloc _)).mono ?_; rintro e w5 ⟨rfl, hE5⟩; rw [(unhide HR).1]; have H5 := hide (And.intro (((((Ext.refl w).alloc _).alloc _).alloc _).trans hE5) (((Blk.new' (w.alloc (.cells arr 23)) 23 (Array.replicate 16 (.int .u8 0)) (g := w.heap.size + 1) (by simp)).alloc _).ext hE5)); clear hE5)
    | (refine wpList_storeB (ty := 23) (t := 23) (x := .tmp 2) (y := .tmp 5) rfl rfl digest_wide rfl rfl (unhide H5).2 rfl (by simpa using (unhide HR).2) (bytes_one _) ?_; intro w7 hb7 hc7 hz7; have H7 := hide (And.intro hb7 hc7); clear hb7 hc7 hz7))
  refine bodyPost_ret (v := .agg (res.map u8v).toArray) (results_blk digest_wide rfl (unhide H7).1 (by simpa using (unhide HR).2) rfl) rfl ⟨rfl, ?_⟩
  exact (unhide H5).1.trans' (unhide H7).2 (fun _ _ h => h) (fun i hi e => by omega)
set_option maxRecDepth 100000 in
set_option maxHeartbeats 2000000 in
theorem node_any (l r : List UInt8) (w : World) (hM : ShaMem w) (hl : l.length = 16) (hr : r.length = 16) :
    Calls Tryz.prog 120 #[.agg (l.map u8v).toArray, .agg (r.map u8v).toArray] w fun e w' => e = .returned (.agg ((nodeS l r).map u8v).toArray) ∧ Ext w w' := by
  have HD := hide (fun (W : World) (pv : Value) (hE : Ext w W) (h1 : Reads W 1 pv 2 [.slice (some ⟨w.heap.size, 0, none⟩) 16 16, .slice (some ⟨w.heap.size + 1, 0, none⟩) 16 16]) (h3 : Blk W w.heap.size 23 (l.map u8v).toArray) (h4 : Blk W (w.heap.size + 1) 23 (r.map u8v).toArray) =>
    digest_any 2 [l, r] pv W (hM.ext hE) (Parts.two h1 (h3.digR hl) (h4.digR hr)) (by simp) (fun p hp => by simp at hp; rcases hp with rfl | rfl <;> omega))
  obtain ⟨la, hla⟩ : ∃ x, (l.map u8v).toArray = x := ⟨_, rfl⟩
  obtain ⟨ra, hra⟩ : ∃ x, (r.map u8v).toArray = x := ⟨_, rfl⟩
  rw [hla, hra] at HD ⊢
  have HR := hide (And.intro (show digestS 2 [l, r] = nodeS l r from rfl) (nodeS_length l r))
  obtain ⟨res, hres⟩ : ∃ x, nodeS l r = x := ⟨_, rfl⟩
  rw [hres] at HR ⊢
  clear hla hra hres hl hr
  go_enter Tryz.func120, Tryz.ntmps120
  go_upto_region 1 with fail
  refine wp_region_held_drew (S := fun _ => True) (by kernel_rfl) trivial (fun hHeld => ?_)
  refine wpAnyH_take (i := 0) (oi := _) (v := ?_) rfl (by kernel_rfl) (by kernel_rfl) (by kernel_rfl) (fun _ _ _ h => h) (Or.inl ⟨by rfl, fun wz hSz => ?_⟩) (by assumption) ?_
  rotate_left
  · (first | (go_simp; done) | (go_simp; with_reducible rfl))
  try simp only [Act.put, List.setIfInBounds_toArray, List.set_cons_zero, List.set_cons_succ, List.getElem_toArray, List.getElem_cons_zero]
  refine wpAnyH_take (i := 1) (oi := _) (v := ?_) rfl (by kernel_rfl) (by kernel_rfl) (by kernel_rfl) (fun _ _ _ h => h) (Or.inl ⟨by rfl, fun wz hSz => ?_⟩) (by assumption) ?_
  rotate_left
  · (first | (go_simp; done) | (go_simp; with_reducible rfl))
  try simp only [Act.put, List.setIfInBounds_toArray, List.set_cons_zero, List.set_cons_succ, List.getElem_toArray, List.getElem_cons_succ, List.getElem_cons_zero]
  refine wpAnyH_ready (rs := [2]) (by kernel_rfl) (by simp) (AllReadyH.cons (o := _) rfl (fun K hK => ?_) AllReadyH.nil)
  try go_simp
  (have hS : True := trivial; clear hHeld)
  refine hK.out _ _ ?_ (fun hHeld => ?_)
  · exact hS
  clear hK K
  try simp only [Act.put, List.setIfInBounds_toArray, List.set_cons_zero, List.set_cons_succ, List.getElem_toArray, List.getElem_cons_succ, List.getElem_cons_zero]
  refine wpAnyH_ready (rs := [3]) (by kernel_rfl) (by simp) (AllReadyH.cons (o := _) rfl (fun K hK => ?_) AllReadyH.nil)
  try go_simp
  (refine (unhide HD _ _ (((((Ext.refl w).alloc _).alloc _).alloc _).alloc _).drew ((Reads.new2 _ _ _ _ (g := w.heap.size + 1 + 1 + 1) (by simp)).ext (Ext.refl _).drew) (((((Blk.new w _ _).alloc _).alloc _).alloc _).drew) ((((Blk.new' _ _ _ (by simp)).alloc _).alloc _).drew)).mono ?_; rintro e w3 ⟨rfl, hE3⟩; rw [(unhide HR).1]; have H3 := hide (And.intro ((((((Ext.refl w).alloc _).alloc _).alloc _).alloc _).drew.trans hE3) ((((Blk.new' ((w.alloc (.cells la 23)).alloc (.cells ra 23)) 23 (Array.replicate 16 (.int .u8 0)) (g := w.heap.size + 1 + 1) (by simp)).alloc _).drew).ext hE3)); have hS : True := trivial; clear hHeld hE3)
  refine hK.out _ _ ?_ (fun hHeld => ?_)
  · exact hS
  clear hK K
  try simp only [Act.put, List.setIfInBounds_toArray, List.set_cons_zero, List.set_cons_succ, List.getElem_toArray, List.getElem_cons_succ, List.getElem_cons_zero]
  refine wpAnyH_ready (rs := [4]) (by kernel_rfl) (by simp) (AllReadyH.cons (o := _) rfl (fun K hK => ?_) AllReadyH.nil)
  (refine step_storeB (ty := 23) (t := 23) (x := .tmp 4) (y := .tmp 8) rfl rfl digest_wide rfl rfl (unhide H3).2 rfl (by simpa using (unhide HR).2) (bytes_one _) ?_; intro w7 hb7 hc7 hz7; have H7 := hide (And.intro hb7 (Chg.trans' (unhide H3).1 hc7 (fun _ _ h => h) (fun i hi e => by omega))); have hS : True := trivial; clear hHeld hb7 hc7 hz7)
  refine hK.out _ _ ?_ (fun hHeld => ?_)
  · exact hS
  clear hK K
  try simp only [Act.put, List.getElem_toArray, List.getElem_cons_succ, List.getElem_cons_zero]
  refine wpAnyH_done (by kernel_rfl) ?_ _
  go_wp2
  refine bodyPost_ret (v := .agg (res.map u8v).toArray) (results_blk digest_wide rfl (unhide H7).1 (by simpa using (unhide HR).2) rfl) rfl ⟨rfl, ?_⟩
  exact (unhide H7).2
set_option maxRecDepth 100000 in
set_option maxHeartbeats 2000000 in
theorem rnode_any (l r : List UInt8) (w : World)  (hl : l.length = 16) (hr : r.length = 16) :
    Calls Tryz.prog 75 #[.agg (l.map u8v).toArray, .agg (r.map u8v).toArray] w fun e w' => e = .returned (.agg ((nodeS l r).map u8v).toArray) ∧ Ext w w' := by
  have HD := hide (fun (W : World) (pv : Value) (hE : Ext w W) (h1 : Reads W 1 pv 2 [.slice (some ⟨w.heap.size, 0, none⟩) 16 16, .slice (some ⟨w.heap.size + 1, 0, none⟩) 16 16]) (h3 : Blk W w.heap.size 23 (l.map u8v).toArray) (h4 : Blk W (w.heap.size + 1) 23 (r.map u8v).toArray) =>
    rdigest_any 2 [l, r] pv W  (Parts.two h1 (h3.digR hl) (h4.digR hr)) (by simp) (fun p hp => by simp at hp; rcases hp with rfl | rfl <;> omega))
  obtain ⟨la, hla⟩ : ∃ x, (l.map u8v).toArray = x := ⟨_, rfl⟩
  obtain ⟨ra, hra⟩ : ∃ x, (r.map u8v).toArray = x := ⟨_, rfl⟩
  rw [hla, hra] at HD ⊢
  have HR := hide (And.intro (show digestS 2 [l, r] = nodeS l r from rfl) (nodeS_length l r))
  obtain ⟨res, hres⟩ : ∃ x, nodeS l r = x := ⟨_, rfl⟩
  rw [hres] at HR ⊢
  clear hla hra hres hl hr
  go_enter Tryz.func75, Tryz.ntmps75
  go_upto_region 1 with fail
  refine wp_region_held_drew (S := fun _ => True) (by kernel_rfl) trivial (fun hHeld => ?_)
  refine wpAnyH_take (i := 0) (oi := _) (v := ?_) rfl (by kernel_rfl) (by kernel_rfl) (by kernel_rfl) (fun _ _ _ h => h) (Or.inl ⟨by rfl, fun wz hSz => ?_⟩) (by assumption) ?_
  rotate_left
  · (first | (go_simp; done) | (go_simp; with_reducible rfl))
  try simp only [Act.put, List.setIfInBounds_toArray, List.set_cons_zero, List.set_cons_succ, List.getElem_toArray, List.getElem_cons_zero]
  refine wpAnyH_take (i := 1) (oi := _) (v := ?_) rfl (by kernel_rfl) (by kernel_rfl) (by kernel_rfl) (fun _ _ _ h => h) (Or.inl ⟨by rfl, fun wz hSz => ?_⟩) (by assumption) ?_
  rotate_left
  · (first | (go_simp; done) | (go_simp; with_reducible rfl))
  try simp only [Act.put, List.setIfInBounds_toArray, List.set_cons_zero, List.set_cons_succ, List.getElem_toArray, List.getElem_cons_succ, List.getElem_cons_zero]
  refine wpAnyH_ready (rs := [2]) (by kernel_rfl) (by simp) (AllReadyH.cons (o := _) rfl (fun K hK => ?_) AllReadyH.nil)
  try go_simp
  (have hS : True := trivial; clear hHeld)
  refine hK.out _ _ ?_ (fun hHeld => ?_)
  · exact hS
  clear hK K
  try simp only [Act.put, List.setIfInBounds_toArray, List.set_cons_zero, List.set_cons_succ, List.getElem_toArray, List.getElem_cons_succ, List.getElem_cons_zero]
  refine wpAnyH_ready (rs := [3]) (by kernel_rfl) (by simp) (AllReadyH.cons (o := _) rfl (fun K hK => ?_) AllReadyH.nil)
  try go_simp
  (refine (unhide HD _ _ (((((Ext.refl w).alloc _).alloc _).alloc _).alloc _).drew ((Reads.new2 _ _ _ _ (g := w.heap.size + 1 + 1 + 1) (by simp)).ext (Ext.refl _).drew) (((((Blk.new w _ _).alloc _).alloc _).alloc _).drew) ((((Blk.new' _ _ _ (by simp)).alloc _).alloc _).drew)).mono ?_; rintro e w3 ⟨rfl, hE3⟩; rw [(unhide HR).1]; have H3 := hide (And.intro ((((((Ext.refl w).alloc _).alloc _).alloc _).alloc _).drew.trans hE3) ((((Blk.new' ((w.alloc (.cells la 23)).alloc (.cells ra 23)) 23 (Array.replicate 16 (.int .u8 0)) (g := w.heap.size + 1 + 1) (by simp)).alloc _).drew).ext hE3)); have hS : True := trivial; clear hHeld hE3)
  refine hK.out _ _ ?_ (fun hHeld => ?_)
  · exact hS
  clear hK K
  try simp only [Act.put, List.setIfInBounds_toArray, List.set_cons_zero, List.set_cons_succ, List.getElem_toArray, List.getElem_cons_succ, List.getElem_cons_zero]
  refine wpAnyH_ready (rs := [4]) (by kernel_rfl) (by simp) (AllReadyH.cons (o := _) rfl (fun K hK => ?_) AllReadyH.nil)
  (refine step_storeB (ty := 23) (t := 23) (x := .tmp 4) (y := .tmp 8) rfl rfl digest_wide rfl rfl (unhide H3).2 rfl (by simpa using (unhide HR).2) (bytes_one _) ?_; intro w7 hb7 hc7 hz7; have H7 := hide (And.intro hb7 (Chg.trans' (unhide H3).1 hc7 (fun _ _ h => h) (fun i hi e => by omega))); have hS : True := trivial; clear hHeld hb7 hc7 hz7)
  refine hK.out _ _ ?_ (fun hHeld => ?_)
  · exact hS
  clear hK K
  try simp only [Act.put, List.getElem_toArray, List.getElem_cons_succ, List.getElem_cons_zero]
  refine wpAnyH_done (by kernel_rfl) ?_ _
  go_wp2
  refine bodyPost_ret (v := .agg (res.map u8v).toArray) (results_blk digest_wide rfl (unhide H7).1 (by simpa using (unhide HR).2) rfl) rfl ⟨rfl, ?_⟩
  exact (unhide H7).2

/-- The loop of the split: as many steps as are left. -/
theorem split_exit (f k n : Nat) (h : ¬ k < n - k) : splitF f k n = k := by
  cases f with
  | zero => rfl
  | succ f => rw [splitF, if_neg h]
theorem split_step (f k n : Nat) (h : k < n - k) (hk : 0 < k) (hf : n ≤ f + k) : ∃ g, n ≤ g + 2 * k ∧ splitF g (2 * k) n = splitF f k n := by
  cases f with
  | zero => omega
  | succ f => exact ⟨f, by omega, by rw [splitF, if_pos h]⟩
set_option maxHeartbeats 1000000 in
theorem split_any (n : Nat) (w : World) (h1 : 1 < n) (h2 : n ≤ 1000000) : Calls Tryz.prog 119 #[.int .i64 (n : Int)] w fun e w' => e = .returned (.int .i64 ((splitS n : Nat) : Int)) ∧ w = w' := by
  have HB := hide (show splitF n 1 n = splitS n from rfl)
  go_enter Tryz.func119, Tryz.ntmps119
  go_wp2
  go_loop [3] (fun x => ∃ k : Nat, 0 < k ∧ k < n ∧ x = .int .i64 k ∧ Hid (∃ f, n ≤ f + k ∧ splitF f k n = splitS n)) (fun x => n - (intOf x).toNat)
  case atStart => exact ⟨1, by omega, h1, rfl, hide ⟨n, by omega, unhide HB⟩⟩
  case round =>
    obtain ⟨k, hk0, hk, rfl, HF⟩ := hrel
    by_cases hlt : k < n - k
    · have hltI : (k : Int) < (n : Int) - k := by omega
      go_wp2
      go_round
      case rel =>
        obtain ⟨f, hf, he⟩ := unhide HF
        obtain ⟨g, hg, hge⟩ := split_step f k n hlt hk0 hf
        exact ⟨2 * k, by omega, by omega, by go_num, hide ⟨g, hg, hge.trans he⟩⟩
      case measure => simp [intOf]; omega
    · have hltI : ¬ (k : Int) < (n : Int) - k := by omega
      go_wp2
      go_ret
      obtain ⟨f, hf, he⟩ := unhide HF
      rw [split_exit f k n hlt] at he
      exact ⟨ret_int (by omega), rfl⟩
set_option maxHeartbeats 1000000 in
theorem rsplit_any (n : Nat) (w : World) (h1 : 1 < n) (h2 : n ≤ 1000000) : Calls Tryz.prog 74 #[.int .i64 (n : Int)] w fun e w' => e = .returned (.int .i64 ((splitS n : Nat) : Int)) ∧ w = w' := by
  have HB := hide (show splitF n 1 n = splitS n from rfl)
  go_enter Tryz.func74, Tryz.ntmps74
  go_wp2
  go_loop [3] (fun x => ∃ k : Nat, 0 < k ∧ k < n ∧ x = .int .i64 k ∧ Hid (∃ f, n ≤ f + k ∧ splitF f k n = splitS n)) (fun x => n - (intOf x).toNat)
  case atStart => exact ⟨1, by omega, h1, rfl, hide ⟨n, by omega, unhide HB⟩⟩
  case round =>
    obtain ⟨k, hk0, hk, rfl, HF⟩ := hrel
    by_cases hlt : k < n - k
    · have hltI : (k : Int) < (n : Int) - k := by omega
      go_wp2
      go_round
      case rel =>
        obtain ⟨f, hf, he⟩ := unhide HF
        obtain ⟨g, hg, hge⟩ := split_step f k n hlt hk0 hf
        exact ⟨2 * k, by omega, by omega, by go_num, hide ⟨g, hg, hge.trans he⟩⟩
      case measure => simp [intOf]; omega
    · have hltI : ¬ (k : Int) < (n : Int) - k := by omega
      go_wp2
      go_ret
      obtain ⟨f, hf, he⟩ := unhide HF
      rw [split_exit f k n hlt] at he
      exact ⟨ret_int (by omega), rfl⟩

end Go.Proofs.YtplkplegjoabgaaGreatDoor

/-
  Merkle trees: the root, of the program and of the reference.
-/
namespace Go.Proofs.YtplkplegjoabgaaGreatDoor
open Go.RowKit

theorem take_eq (l : List (List UInt8)) (k : Nat) : (l.drop 0).take k = l.take k := by rw [List.drop_zero]
theorem drop_eq (l : List (List UInt8)) (k : Nat) : (l.drop k).take (l.length - k) = l.drop k := by rw [List.take_of_length_le (by rw [List.length_drop]; omega)]
/-- A tree of no or one leaf. -/
theorem rootS_nil : rootS [] = digestS 1 [] := rfl
theorem Digs.one {w : World} {v : Value} {d : List UInt8} (h : Digs w v [d]) : ∃ b o c, v = .slice (some ⟨b, o, none⟩) 1 c ∧ b < w.heap.size ∧ w.rangeAt b o (d.map u8v) := by
  obtain ⟨b, o, c, h1, _, _, h2, h3⟩ := h.at (k := 0) (by simp)
  exact ⟨b, o, c, h1, h2, by simpa using h3⟩
/-- The two parts of a list of more than one. -/
theorem Digs.parts {w : World} {v : Value} {ds : List (List UInt8)} (h : Digs w v ds) (hn : 1 < ds.length) {k : Nat} (h1 : 0 < k) (h2 : k < ds.length) : ∃ b o c, v = .slice (some ⟨b, o, none⟩) ds.length c ∧ ds.length ≤ c ∧ c ≤ maxLen ∧ b < w.heap.size ∧
    (∀ c', k ≤ c' → c' ≤ maxLen → Digs w (.slice (some ⟨b, o, none⟩) k c') (ds.take k)) ∧ (∀ c', ds.length - k ≤ c' → c' ≤ maxLen → Digs w (.slice (some ⟨b, o + k * 16, none⟩) (ds.length - k) c') (ds.drop k)) := by
  obtain ⟨b, o, c, rfl, hc1, hc2, hb, _⟩ := h.at (k := 0) (by omega)
  refine ⟨b, o, c, rfl, hc1, hc2, hb, fun c' h3 h4 => ?_, fun c' h3 h4 => ?_⟩
  · obtain ⟨b', o', c2, e, hD⟩ := h.sub 0 k c' (by omega) h1 h3 h4
    cases e
    rw [take_eq, Nat.zero_mul, Nat.add_zero] at hD
    exact hD
  · obtain ⟨b', o', c2, e, hD⟩ := h.sub k (ds.length - k) c' (by omega) (by omega) h3 h4
    cases e
    rw [drop_eq] at hD
    exact hD

set_option maxRecDepth 100000 in
set_option maxHeartbeats 4000000 in
theorem root_any (N : Nat) : ∀ (ds : List (List UInt8)) (v : Value) (w : World), ShaMem w → ds.length ≤ N → ds.length ≤ 100000 → Digs w v ds →
    Calls Tryz.prog 89 #[v] w fun e w' => e = .returned (.agg ((rootS ds).map u8v).toArray) ∧ Ext w w' := by
  induction N with
  | zero =>
    intro ds v w hM hN _ hD
    obtain rfl : ds = [] := List.eq_nil_of_length_eq_zero (by omega)
    obtain ⟨A, c, rfl, _, _⟩ := hD.form
    have HG := hide (fun (W : World) (hE : Ext w W) => digest_any 1 [] (.slice none 0 0) W (hM.ext hE) (Parts.nil W) (by simp) (fun p hp => by cases hp))
    have HR := hide (And.intro (show digestS 1 [] = rootS [] from rfl) (rootS_length []))
    obtain ⟨res, hres⟩ : ∃ x, rootS [] = x := ⟨_, rfl⟩
    rw [hres] at HR ⊢
    clear hres hD
    go_enter Tryz.func89, Tryz.ntmps89
    go_wp2_with (first
      | (go_at_call 96; refine (unhide HG _ ((Ext.refl w).alloc _)).mono ?_; rintro e w5 ⟨rfl, hE5⟩; rw [(unhide HR).1]; have H5 := hide (And.intro (((Ext.refl w).alloc _).trans hE5) ((Blk.new w 23 (Array.replicate 16 (.int .u8 0))).ext hE5)); clear hE5)
      | (refine wpList_storeB (ty := 23) (t := 23) (x := .tmp 2) (y := .tmp 24) rfl rfl digest_wide rfl rfl (unhide H5).2 rfl (by simpa using (unhide HR).2) (bytes_one _) ?_; intro w7 hb7 hc7 hz7; have H7 := hide (And.intro hb7 hc7); clear hb7 hc7 hz7))
    refine bodyPost_ret (v := .agg (res.map u8v).toArray) (results_blk digest_wide rfl (unhide H7).1 (by simpa using (unhide HR).2) rfl) rfl ⟨rfl, ?_⟩
    exact (unhide H5).1.trans' (unhide H7).2 (fun _ _ h => h) (fun i hi e => by omega)
  | succ N ih =>
    intro ds v w hM hN h5 hD
    rcases (by omega : ds.length = 0 ∨ ds.length = 1 ∨ 1 < ds.length) with h | h | h
    · obtain rfl : ds = [] := List.eq_nil_of_length_eq_zero h
      obtain ⟨A, c, rfl, _, _⟩ := hD.form
      have HG := hide (fun (W : World) (hE : Ext w W) => digest_any 1 [] (.slice none 0 0) W (hM.ext hE) (Parts.nil W) (by simp) (fun p hp => by cases hp))
      have HR := hide (And.intro (show digestS 1 [] = rootS [] from rfl) (rootS_length []))
      obtain ⟨res, hres⟩ : ∃ x, rootS [] = x := ⟨_, rfl⟩
      rw [hres] at HR ⊢
      clear hres hD ih
      go_enter Tryz.func89, Tryz.ntmps89
      go_wp2_with (first
        | (go_at_call 96; refine (unhide HG _ ((Ext.refl w).alloc _)).mono ?_; rintro e w5 ⟨rfl, hE5⟩; rw [(unhide HR).1]; have H5 := hide (And.intro (((Ext.refl w).alloc _).trans hE5) ((Blk.new w 23 (Array.replicate 16 (.int .u8 0))).ext hE5)); clear hE5)
        | (refine wpList_storeB (ty := 23) (t := 23) (x := .tmp 2) (y := .tmp 24) rfl rfl digest_wide rfl rfl (unhide H5).2 rfl (by simpa using (unhide HR).2) (bytes_one _) ?_; intro w7 hb7 hc7 hz7; have H7 := hide (And.intro hb7 hc7); clear hb7 hc7 hz7))
      refine bodyPost_ret (v := .agg (res.map u8v).toArray) (results_blk digest_wide rfl (unhide H7).1 (by simpa using (unhide HR).2) rfl) rfl ⟨rfl, ?_⟩
      exact (unhide H5).1.trans' (unhide H7).2 (fun _ _ h => h) (fun i hi e => by omega)
    · obtain ⟨d, rfl⟩ : ∃ d, ds = [d] := by
        match ds, h with
        | [d], _ => exact ⟨d, rfl⟩
      have hd : d.length = 16 := hD.1 d (by simp)
      obtain ⟨b, o, c, rfl, hb, hR⟩ := hD.one
      have HG := hide (fun (W : World) (hE : Ext w W) => leaf_any d W (hM.ext hE) hd)
      have HR := hide (And.intro (rootS_one d) (rootS_length [d]))
      obtain ⟨res, hres⟩ : ∃ x, rootS [d] = x := ⟨_, rfl⟩
      rw [hres] at HR ⊢
      obtain ⟨cs, hcs⟩ : ∃ x, d.map u8v = x := ⟨_, rfl⟩
      have hcl : cs.length = 16 := by rw [← hcs]; simpa using hd
      rw [hcs] at HG hR
      have HA := hide (rangeAt_ext hR ((Ext.refl w).alloc (.cells (Array.replicate 16 (.int .u8 0)) 23)))
      clear hres hD ih hcs hR
      go_enter Tryz.func89, Tryz.ntmps89
      go_wp2_with (first
        | (refine wpList_loadMG (by rfl) (ty := 23) (x := .tmp 28) rfl digest_wide rfl (unhide HA) hcl ?_)
        | (go_at_call 118; refine (unhide HG _ ((Ext.refl w).alloc _)).mono ?_; rintro e w5 ⟨rfl, hE5⟩; rw [← (unhide HR).1]; have H5 := hide (And.intro (((Ext.refl w).alloc _).trans hE5) ((Blk.new w 23 (Array.replicate 16 (.int .u8 0))).ext hE5)); clear hE5)
        | (refine wpList_storeB (ty := 23) (t := 23) (x := .tmp 2) (y := .tmp 30) rfl rfl digest_wide rfl rfl (unhide H5).2 rfl (by simpa using (unhide HR).2) (bytes_one _) ?_; intro w7 hb7 hc7 hz7; have H7 := hide (And.intro hb7 hc7); clear hb7 hc7 hz7))
      refine bodyPost_ret (v := .agg (res.map u8v).toArray) (results_blk digest_wide rfl (unhide H7).1 (by simpa using (unhide HR).2) rfl) rfl ⟨rfl, ?_⟩
      exact (unhide H5).1.trans' (unhide H7).2 (fun _ _ h => h) (fun i hi e => by omega)
    · have hb := splitS_bounds ds.length h
      have HSp := hide (fun W => split_any ds.length W h (by omega))
      obtain ⟨b, o, c, rfl, hc1, hc2, hbl, hL, hRt⟩ := hD.parts h hb.1 hb.2
      have e16 : 16 = 16 := rfl
      have hll : (ds.take (splitS ds.length)).length = splitS ds.length := by rw [List.length_take]; omega
      have hrl : (ds.drop (splitS ds.length)).length = ds.length - splitS ds.length := by rw [List.length_drop]
      have HA := hide (fun (W : World) (hE : Ext w W) => ih (ds.take (splitS ds.length)) (.slice (some ⟨b, o, none⟩) (splitS ds.length) (splitS ds.length)) W (hM.ext hE) (by omega) (by omega) ((hL (splitS ds.length) (by omega) (by omega)).ext hE))
      have HB := hide (fun (W : World) (hE : Ext w W) => ih (ds.drop (splitS ds.length)) (.slice (some ⟨b, o + splitS ds.length * 16, none⟩) (ds.length - splitS ds.length) (ds.length - splitS ds.length)) W (hM.ext hE) (by omega) (by omega) ((hRt (ds.length - splitS ds.length) (by omega) (by omega)).ext hE))
      have HN := hide (fun (W : World) (hE : Ext w W) => node_any (rootS (ds.take (splitS ds.length))) (rootS (ds.drop (splitS ds.length))) W (hM.ext hE) (rootS_length _) (rootS_length _))
      have HR := hide (And.intro (rootS_two ds h) (rootS_length ds))
      obtain ⟨res, hres⟩ : ∃ x, rootS ds = x := ⟨_, rfl⟩
      rw [hres] at HR ⊢
      generalize splitS ds.length = k at *
      generalize rootS (ds.take k) = ra at *
      generalize rootS (ds.drop k) = rb at *
      generalize ds.length = n at *
      unfold maxLen at hc2
      have hk1 : k ≤ n := by omega
      have hk2 : k ≤ c := by omega
      have hk3 : ¬ n = k := by omega
      have hk4 : ¬ c = k := by omega
      clear hres hD ih hL hRt hll hrl
      go_enter Tryz.func89, Tryz.ntmps89
      go_upto_region 4 with (go_at_call 119; refine (unhide HSp _).mono ?_; rintro e w1 ⟨rfl, rfl⟩)
      refine wp_region_held_drew (S := fun _ => True) (by kernel_rfl) trivial (fun hHeld => ?_)
      refine wpAnyH_take (i := 0) (oi := _) (v := ?_) rfl (by kernel_rfl) (by kernel_rfl) (by kernel_rfl) (fun _ _ _ h => h) (Or.inl ⟨by rfl, fun wz hSz => ?_⟩) (by assumption) ?_
      rotate_left
      · (first | (go_simp; done) | (go_simp; with_reducible rfl))
      try simp only [Act.put, List.setIfInBounds_toArray, List.set_cons_zero, List.set_cons_succ, List.getElem_toArray, List.getElem_cons_zero]
      refine wpAnyH_take (i := 1) (oi := _) (v := ?_) rfl (by kernel_rfl) (by kernel_rfl) (by kernel_rfl) (fun _ _ _ h => h) (Or.inl ⟨by rfl, fun wz hSz => ?_⟩) (by assumption) ?_
      rotate_left
      · (first | (go_simp; done) | (go_simp; with_reducible rfl))
      try simp only [Act.put, List.setIfInBounds_toArray, List.set_cons_zero, List.set_cons_succ, List.getElem_toArray, List.getElem_cons_succ, List.getElem_cons_zero]
      refine wpAnyH_take (i := 2) (oi := _) (v := ?_) rfl (by kernel_rfl) (by kernel_rfl) (by kernel_rfl) (fun _ _ _ h => h) (Or.inl ⟨by rfl, fun wz hSz => ?_⟩) (by assumption) ?_
      rotate_left
      · (first | (go_simp; done) | (go_simp; with_reducible rfl))
      try simp only [Act.put, List.setIfInBounds_toArray, List.set_cons_zero, List.set_cons_succ, List.getElem_toArray, List.getElem_cons_succ, List.getElem_cons_zero]
      refine wpAnyH_take (i := 3) (oi := _) (v := ?_) rfl (by kernel_rfl) (by kernel_rfl) (by kernel_rfl) (fun _ _ _ h => h) (Or.inl ⟨by rfl, fun wz hSz => ?_⟩) (by assumption) ?_
      rotate_left
      · (first | (go_simp; done) | (go_simp; with_reducible rfl))
      try simp only [Act.put, List.setIfInBounds_toArray, List.set_cons_zero, List.set_cons_succ, List.getElem_toArray, List.getElem_cons_succ, List.getElem_cons_zero]
      refine wpAnyH_take (i := 5) (oi := _) (v := ?_) rfl (by kernel_rfl) (by kernel_rfl) (by kernel_rfl) (fun _ _ _ h => h) (Or.inl ⟨by rfl, fun wz hSz => ?_⟩) (by assumption) ?_
      rotate_left
      · (first | (go_simp; done) | (go_simp; with_reducible rfl))
      try simp only [Act.put, List.setIfInBounds_toArray, List.set_cons_zero, List.set_cons_succ, List.getElem_toArray, List.getElem_cons_succ, List.getElem_cons_zero]
      refine wpAnyH_take (i := 6) (oi := _) (v := ?_) rfl (by kernel_rfl) (by kernel_rfl) (by kernel_rfl) (fun _ _ _ h => h) (Or.inl ⟨by rfl, fun wz hSz => ?_⟩) (by assumption) ?_
      rotate_left
      · (first | (go_simp; done) | (go_simp; with_reducible rfl))
      try simp only [Act.put, List.setIfInBounds_toArray, List.set_cons_zero, List.set_cons_succ, List.getElem_toArray, List.getElem_cons_succ, List.getElem_cons_zero]
      refine wpAnyH_take (i := 7) (oi := _) (v := ?_) rfl (by kernel_rfl) (by kernel_rfl) (by kernel_rfl) (fun _ _ _ h => h) (Or.inl ⟨by rfl, fun wz hSz => ?_⟩) (by assumption) ?_
      rotate_left
      · (first | (go_simp; done) | (go_simp; with_reducible rfl))
      try simp only [Act.put, List.setIfInBounds_toArray, List.set_cons_zero, List.set_cons_succ, List.getElem_toArray, List.getElem_cons_succ, List.getElem_cons_zero]
      refine wpAnyH_take (i := 8) (oi := _) (v := ?_) rfl (by kernel_rfl) (by kernel_rfl) (by kernel_rfl) (fun _ _ _ h => h) (Or.inl ⟨by rfl, fun wz hSz => ?_⟩) (by assumption) ?_
      rotate_left
      · (first | (go_simp; done) | (go_simp; with_reducible rfl))
      try simp only [Act.put, List.setIfInBounds_toArray, List.set_cons_zero, List.set_cons_succ, List.getElem_toArray, List.getElem_cons_succ, List.getElem_cons_zero]
      refine wpAnyH_take (i := 9) (oi := _) (v := ?_) rfl (by kernel_rfl) (by kernel_rfl) (by kernel_rfl) (fun _ _ _ h => h) (Or.inl ⟨by rfl, fun wz hSz => ?_⟩) (by assumption) ?_
      rotate_left
      · (first | (go_simp; done) | (go_simp; with_reducible rfl))
      try simp only [Act.put, List.setIfInBounds_toArray, List.set_cons_zero, List.set_cons_succ, List.getElem_toArray, List.getElem_cons_succ, List.getElem_cons_zero]
      refine wpAnyH_ready (rs := [4]) (by kernel_rfl) (by simp) (AllReadyH.cons (o := _) rfl (fun K hK => ?_) AllReadyH.nil)
      try go_simp
      (refine (unhide HA _ (((Ext.refl w).alloc _).drew)).mono ?_; rintro e w3 ⟨rfl, hE3⟩; have H3 := hide (And.intro ((((Ext.refl w).alloc _).drew).trans hE3) (((Blk.new w 23 (Array.replicate 16 (.int .u8 0))).drew).ext hE3)); have hS : True := trivial; clear hHeld hE3)
      refine hK.out _ _ ?_ (fun hHeld => ?_)
      · exact hS
      clear hK K
      try simp only [Act.put, List.setIfInBounds_toArray, List.set_cons_zero, List.set_cons_succ, List.getElem_toArray, List.getElem_cons_succ, List.getElem_cons_zero]
      refine wpAnyH_ready (rs := [10]) (by kernel_rfl) (by simp) (AllReadyH.cons (o := _) rfl (fun K hK => ?_) AllReadyH.nil)
      try go_simp
      (refine (unhide HB _ (unhide H3).1).mono ?_; rintro e w4 ⟨rfl, hE4⟩; have H4 := hide (And.intro ((unhide H3).1.trans hE4) ((unhide H3).2.ext hE4)); have hS : True := trivial; clear hHeld hE4 H3)
      refine hK.out _ _ ?_ (fun hHeld => ?_)
      · exact hS
      clear hK K
      try simp only [Act.put, List.setIfInBounds_toArray, List.set_cons_zero, List.set_cons_succ, List.getElem_toArray, List.getElem_cons_succ, List.getElem_cons_zero]
      refine wpAnyH_ready (rs := [11]) (by kernel_rfl) (by simp) (AllReadyH.cons (o := _) rfl (fun K hK => ?_) AllReadyH.nil)
      try go_simp
      (refine (unhide HN _ (unhide H4).1).mono ?_; rintro e w5 ⟨rfl, hE5⟩; rw [← (unhide HR).1]; have H5 := hide (And.intro ((unhide H4).1.trans hE5) ((unhide H4).2.ext hE5)); have hS : True := trivial; clear hHeld hE5 H4)
      refine hK.out _ _ ?_ (fun hHeld => ?_)
      · exact hS
      clear hK K
      try simp only [Act.put, List.setIfInBounds_toArray, List.set_cons_zero, List.set_cons_succ, List.getElem_toArray, List.getElem_cons_succ, List.getElem_cons_zero]
      refine wpAnyH_ready (rs := [12]) (by kernel_rfl) (by simp) (AllReadyH.cons (o := _) rfl (fun K hK => ?_) AllReadyH.nil)
      (refine step_storeB (ty := 23) (t := 23) (x := .tmp 2) (y := .tmp 21) rfl rfl digest_wide rfl rfl (unhide H5).2 rfl (by simpa using (unhide HR).2) (bytes_one _) ?_; intro w7 hb7 hc7 hz7; have H7 := hide (And.intro hb7 (Chg.trans' (unhide H5).1 hc7 (fun _ _ h => h) (fun i hi e => by omega))); have hS : True := trivial; clear hHeld hb7 hc7 hz7)
      refine hK.out _ _ ?_ (fun hHeld => ?_)
      · exact hS
      clear hK K
      try simp only [Act.put, List.getElem_toArray, List.getElem_cons_succ, List.getElem_cons_zero]
      refine wpAnyH_done (by kernel_rfl) ?_ _
      go_wp2
      refine bodyPost_ret (v := .agg (res.map u8v).toArray) (results_blk digest_wide rfl (unhide H7).1 (by simpa using (unhide HR).2) rfl) rfl ⟨rfl, ?_⟩
      exact (unhide H7).2
set_option maxRecDepth 100000 in
set_option maxHeartbeats 4000000 in
theorem rroot_any (N : Nat) : ∀ (ds : List (List UInt8)) (v : Value) (w : World),  ds.length ≤ N → ds.length ≤ 100000 → Digs w v ds →
    Calls Tryz.prog 37 #[v] w fun e w' => e = .returned (.agg ((rootS ds).map u8v).toArray) ∧ Ext w w' := by
  induction N with
  | zero =>
    intro ds v w  hN _ hD
    obtain rfl : ds = [] := List.eq_nil_of_length_eq_zero (by omega)
    obtain ⟨A, c, rfl, _, _⟩ := hD.form
    have HG := hide (fun (W : World) (hE : Ext w W) => rdigest_any 1 [] (.slice none 0 0) W  (Parts.nil W) (by simp) (fun p hp => by cases hp))
    have HR := hide (And.intro (show digestS 1 [] = rootS [] from rfl) (rootS_length []))
    obtain ⟨res, hres⟩ : ∃ x, rootS [] = x := ⟨_, rfl⟩
    rw [hres] at HR ⊢
    clear hres hD
    go_enter Tryz.func37, Tryz.ntmps37
    go_wp2_with (first
      | (go_at_call 72; refine (unhide HG _ ((Ext.refl w).alloc _)).mono ?_; rintro e w5 ⟨rfl, hE5⟩; rw [(unhide HR).1]; have H5 := hide (And.intro (((Ext.refl w).alloc _).trans hE5) ((Blk.new w 23 (Array.replicate 16 (.int .u8 0))).ext hE5)); clear hE5)
      | (refine wpList_storeB (ty := 23) (t := 23) (x := .tmp 2) (y := .tmp 7) rfl rfl digest_wide rfl rfl (unhide H5).2 rfl (by simpa using (unhide HR).2) (bytes_one _) ?_; intro w7 hb7 hc7 hz7; have H7 := hide (And.intro hb7 hc7); clear hb7 hc7 hz7))
    refine bodyPost_ret (v := .agg (res.map u8v).toArray) (results_blk digest_wide rfl (unhide H7).1 (by simpa using (unhide HR).2) rfl) rfl ⟨rfl, ?_⟩
    exact (unhide H5).1.trans' (unhide H7).2 (fun _ _ h => h) (fun i hi e => by omega)
  | succ N ih =>
    intro ds v w  hN h5 hD
    rcases (by omega : ds.length = 0 ∨ ds.length = 1 ∨ 1 < ds.length) with h | h | h
    · obtain rfl : ds = [] := List.eq_nil_of_length_eq_zero h
      obtain ⟨A, c, rfl, _, _⟩ := hD.form
      have HG := hide (fun (W : World) (hE : Ext w W) => rdigest_any 1 [] (.slice none 0 0) W  (Parts.nil W) (by simp) (fun p hp => by cases hp))
      have HR := hide (And.intro (show digestS 1 [] = rootS [] from rfl) (rootS_length []))
      obtain ⟨res, hres⟩ : ∃ x, rootS [] = x := ⟨_, rfl⟩
      rw [hres] at HR ⊢
      clear hres hD ih
      go_enter Tryz.func37, Tryz.ntmps37
      go_wp2_with (first
        | (go_at_call 72; refine (unhide HG _ ((Ext.refl w).alloc _)).mono ?_; rintro e w5 ⟨rfl, hE5⟩; rw [(unhide HR).1]; have H5 := hide (And.intro (((Ext.refl w).alloc _).trans hE5) ((Blk.new w 23 (Array.replicate 16 (.int .u8 0))).ext hE5)); clear hE5)
        | (refine wpList_storeB (ty := 23) (t := 23) (x := .tmp 2) (y := .tmp 7) rfl rfl digest_wide rfl rfl (unhide H5).2 rfl (by simpa using (unhide HR).2) (bytes_one _) ?_; intro w7 hb7 hc7 hz7; have H7 := hide (And.intro hb7 hc7); clear hb7 hc7 hz7))
      refine bodyPost_ret (v := .agg (res.map u8v).toArray) (results_blk digest_wide rfl (unhide H7).1 (by simpa using (unhide HR).2) rfl) rfl ⟨rfl, ?_⟩
      exact (unhide H5).1.trans' (unhide H7).2 (fun _ _ h => h) (fun i hi e => by omega)
    · obtain ⟨d, rfl⟩ : ∃ d, ds = [d] := by
        match ds, h with
        | [d], _ => exact ⟨d, rfl⟩
      have hd : d.length = 16 := hD.1 d (by simp)
      obtain ⟨b, o, c, rfl, hb, hR⟩ := hD.one
      have HG := hide (fun (W : World) (hE : Ext w W) => rleaf_any d W  hd)
      have HR := hide (And.intro (rootS_one d) (rootS_length [d]))
      obtain ⟨res, hres⟩ : ∃ x, rootS [d] = x := ⟨_, rfl⟩
      rw [hres] at HR ⊢
      obtain ⟨cs, hcs⟩ : ∃ x, d.map u8v = x := ⟨_, rfl⟩
      have hcl : cs.length = 16 := by rw [← hcs]; simpa using hd
      rw [hcs] at HG hR
      have HA := hide (rangeAt_ext hR ((Ext.refl w).alloc (.cells (Array.replicate 16 (.int .u8 0)) 23)))
      clear hres hD ih hcs hR
      go_enter Tryz.func37, Tryz.ntmps37
      go_wp2_with (first
        | (refine wpList_loadMG (by rfl) (ty := 23) (x := .tmp 12) rfl digest_wide rfl (unhide HA) hcl ?_)
        | (go_at_call 73; refine (unhide HG _ ((Ext.refl w).alloc _)).mono ?_; rintro e w5 ⟨rfl, hE5⟩; rw [← (unhide HR).1]; have H5 := hide (And.intro (((Ext.refl w).alloc _).trans hE5) ((Blk.new w 23 (Array.replicate 16 (.int .u8 0))).ext hE5)); clear hE5)
        | (refine wpList_storeB (ty := 23) (t := 23) (x := .tmp 2) (y := .tmp 14) rfl rfl digest_wide rfl rfl (unhide H5).2 rfl (by simpa using (unhide HR).2) (bytes_one _) ?_; intro w7 hb7 hc7 hz7; have H7 := hide (And.intro hb7 hc7); clear hb7 hc7 hz7))
      refine bodyPost_ret (v := .agg (res.map u8v).toArray) (results_blk digest_wide rfl (unhide H7).1 (by simpa using (unhide HR).2) rfl) rfl ⟨rfl, ?_⟩
      exact (unhide H5).1.trans' (unhide H7).2 (fun _ _ h => h) (fun i hi e => by omega)
    · have hb := splitS_bounds ds.length h
      have HSp := hide (fun W => rsplit_any ds.length W h (by omega))
      obtain ⟨b, o, c, rfl, hc1, hc2, hbl, hL, hRt⟩ := hD.parts h hb.1 hb.2
      have e16 : 16 = 16 := rfl
      have hll : (ds.take (splitS ds.length)).length = splitS ds.length := by rw [List.length_take]; omega
      have hrl : (ds.drop (splitS ds.length)).length = ds.length - splitS ds.length := by rw [List.length_drop]
      have HA := hide (fun (W : World) (hE : Ext w W) => ih (ds.take (splitS ds.length)) (.slice (some ⟨b, o, none⟩) (splitS ds.length) c) W  (by omega) (by omega) ((hL c (by omega) (by omega)).ext hE))
      have HB := hide (fun (W : World) (hE : Ext w W) => ih (ds.drop (splitS ds.length)) (.slice (some ⟨b, o + splitS ds.length * 16, none⟩) (ds.length - splitS ds.length) (c - splitS ds.length)) W  (by omega) (by omega) ((hRt (c - splitS ds.length) (by omega) (by omega)).ext hE))
      have HN := hide (fun (W : World) (hE : Ext w W) => rnode_any (rootS (ds.take (splitS ds.length))) (rootS (ds.drop (splitS ds.length))) W  (rootS_length _) (rootS_length _))
      have HR := hide (And.intro (rootS_two ds h) (rootS_length ds))
      obtain ⟨res, hres⟩ : ∃ x, rootS ds = x := ⟨_, rfl⟩
      rw [hres] at HR ⊢
      generalize splitS ds.length = k at *
      generalize rootS (ds.take k) = ra at *
      generalize rootS (ds.drop k) = rb at *
      generalize ds.length = n at *
      unfold maxLen at hc2
      have hk1 : k ≤ n := by omega
      have hk2 : k ≤ c := by omega
      have hk3 : ¬ n = k := by omega
      have hk4 : ¬ c = k := by omega
      clear hres hD ih hL hRt hll hrl
      go_enter Tryz.func37, Tryz.ntmps37
      go_upto_region 6 with (go_at_call 74; refine (unhide HSp _).mono ?_; rintro e w1 ⟨rfl, rfl⟩)
      refine wp_region_held_drew (S := fun _ => True) (by kernel_rfl) trivial (fun hHeld => ?_)
      refine wpAnyH_take (i := 0) (oi := _) (v := ?_) rfl (by kernel_rfl) (by kernel_rfl) (by kernel_rfl) (fun _ _ _ h => h) (Or.inl ⟨by rfl, fun wz hSz => ?_⟩) (by assumption) ?_
      rotate_left
      · (first | (go_simp; done) | (go_simp; with_reducible rfl))
      try simp only [Act.put, List.setIfInBounds_toArray, List.set_cons_zero, List.set_cons_succ, List.getElem_toArray, List.getElem_cons_zero]
      refine wpAnyH_take (i := 1) (oi := _) (v := ?_) rfl (by kernel_rfl) (by kernel_rfl) (by kernel_rfl) (fun _ _ _ h => h) (Or.inl ⟨by rfl, fun wz hSz => ?_⟩) (by assumption) ?_
      rotate_left
      · (first | (go_simp; done) | (go_simp; with_reducible rfl))
      try simp only [Act.put, List.setIfInBounds_toArray, List.set_cons_zero, List.set_cons_succ, List.getElem_toArray, List.getElem_cons_succ, List.getElem_cons_zero]
      refine wpAnyH_take (i := 2) (oi := _) (v := ?_) rfl (by kernel_rfl) (by kernel_rfl) (by kernel_rfl) (fun _ _ _ h => h) (Or.inl ⟨by rfl, fun wz hSz => ?_⟩) (by assumption) ?_
      rotate_left
      · (first | (go_simp; done) | (go_simp; with_reducible rfl))
      try simp only [Act.put, List.setIfInBounds_toArray, List.set_cons_zero, List.set_cons_succ, List.getElem_toArray, List.getElem_cons_succ, List.getElem_cons_zero]
      refine wpAnyH_take (i := 4) (oi := _) (v := ?_) rfl (by kernel_rfl) (by kernel_rfl) (by kernel_rfl) (fun _ _ _ h => h) (Or.inl ⟨by rfl, fun wz hSz => ?_⟩) (by assumption) ?_
      rotate_left
      · (first | (go_simp; done) | (go_simp; with_reducible rfl))
      try simp only [Act.put, List.setIfInBounds_toArray, List.set_cons_zero, List.set_cons_succ, List.getElem_toArray, List.getElem_cons_succ, List.getElem_cons_zero]
      refine wpAnyH_take (i := 5) (oi := _) (v := ?_) rfl (by kernel_rfl) (by kernel_rfl) (by kernel_rfl) (fun _ _ _ h => h) (Or.inl ⟨by rfl, fun wz hSz => ?_⟩) (by assumption) ?_
      rotate_left
      · (first | (go_simp; done) | (go_simp; with_reducible rfl))
      try simp only [Act.put, List.setIfInBounds_toArray, List.set_cons_zero, List.set_cons_succ, List.getElem_toArray, List.getElem_cons_succ, List.getElem_cons_zero]
      refine wpAnyH_take (i := 6) (oi := _) (v := ?_) rfl (by kernel_rfl) (by kernel_rfl) (by kernel_rfl) (fun _ _ _ h => h) (Or.inl ⟨by rfl, fun wz hSz => ?_⟩) (by assumption) ?_
      rotate_left
      · (first | (go_simp; done) | (go_simp; with_reducible rfl))
      try simp only [Act.put, List.setIfInBounds_toArray, List.set_cons_zero, List.set_cons_succ, List.getElem_toArray, List.getElem_cons_succ, List.getElem_cons_zero]
      refine wpAnyH_ready (rs := [3]) (by kernel_rfl) (by simp) (AllReadyH.cons (o := _) rfl (fun K hK => ?_) AllReadyH.nil)
      try go_simp
      (refine (unhide HA _ (((Ext.refl w).alloc _).drew)).mono ?_; rintro e w3 ⟨rfl, hE3⟩; have H3 := hide (And.intro ((((Ext.refl w).alloc _).drew).trans hE3) (((Blk.new w 23 (Array.replicate 16 (.int .u8 0))).drew).ext hE3)); have hS : True := trivial; clear hHeld hE3)
      refine hK.out _ _ ?_ (fun hHeld => ?_)
      · exact hS
      clear hK K
      try simp only [Act.put, List.setIfInBounds_toArray, List.set_cons_zero, List.set_cons_succ, List.getElem_toArray, List.getElem_cons_succ, List.getElem_cons_zero]
      refine wpAnyH_ready (rs := [7]) (by kernel_rfl) (by simp) (AllReadyH.cons (o := _) rfl (fun K hK => ?_) AllReadyH.nil)
      try go_simp
      (refine (unhide HB _ (unhide H3).1).mono ?_; rintro e w4 ⟨rfl, hE4⟩; have H4 := hide (And.intro ((unhide H3).1.trans hE4) ((unhide H3).2.ext hE4)); have hS : True := trivial; clear hHeld hE4 H3)
      refine hK.out _ _ ?_ (fun hHeld => ?_)
      · exact hS
      clear hK K
      try simp only [Act.put, List.setIfInBounds_toArray, List.set_cons_zero, List.set_cons_succ, List.getElem_toArray, List.getElem_cons_succ, List.getElem_cons_zero]
      refine wpAnyH_ready (rs := [8]) (by kernel_rfl) (by simp) (AllReadyH.cons (o := _) rfl (fun K hK => ?_) AllReadyH.nil)
      try go_simp
      (refine (unhide HN _ (unhide H4).1).mono ?_; rintro e w5 ⟨rfl, hE5⟩; rw [← (unhide HR).1]; have H5 := hide (And.intro ((unhide H4).1.trans hE5) ((unhide H4).2.ext hE5)); have hS : True := trivial; clear hHeld hE5 H4)
      refine hK.out _ _ ?_ (fun hHeld => ?_)
      · exact hS
      clear hK K
      try simp only [Act.put, List.setIfInBounds_toArray, List.set_cons_zero, List.set_cons_succ, List.getElem_toArray, List.getElem_cons_succ, List.getElem_cons_zero]
      refine wpAnyH_ready (rs := [9]) (by kernel_rfl) (by simp) (AllReadyH.cons (o := _) rfl (fun K hK => ?_) AllReadyH.nil)
      (refine step_storeB (ty := 23) (t := 23) (x := .tmp 2) (y := .tmp 26) rfl rfl digest_wide rfl rfl (unhide H5).2 rfl (by simpa using (unhide HR).2) (bytes_one _) ?_; intro w7 hb7 hc7 hz7; have H7 := hide (And.intro hb7 (Chg.trans' (unhide H5).1 hc7 (fun _ _ h => h) (fun i hi e => by omega))); have hS : True := trivial; clear hHeld hb7 hc7 hz7)
      refine hK.out _ _ ?_ (fun hHeld => ?_)
      · exact hS
      clear hK K
      try simp only [Act.put, List.getElem_toArray, List.getElem_cons_succ, List.getElem_cons_zero]
      refine wpAnyH_done (by kernel_rfl) ?_ _
      go_wp2
      refine bodyPost_ret (v := .agg (res.map u8v).toArray) (results_blk digest_wide rfl (unhide H7).1 (by simpa using (unhide HR).2) rfl) rfl ⟨rfl, ?_⟩
      exact (unhide H7).2

end Go.Proofs.YtplkplegjoabgaaGreatDoor

/-
  The abstract machine: specifications of the functions of the lower layers, out of their contracts.
-/
namespace Go.Proofs.YtplkplegjoabgaaGreatDoor.Pv
open Go.RowKit

theorem u8w_v : u8w = u8v := rfl
theorem rl_bytes {C : Ctx} {k : Nat} {bs : List UInt8} {cs : Array Value} (h : RL C [.bs k bs] cs.toList) : bs.length = k ∧ cs = (bs.map u8v).toArray := by
  obtain ⟨h1, h2⟩ := h.bs1
  exact ⟨h1, by apply Array.ext'; simpa [u8w_v] using h2⟩
theorem rv_dig {C : Ctx} {k : Nat} {bs : List UInt8} {v : Value} (h : RV C (.w (.agg [.bs k bs])) v) : bs.length = k ∧ v = .agg (bs.map u8v).toArray := by
  cases h with
  | w h => cases h with
    | agg h =>
      obtain ⟨h1, h2⟩ := rl_bytes h
      exact ⟨h1, by rw [h2]⟩
theorem rv_of_dig {C : Ctx} {bs : List UInt8} {k : Nat} (h : bs.length = k) : RV C (.w (.agg [.bs k bs])) (.agg (bs.map u8v).toArray) :=
  .w (.agg (by simpa [u8w_v] using RL.cons (R.bs (C := C) h) RL.nil))
/-! ### Parts, one by one -/
def varN : Nat → (Nat → List PC) → (List (List UInt8) → M) → M
  | 0, _, k => k []
  | n + 1, f, k => varN n f fun l => (match f n with
    | [c] => bytesM (pv1 c) fun b => k (l ++ [b])
    | _ => .fail)
def varM (v : PV) (k : List (List UInt8) → M) : M := match v with
  | .w (.one (.ow x ver n off len)) => .obj x fun g vr ob => guardT g (match Nat.beq ver vr, Nat.beq n 1, Nat.beq off 0, ob with
    | true, true, true, .arr _ m tot f => (match Nat.beq n m, Nat.beq len tot with
      | true, true => varN len f k
      | _, _ => .fail)
    | _, _, _, _ => .fail)
  | .w (.one (.lit (.slice none 0 0))) => k []
  | _ => .fail
section
variable {A : Amb} {s : St} {a : Act} {w : World} {env : Env} {F : Option Bool → PV → Wr → Prop}
theorem varN_ok (h : GamE A s a w env) {vs : List Value} {f : Nat → List PC} : ∀ {n : Nat} {k : List (List UInt8) → M}, n ≤ vs.length → (∀ i, i < n → RL (ctxOf A w env) (f i) ((vs.drop (i * 1)).take 1)) → (varN n f k).ok none s F →
    ∃ ps, ps.length = n ∧ (∀ (i : Nat) (p : List UInt8), ps[i]? = some p → ∃ u, vs[i]? = some u ∧ Reads w 1 u p.length (p.map u8v)) ∧ (k ps).ok none s F
  | 0, k, _, _, hk => ⟨[], rfl, fun i p hp => by simp at hp, hk⟩
  | n + 1, k, hn, hr, hk => by
    obtain ⟨ps, h1, h2, hk⟩ := varN_ok h (n := n) (by omega) (fun i hi => hr i (by omega)) hk
    split at hk
    · rename_i c hfc
      have h3 := hr n (by omega)
      rw [hfc] at h3
      have hv : (vs.drop (n * 1)).take 1 = [vs[n]] := by
        apply List.ext_getElem?
        intro q
        rw [List.getElem?_take, List.getElem?_drop, Nat.mul_one]
        cases q with
        | zero => rw [if_pos (by omega), Nat.add_zero, List.getElem?_eq_getElem (by omega)]; rfl
        | succ q => rw [if_neg (by omega)]; simp
      rw [hv] at h3
      obtain ⟨l, h4, hk⟩ := bytesM_ok h (.w (.one h3.single)) hk
      refine ⟨ps ++ [l], by simp [h1], fun i p hp => ?_, hk⟩
      rcases Nat.lt_or_ge i n with hlt | hge
      · rw [List.getElem?_append_left (by omega)] at hp
        exact h2 i p hp
      · rw [List.getElem?_append_right (by omega)] at hp
        have hi : i = n := by
          rcases Nat.eq_or_lt_of_le hge with e | e
          · exact e.symm
          · rw [List.getElem?_eq_none (by simp; omega)] at hp; cases hp
        subst hi
        rw [h1, Nat.sub_self] at hp
        cases hp
        exact ⟨vs[i], List.getElem?_eq_getElem _, h4⟩
    · exact hk.elim
theorem varM_ok (h : GamE A s a w env) {v : PV} {val : Value} (hv : RV (ctxOf A w env) v val) {k : List (List UInt8) → M} (hk : (varM v k).ok none s F) : ∃ ps, Parts w val ps ∧ (k ps).ok none s F := by
  unfold varM at hk
  split at hk
  · rename_i x ver n off len
    obtain ⟨g, vr, ob, hfo, hk⟩ := hk
    have hk2 := guardT_ok hk
    clear hk
    obtain ⟨hg, hk⟩ := hk2
    obtain ⟨hd, hev, hob⟩ := obj_at h hfo hg
    cases hb : Nat.beq ver vr <;> cases hb2 : Nat.beq n 1 <;> cases hb3 : Nat.beq off 0 <;> cases ob <;> simp only [hb, hb2, hb3] at hk <;> try exact hk.elim
    rename_i e m tot f
    obtain rfl := beqT hb
    obtain rfl := beqT hb2
    obtain rfl := beqT hb3
    cases hb4 : Nat.beq 1 m <;> cases hb5 : Nat.beq len tot <;> simp only [hb4, hb5] at hk <;> try exact hk.elim
    obtain rfl := beqT hb4
    obtain rfl := beqT hb5
    obtain ⟨A0, n0, c0, rfl, hle0, rfl⟩ := hv.ow_inv hev
    obtain ⟨vs, hown, hel⟩ := hob
    have hrd := Reads.of_ownX hown
    have hn0 : n0 = len := by
      obtain ⟨_, A1, c1, e1, _⟩ := hrd
      cases e1; rfl
    subst hn0
    have hsl := reads_slice (off := 0) (m := n0) (by omega) hrd
    rw [Nat.zero_mul, List.drop_zero, List.take_of_length_le (by rw [hown.1]; omega)] at hsl
    obtain ⟨ps, h1, h2, hk⟩ := varN_ok h (vs := vs) (by rw [hown.1]; omega) hel hk
    exact ⟨ps, ⟨vs, by rw [hown.1, h1]; omega, by rw [h1, Nat.zero_mul]; exact hsl, h2⟩, hk⟩
  · have := hv.lit_inv
    subst this
    exact ⟨[], Parts.nil w, hk⟩
  · exact hk.elim
/-! ### Rows of digests -/
def digAt : List PC → List UInt8
  | [.bs _ l] => l
  | _ => []
def isDig : List PC → Bool
  | [.bs n _] => Nat.beq n 16
  | _ => false
def digF (l : List (List UInt8)) : Nat → List PC := fun i => [.bs 16 (l.getD i [])]
def rowD (len : Nat) (f : Nat → List PC) : List (List UInt8) := (List.range len).map fun i => digAt (f i)
def IsDRow (len : Nat) (f : Nat → List PC) : Prop := ∀ i, i < len → isDig (f i) = true
theorem rowD_length (n : Nat) (f : Nat → List PC) : (rowD n f).length = n := by simp [rowD]
@[simp] theorem isDRow_digF (n : Nat) (l : List (List UInt8)) : IsDRow n (digF l) := fun _ _ => rfl
@[simp] theorem rowD_digF (l : List (List UInt8)) : rowD l.length (digF l) = l := by
  apply List.ext_getElem (rowD_length _ _)
  intro i h1 h2
  simp only [rowD, List.getElem_map, List.getElem_range, digF, digAt]
  rw [List.getD_eq_getElem?_getD, List.getElem?_eq_getElem h2]
  rfl
theorem drow_cells {C : Ctx} {len : Nat} {f : Nat → List PC} {vs : List Value} (hl : vs.length = len * 16) (h : ∀ i, i < len → RL C (f i) ((vs.drop (i * 16)).take 16)) (hb : IsDRow len f) : vs = dcells (rowD len f) ∧ D16 (rowD len f) := by
  have key : ∀ i, i < len → (vs.drop (i * 16)).take 16 = (digAt (f i)).map u8v ∧ (digAt (f i)).length = 16 := by
    intro i hi
    have h1 := h i hi
    have h2 := hb i hi
    generalize f i = c at h1 h2
    unfold isDig at h2
    split at h2
    · obtain ⟨h3, h4⟩ := h1.bs1
      rw [beqT h2] at h3
      exact ⟨h4, h3⟩
    · cases h2
  have hD : D16 (rowD len f) := by
    intro d hd
    obtain ⟨i, hi, rfl⟩ := List.mem_map.1 hd
    exact (key i (List.mem_range.1 hi)).2
  refine ⟨?_, hD⟩
  have : ∀ n, n ≤ len → vs.take (n * 16) = dcells (rowD n f) := by
    intro n
    induction n with
    | zero => intro _; simp [rowD, dcells]
    | succ n ih =>
      intro hn
      have e1 : rowD (n + 1) f = rowD n f ++ [digAt (f n)] := by simp [rowD, List.range_succ]
      rw [e1, dcells, List.flatMap_append]
      have e2 : vs.take ((n + 1) * 16) = vs.take (n * 16) ++ (vs.drop (n * 16)).take 16 := by
        rw [show (n + 1) * 16 = n * 16 + 16 from by omega, List.take_add]
      rw [e2, ih (by omega), (key n (by omega)).1]
      simp [dcells]
  have h1 := this len (Nat.le_refl _)
  rwa [← hl, List.take_length] at h1
def digsM (v : PV) (k : List (List UInt8) → M) : M := match v with
  | .w (.one (.sl n len f)) => (match Nat.beq n 16 with
    | true => .need (IsDRow len f) (k (rowD len f))
    | false => .fail)
  | .w (.one (.ow x ver n off len)) => .obj x fun g vr ob => guardT g (match Nat.beq ver vr, Nat.beq n 16, Nat.beq off 0, ob with
    | true, true, true, .arr _ m tot f => (match Nat.beq n m with
      | true => .need (len ≤ tot ∧ IsDRow len f) (k (rowD len f))
      | false => .fail)
    | _, _, _, _ => .fail)
  | .w (.one (.lit (.slice none 0 0))) => k []
  | _ => .fail
theorem digsM_ok (h : GamE A s a w env) {v : PV} {val : Value} (hv : RV (ctxOf A w env) v val) {k : List (List UInt8) → M} (hk : (digsM v k).ok none s F) : ∃ l, Digs w val l ∧ (k l).ok none s F := by
  unfold digsM at hk
  split at hk
  · rename_i n len f
    cases hb : Nat.beq n 16 <;> rw [hb] at hk
    · exact hk.elim
    obtain rfl := beqT hb
    obtain ⟨hrow, hk⟩ := hk
    cases hv.inv with
    | sl hr hbb he =>
      obtain ⟨e1, e2⟩ := drow_cells hr.1 he hrow
      refine ⟨_, ⟨e2, ?_⟩, hk⟩
      rw [← e1, rowD_length]
      exact hr
  · rename_i x ver n off len
    obtain ⟨g, vr, ob, hfo, hk⟩ := hk
    have hk2 := guardT_ok hk
    clear hk
    obtain ⟨hg, hk⟩ := hk2
    obtain ⟨hd, hev, hob⟩ := obj_at h hfo hg
    cases hb : Nat.beq ver vr <;> cases hb2 : Nat.beq n 16 <;> cases hb3 : Nat.beq off 0 <;> cases ob <;> simp only [hb, hb2, hb3] at hk <;> try exact hk.elim
    rename_i e m tot f
    obtain rfl := beqT hb
    obtain rfl := beqT hb2
    obtain rfl := beqT hb3
    cases hb4 : Nat.beq 16 m <;> rw [hb4] at hk
    · exact hk.elim
    obtain rfl := beqT hb4
    obtain ⟨⟨hle, hrow⟩, hk⟩ := hk
    obtain ⟨A0, n0, c0, rfl, hle0, rfl⟩ := hv.ow_inv hev
    obtain ⟨vs, hown, hel⟩ := hob
    have hrd := Reads.of_ownX hown
    have hn0 : n0 = tot := by
      obtain ⟨_, A1, c1, e1, _⟩ := hrd
      cases e1; rfl
    subst hn0
    have hsl := reads_slice (off := 0) (m := len) (by omega) hrd
    obtain ⟨e1, e2⟩ := drow_cells (C := ctxOf A w env) (len := len) (f := f) (vs := (vs.drop (0 * 16)).take (len * 16)) hsl.1 (fun i hi => by rw [window_window vs hi, Nat.zero_add]; exact hel i (by omega)) hrow
    refine ⟨_, ⟨e2, ?_⟩, hk⟩
    rw [← e1, rowD_length]
    exact hsl
  · have := hv.lit_inv
    subst this
    exact ⟨[], ⟨D16.nil, Reads.nil w 16⟩, hk⟩
  · exact hk.elim
end

/-! ### The functions -/
def i64P (n : Int) : Prop := -9223372036854775808 ≤ n ∧ n < 9223372036854775808
def spInt : Spec := fun nm xs => match xs with
  | [.w (.one (.lit (.int .i64 n)))] => .need (i64P n) (.new nm (.arr 5 1 (wInt n).length (byF (wInt n))) fun v => .ret (pv1 (.ow nm v 1 0 (wInt n).length)))
  | _ => .fail
def spBytes : Spec := fun nm xs => match xs with
  | [.w (.one (.lit (.string b)))] => .need (b.size ≤ 1000000000) (.new nm (.arr 5 1 (wBytes b.data.toList).length (byF (wBytes b.data.toList))) fun v => .ret (pv1 (.ow nm v 1 0 (wBytes b.data.toList).length)))
  | _ => .fail
def spDigest : Spec := fun _ xs => match xs with
  | [.w (.one (.lit (.int .i64 tag))), ps] => varM ps fun pl => .need (pl.length ≤ 1000 ∧ ∀ p ∈ pl, p.length ≤ 10000) (.ret (.w (.agg [.bs 16 (digestS tag pl)])))
  | _ => .fail
def spDerive : Spec := fun _ xs => match xs with
  | [k, .w (.one (.lit (.string b))), ps] => bytesM k fun kb => varM ps fun pl => .need (kb.length ≤ 10000 ∧ b.size ≤ 10000 ∧ pl.length ≤ 90 ∧ ∀ p ∈ pl, p.length ≤ 10000) (.ret (.w (.agg [.bs 16 (deriveS kb b.data.toList pl)])))
  | _ => .fail
def spMac : Spec := fun _ xs => match xs with
  | [k, b] => bytesM k fun kb => bytesM b fun bb => .need (kb.length ≤ 1000000 ∧ bb.length ≤ 1000000) (.ret (.w (.agg [.bs 16 (mac kb bb)])))
  | _ => .fail
def spRoot : Spec := fun _ xs => match xs with
  | [v] => digsM v fun ds => .need (ds.length ≤ 100000) (.ret (.w (.agg [.bs 16 (rootS ds)])))
  | _ => .fail
set_option maxRecDepth 100000 in
theorem int_ok : SpecOk Tryz.prog ShaMem 149 spInt := by
  refine ⟨call_enters Tryz.func149 (by kernel_rfl) rfl, fun A s a w env nm pvs vs F h hI hv hk => ?_⟩
  unfold spInt at hk
  split at hk
  rotate_left
  · exact hk.elim
  rename_i n
  obtain ⟨hn, hk⟩ := hk
  match vs, hv with
  | [v], ⟨h1, _⟩ =>
    obtain rfl := RV.lit_inv (show RV _ _ _ from h1)
    refine (wint_any n w hn.1 hn.2).mono ?_
    rintro e w' ⟨A1, c, rfl, ho, hE⟩
    obtain ⟨env', h3, h4⟩ := h.new_own nm 5 1 (wInt n).length (f := byF (wInt n)) hE ho (fun C i hi => byF_cells C (wInt n) i hi)
    exact .inl ⟨_, _, _, env', rfl, hk, h3, h4⟩
set_option maxRecDepth 100000 in
theorem rint_ok : SpecOk Tryz.prog ShaMem 117 spInt := by
  refine ⟨call_enters Tryz.func117 (by kernel_rfl) rfl, fun A s a w env nm pvs vs F h hI hv hk => ?_⟩
  unfold spInt at hk
  split at hk
  rotate_left
  · exact hk.elim
  rename_i n
  obtain ⟨hn, hk⟩ := hk
  match vs, hv with
  | [v], ⟨h1, _⟩ =>
    obtain rfl := RV.lit_inv (show RV _ _ _ from h1)
    refine (rint_any n w hn.1 hn.2).mono ?_
    rintro e w' ⟨A1, c, rfl, ho, hE⟩
    obtain ⟨env', h3, h4⟩ := h.new_own nm 5 1 (wInt n).length (f := byF (wInt n)) hE ho (fun C i hi => byF_cells C (wInt n) i hi)
    exact .inl ⟨_, _, _, env', rfl, hk, h3, h4⟩
set_option maxRecDepth 100000 in
theorem bytes_ok : SpecOk Tryz.prog ShaMem 148 spBytes := by
  refine ⟨call_enters Tryz.func148 (by kernel_rfl) rfl, fun A s a w env nm pvs vs F h hI hv hk => ?_⟩
  unfold spBytes at hk
  split at hk
  rotate_left
  · exact hk.elim
  rename_i b
  obtain ⟨hn, hk⟩ := hk
  match vs, hv with
  | [v], ⟨h1, _⟩ =>
    obtain rfl := RV.lit_inv (show RV _ _ _ from h1)
    refine (wbytes_any b w hn).mono ?_
    rintro e w' ⟨A1, c, rfl, ho, hE⟩
    obtain ⟨env', h3, h4⟩ := h.new_own nm 5 1 (wBytes b.data.toList).length (f := byF (wBytes b.data.toList)) hE ho (fun C i hi => byF_cells C _ i hi)
    exact .inl ⟨_, _, _, env', rfl, hk, h3, h4⟩
set_option maxRecDepth 100000 in
theorem rbytes_ok : SpecOk Tryz.prog ShaMem 110 spBytes := by
  refine ⟨call_enters Tryz.func110 (by kernel_rfl) rfl, fun A s a w env nm pvs vs F h hI hv hk => ?_⟩
  unfold spBytes at hk
  split at hk
  rotate_left
  · exact hk.elim
  rename_i b
  obtain ⟨hn, hk⟩ := hk
  match vs, hv with
  | [v], ⟨h1, _⟩ =>
    obtain rfl := RV.lit_inv (show RV _ _ _ from h1)
    refine (rbytes_any b w hn).mono ?_
    rintro e w' ⟨A1, c, rfl, ho, hE⟩
    obtain ⟨env', h3, h4⟩ := h.new_own nm 5 1 (wBytes b.data.toList).length (f := byF (wBytes b.data.toList)) hE ho (fun C i hi => byF_cells C _ i hi)
    exact .inl ⟨_, _, _, env', rfl, hk, h3, h4⟩
set_option maxRecDepth 100000 in
theorem digest_ok : SpecOk Tryz.prog ShaMem 96 spDigest := by
  refine ⟨call_enters Tryz.func96 (by kernel_rfl) rfl, fun A s a w env nm pvs vs F h hI hv hk => ?_⟩
  unfold spDigest at hk
  split at hk
  rotate_left
  · exact hk.elim
  rename_i tag ps
  match vs, hv with
  | [v, pv], ⟨h1, h2, _⟩ =>
    obtain rfl := RV.lit_inv (show RV _ _ _ from h1)
    obtain ⟨pl, hp, hk⟩ := varM_ok h h2 hk
    obtain ⟨⟨c1, c2⟩, hk⟩ := hk
    refine (digest_any tag pl pv w (hI.mem w h.chg) hp c1 c2).mono ?_
    rintro e w' ⟨rfl, hE⟩
    exact .inl ⟨_, [], _, env, rfl, hk, h.ext hE, rv_of_dig (digestS_length _ _)⟩
set_option maxRecDepth 100000 in
theorem rdigest_ok : SpecOk Tryz.prog ShaMem 72 spDigest := by
  refine ⟨call_enters Tryz.func72 (by kernel_rfl) rfl, fun A s a w env nm pvs vs F h hI hv hk => ?_⟩
  unfold spDigest at hk
  split at hk
  rotate_left
  · exact hk.elim
  rename_i tag ps
  match vs, hv with
  | [v, pv], ⟨h1, h2, _⟩ =>
    obtain rfl := RV.lit_inv (show RV _ _ _ from h1)
    obtain ⟨pl, hp, hk⟩ := varM_ok h h2 hk
    obtain ⟨⟨c1, c2⟩, hk⟩ := hk
    refine (rdigest_any tag pl pv w  hp c1 c2).mono ?_
    rintro e w' ⟨rfl, hE⟩
    exact .inl ⟨_, [], _, env, rfl, hk, h.ext hE, rv_of_dig (digestS_length _ _)⟩
set_option maxRecDepth 100000 in
theorem derive_ok : SpecOk Tryz.prog ShaMem 183 spDerive := by
  refine ⟨call_enters Tryz.func183 (by kernel_rfl) rfl, fun A s a w env nm pvs vs F h hI hv hk => ?_⟩
  unfold spDerive at hk
  split at hk
  rotate_left
  · exact hk.elim
  rename_i k b ps
  match vs, hv with
  | [kv, v, pv], ⟨h0, h1, h2, _⟩ =>
    obtain rfl := RV.lit_inv (show RV _ _ _ from h1)
    obtain ⟨kb, hkb, hk⟩ := bytesM_ok h h0 hk
    obtain ⟨pl, hp, hk⟩ := varM_ok h h2 hk
    obtain ⟨⟨c0, c1, c2, c3⟩, hk⟩ := hk
    refine (derive_any kb kv b pl pv w (hI.mem w h.chg) hkb c0 c1 hp c2 c3).mono ?_
    rintro e w' ⟨rfl, hE⟩
    exact .inl ⟨_, [], _, env, rfl, hk, h.ext hE, rv_of_dig (deriveS_length _ _ _)⟩
set_option maxRecDepth 100000 in
theorem rderive_ok : SpecOk Tryz.prog ShaMem 116 spDerive := by
  refine ⟨call_enters Tryz.func116 (by kernel_rfl) rfl, fun A s a w env nm pvs vs F h hI hv hk => ?_⟩
  unfold spDerive at hk
  split at hk
  rotate_left
  · exact hk.elim
  rename_i k b ps
  match vs, hv with
  | [kv, v, pv], ⟨h0, h1, h2, _⟩ =>
    obtain rfl := RV.lit_inv (show RV _ _ _ from h1)
    obtain ⟨kb, hkb, hk⟩ := bytesM_ok h h0 hk
    obtain ⟨pl, hp, hk⟩ := varM_ok h h2 hk
    obtain ⟨⟨c0, c1, c2, c3⟩, hk⟩ := hk
    refine (rderive_any kb kv b pl pv w  hkb c0 c1 hp c2 c3).mono ?_
    rintro e w' ⟨rfl, hE⟩
    exact .inl ⟨_, [], _, env, rfl, hk, h.ext hE, rv_of_dig (deriveS_length _ _ _)⟩
set_option maxRecDepth 100000 in
theorem mac_ok : SpecOk Tryz.prog ShaMem 187 spMac := by
  refine ⟨call_enters Tryz.func187 (by kernel_rfl) rfl, fun A s a w env nm pvs vs F h hI hv hk => ?_⟩
  unfold spMac at hk
  split at hk
  rotate_left
  · exact hk.elim
  rename_i k b
  match vs, hv with
  | [kv, bv], ⟨h0, h1, _⟩ =>
    obtain ⟨kb, hkb, hk⟩ := bytesM_ok h h0 hk
    obtain ⟨bb, hbb, hk⟩ := bytesM_ok h h1 hk
    obtain ⟨⟨c0, c1⟩, hk⟩ := hk
    refine (mac_any kb bb kv bv w (hI.mem w h.chg) hkb hbb c0 c1).mono ?_
    rintro e w' ⟨rfl, hE⟩
    exact .inl ⟨_, [], _, env, rfl, hk, h.ext hE, rv_of_dig (mac_length _ _)⟩
set_option maxRecDepth 100000 in
theorem rmac_ok : SpecOk Tryz.prog ShaMem 138 spMac := by
  refine ⟨call_enters Tryz.func138 (by kernel_rfl) rfl, fun A s a w env nm pvs vs F h hI hv hk => ?_⟩
  unfold spMac at hk
  split at hk
  rotate_left
  · exact hk.elim
  rename_i k b
  match vs, hv with
  | [kv, bv], ⟨h0, h1, _⟩ =>
    obtain ⟨kb, hkb, hk⟩ := bytesM_ok h h0 hk
    obtain ⟨bb, hbb, hk⟩ := bytesM_ok h h1 hk
    obtain ⟨⟨c0, c1⟩, hk⟩ := hk
    refine (rmac_any kb bb kv bv w  hkb hbb c0 c1).mono ?_
    rintro e w' ⟨rfl, hE⟩
    exact .inl ⟨_, [], _, env, rfl, hk, h.ext hE, rv_of_dig (mac_length _ _)⟩
set_option maxRecDepth 100000 in
theorem root_ok : SpecOk Tryz.prog ShaMem 89 spRoot := by
  refine ⟨call_enters Tryz.func89 (by kernel_rfl) rfl, fun A s a w env nm pvs vs F h hI hv hk => ?_⟩
  unfold spRoot at hk
  split at hk
  rotate_left
  · exact hk.elim
  rename_i dv
  match vs, hv with
  | [v], ⟨h1, _⟩ =>
    obtain ⟨ds, hd, hk⟩ := digsM_ok h h1 hk
    obtain ⟨c0, hk⟩ := hk
    refine (root_any ds.length ds v w (hI.mem w h.chg) (Nat.le_refl _) c0 hd).mono ?_
    rintro e w' ⟨rfl, hE⟩
    exact .inl ⟨_, [], _, env, rfl, hk, h.ext hE, rv_of_dig (rootS_length _)⟩
set_option maxRecDepth 100000 in
theorem rroot_ok : SpecOk Tryz.prog ShaMem 37 spRoot := by
  refine ⟨call_enters Tryz.func37 (by kernel_rfl) rfl, fun A s a w env nm pvs vs F h hI hv hk => ?_⟩
  unfold spRoot at hk
  split at hk
  rotate_left
  · exact hk.elim
  rename_i dv
  match vs, hv with
  | [v], ⟨h1, _⟩ =>
    obtain ⟨ds, hd, hk⟩ := digsM_ok h h1 hk
    obtain ⟨c0, hk⟩ := hk
    refine (rroot_any ds.length ds v w  (Nat.le_refl _) c0 hd).mono ?_
    rintro e w' ⟨rfl, hE⟩
    exact .inl ⟨_, [], _, env, rfl, hk, h.ext hE, rv_of_dig (rootS_length _)⟩

end Go.Proofs.YtplkplegjoabgaaGreatDoor.Pv

/-
  The abstract machine at work: the functions of the lower layers; rows of boxes and of integers.
-/
namespace Go.Proofs.YtplkplegjoabgaaGreatDoor.Pv
open Go.RowKit

theorem specs_of {P : Program} {I : World → Prop} {l : List (Nat × Spec)} (h : ∀ p ∈ l, SpecOk P I p.1 p.2) : SpecsOk P I (find l) := by
  intro f sp hf
  induction l with
  | nil => cases hf
  | cons p l ih =>
    by_cases hp : p.1 = f
    · obtain ⟨f', sp'⟩ := p
      subst hp
      rw [find_cons_eq] at hf
      cases hf
      exact h _ List.mem_cons_self
    · obtain ⟨f', sp'⟩ := p
      rw [find_cons_ne _ _ hp] at hf
      exact ih (fun q hq => h q (List.mem_cons_of_mem _ hq)) hf
/-- The functions of the lower layers. -/
def lowL : List (Nat × Spec) := [(149, spInt), (117, spInt), (148, spBytes), (110, spBytes), (96, spDigest), (72, spDigest),
  (183, spDerive), (116, spDerive), (187, spMac), (138, spMac),
  (89, spRoot), (37, spRoot)]
theorem low_ok : ∀ p ∈ lowL, SpecOk Tryz.prog ShaMem p.1 p.2 := by
  intro p hp
  simp only [lowL, List.mem_cons, List.not_mem_nil, or_false] at hp
  rcases hp with rfl | rfl | rfl | rfl | rfl | rfl | rfl | rfl | rfl | rfl | rfl | rfl
  · exact int_ok
  · exact rint_ok
  · exact bytes_ok
  · exact rbytes_ok
  · exact digest_ok
  · exact rdigest_ok
  · exact derive_ok
  · exact rderive_ok
  · exact mac_ok
  · exact rmac_ok
  · exact root_ok
  · exact rroot_ok
theorem mixed_ : Tryz.prog.follows .mixedOrders = true := by kernel_rfl
theorem lowM : Mach Tryz.prog ShaMem (find lowL) := ⟨specs_of low_ok, mixed_⟩
theorem sha_ext : ∀ w w', Ext w w' → ShaMem w → ShaMem w' := fun _ _ h hi => hi.ext h

/-! ### Boxes and counts -/
structure BoxS where
  nonce : Int
  cipher : ByteArray
  tag : List UInt8
  deriving Inhabited
def boxPC (b : BoxS) : List PC := [.lit (.int .i64 b.nonce), .lit (.string b.cipher), .bs 16 b.tag]
def boxF (l : List BoxS) : Nat → List PC := fun i => boxPC (l.getD i default)
def boxOf : List PC → BoxS
  | [.lit (.int _ n), .lit (.string c), .bs _ t] => ⟨n, c, t⟩
  | _ => default
def isBox : List PC → Bool
  | [.lit (.int .i64 _), .lit (.string _), .bs n _] => Nat.beq n 16
  | _ => false
def rowBox (n : Nat) (f : Nat → List PC) : List BoxS := (List.range n).map fun i => boxOf (f i)
def IsBoxRow (n : Nat) (f : Nat → List PC) : Prop := ∀ i, i < n → isBox (f i) = true
theorem isBox_ok {l : List PC} (h : isBox l = true) : l = boxPC (boxOf l) := by
  unfold isBox at h
  split at h
  · rw [beqT h]; rfl
  · cases h
theorem getD_map_range {α : Type} [Inhabited α] (n i : Nat) (g : Nat → α) (h : i < n) (d : α) : ((List.range n).map g).getD i d = g i := by
  rw [List.getD_eq_getElem?_getD, List.getElem?_map, List.getElem?_range h]; rfl
@[simp] theorem rowBox_length (n : Nat) (f : Nat → List PC) : (rowBox n f).length = n := by simp [rowBox]
theorem boxF_row {n : Nat} {f : Nat → List PC} (h : IsBoxRow n f) : ∀ i, i < n → f i = boxF (rowBox n f) i := fun i hi => by
  unfold boxF rowBox
  rw [getD_map_range n i _ hi]
  exact isBox_ok (h i hi)
@[simp] theorem isBoxRow_boxF (n : Nat) (l : List BoxS) : IsBoxRow n (boxF l) := fun _ _ => rfl
@[simp] theorem rowBox_boxF (l : List BoxS) : rowBox l.length (boxF l) = l := by
  apply List.ext_getElem (by simp)
  intro i h1 h2
  simp only [rowBox, List.getElem_map, List.getElem_range, boxF, boxPC, boxOf]
  rw [List.getD_eq_getElem?_getD, List.getElem?_eq_getElem h2]
  rfl
def intF (l : List Int) : Nat → List PC := fun i => [.lit (.int .i64 (l.getD i 0))]
def intOf : List PC → Int
  | [.lit (.int _ n)] => n
  | _ => 0
def isInt : List PC → Bool
  | [.lit (.int .i64 _)] => true
  | _ => false
def rowInt (n : Nat) (f : Nat → List PC) : List Int := (List.range n).map fun i => intOf (f i)
def IsIntRow (n : Nat) (f : Nat → List PC) : Prop := ∀ i, i < n → isInt (f i) = true
theorem isInt_ok {l : List PC} (h : isInt l = true) : l = [.lit (.int .i64 (intOf l))] := by
  unfold isInt at h
  split at h
  · rfl
  · cases h
@[simp] theorem rowInt_length (n : Nat) (f : Nat → List PC) : (rowInt n f).length = n := by simp [rowInt]
theorem intF_row {n : Nat} {f : Nat → List PC} (h : IsIntRow n f) : ∀ i, i < n → f i = intF (rowInt n f) i := fun i hi => by
  unfold intF rowInt
  rw [getD_map_range n i _ hi]
  exact isInt_ok (h i hi)
@[simp] theorem isIntRow_intF (n : Nat) (l : List Int) : IsIntRow n (intF l) := fun _ _ => rfl
@[simp] theorem rowInt_intF (l : List Int) : rowInt l.length (intF l) = l := by
  apply List.ext_getElem (by simp)
  intro i h1 h2
  simp only [rowInt, List.getElem_map, List.getElem_range, intF, intOf]
  rw [List.getD_eq_getElem?_getD, List.getElem?_eq_getElem h2]
  rfl
theorem R.sl_ext {C : Ctx} {n len : Nat} {f f' : Nat → List PC} {xs : List Value} (h : R C (.sl n len f) xs) (he : ∀ i, i < len → f i = f' i) : R C (.sl n len f') xs := by
  cases h with
  | sl h1 h2 h3 => exact .sl h1 h2 (fun i hi => by rw [← he i hi]; exact h3 i hi)
theorem FunOk.args {P : Program} {I : World → Prop} {f : Nat} {new : Bool} {args args' : List PV} {res : PV} (h : FunOk P I f new args' res) (hv : ∀ C vs, Vals C args vs → Vals C args' vs) : FunOk P I f new args res :=
  fun w ok0 vs hI hV => h w ok0 vs hI (hv _ vs hV)
theorem vals_dig {C : Ctx} {n : Nat} {k : List UInt8} {l : List PV} {vs : List Value} (h : Vals C (.w (.agg [.bs n k]) :: l) vs) : k.length = n := by
  match vs, h with
  | v :: vs, ⟨h, _⟩ => exact (rv_dig h).1
theorem vals_tail {C : Ctx} {v : PV} {l : List PV} {vs : List Value} (h : Vals C (v :: l) vs) : ∃ vs', Vals C l vs' := by
  match vs, h with
  | _ :: vs, ⟨_, h⟩ => exact ⟨vs, h⟩
theorem wrap_nat (k : Nat) (h : k < 9223372036854775807) : IntKind.i64.wrap ((k : Int) + 1) = ((k + 1 : Nat) : Int) := by
  rw [IntKind.wrap_i64]; omega
theorem getD_mem {α : Type} {l : List α} {i : Nat} (h : i < l.length) (d : α) : l.getD i d ∈ l := by
  rw [List.getD_eq_getElem?_getD, List.getElem?_eq_getElem h]; exact List.getElem_mem h
theorem all_cold {l : List PC} (h : l.all (coldPC false) = true) : ∀ x ∈ l, coldPC false x = true := fun x hx => List.all_eq_true.1 h x hx

end Go.Proofs.YtplkplegjoabgaaGreatDoor.Pv

/-
  What the cards' rows give a walk: the two tables; how arguments read; the witness' world.
-/
namespace Go.Proofs.YtplkplegjoabgaaGreatDoor
open Go.ChangeShapes Go.WideShapes Go.ChangeAt Go.RowKit Go.Joins Go.Deep
open Go.ChangeMaps (open_string shut_string)
set_option linter.unusedVariables false

theorem own : ownKnob Tryz.prog.godebug = none := by kernel_rfl
theorem laidOut : laidOutB Tryz.prog = true := by kernel_rfl

theorem gK : Tryz.prog.globalNamed "bootchain/sha.constants" = some 1 := by kernel_rfl
theorem gKType : (Tryz.prog.globals[1]?).map (·.type) = some 222 := by kernel_rfl
theorem gH : Tryz.prog.globalNamed "bootchain/sha.start" = some 0 := by kernel_rfl
theorem gHType : (Tryz.prog.globals[0]?).map (·.type) = some 208 := by kernel_rfl
theorem cellsK : Tryz.prog.cellsOf 222 = 64 := by kernel_rfl
theorem cellsH : Tryz.prog.cellsOf 208 = 8 := by kernel_rfl
theorem cellsU32 : Tryz.prog.cellsOf 201 = 1 := by kernel_rfl
def wordsI (l : List UInt32) : List Int := l.map fun x => (x.toNat : Int)
theorem dataK : (Rows.laid_bootchain_sha_constants : DataW Unit) = Lib.tabData .u32 (wordsI shaK) := by kernel_rfl
theorem dataH : (Rows.laid_bootchain_sha_start : DataW Unit) = Lib.tabData .u32 (wordsI shaH0) := by kernel_rfl

theorem rangeAt_tab {W : World} {name : String} {l : List UInt32} {g : Nat} (h : Lib.TabIs Tryz.prog W name .u32 (wordsI l)) (hg : Tryz.prog.globalNamed name = some g) : W.rangeAt g 0 (l.map w32) := by
  intro j v hj
  rw [List.getElem?_map] at hj
  obtain ⟨x, hx, rfl⟩ := Option.map_eq_some_iff.1 hj
  have hl : j < l.length := by
    rcases Nat.lt_or_ge j l.length with h' | h'
    · exact h'
    · rw [List.getElem?_eq_none h'] at hx; cases hx
  have := h.cell hg j (by unfold wordsI; simpa using hl)
  rw [show (wordsI l).getD j 0 = (x.toNat : Int) from by unfold wordsI; simp [List.getD, hx]] at this
  simpa [w32] using this

/-- WHAT THE ROW's LIST GIVES: the package's two tables. -/
theorem shaMem_of_laid {W : World} (h : laidMetH Tryz.prog [("bootchain/sha.constants", Rows.laid_bootchain_sha_constants), ("bootchain/sha.start", Rows.laid_bootchain_sha_start)] W) : ShaMem W := by
  have h1 : laidMet Tryz.prog [("bootchain/sha.constants", Rows.laid_bootchain_sha_constants), ("bootchain/sha.start", Rows.laid_bootchain_sha_start)] W := h
  have h2 := laidMet.tail h1
  rw [dataK] at h1
  rw [dataH] at h2
  exact ⟨rangeAt_tab (Lib.tabIs_of_head gK gKType Tryz.underlying222 Tryz.underlying201 cellsU32 cellsK h1) gK,
    rangeAt_tab (Lib.tabIs_of_head gH gHType Tryz.underlying208 Tryz.underlying201 cellsU32 cellsH h2) gH⟩

/-- A world for the witness. -/
def layCells (cs : List Value) : Obj → Obj
  | .cells _ t frozen => .cells cs.toArray t frozen
  | o => o
noncomputable def laidWorld (os : Os) : World :=
  { World.holding Tryz.prog os ⟨#[], #[], []⟩ with
    heap := ((World.holding Tryz.prog os ⟨#[], #[], []⟩).heap.modify 1 (layCells (shaK.map w32))).modify 0 (layCells (shaH0.map w32)) }

theorem reads_list {α : Type} {n : Nat} {E : Nat → List Value} {R : α → Prop} (g : α → List Value) (h : ∀ i, i < n → ∃ a, E i = g a ∧ R a) : ∃ l : List α, l.length = n ∧ (List.range n).flatMap E = l.flatMap g ∧ ∀ a ∈ l, R a := by
  induction n with
  | zero => exact ⟨[], rfl, rfl, fun a h => by cases h⟩
  | succ n ih =>
    obtain ⟨l, h1, h2, h3⟩ := ih fun i hi => h i (by omega)
    obtain ⟨a, h4, h5⟩ := h n (by omega)
    refine ⟨l ++ [a], by simp [h1], ?_, fun b hb => ?_⟩
    · rw [List.range_succ, List.flatMap_append, List.flatMap_append, h2]
      simp [h4]
    · rcases List.mem_append.1 hb with hb | hb
      · exact h3 b hb
      · rw [List.mem_singleton.1 hb]; exact h5

section
variable {H : Type} {enc : TypeId × Value → H} {P : Program} {w : World} {base : Nat} {spare : Nat → Bool} {held : Bool}
/-- A slice: its cells, and what each element reads as. -/
theorem trod_reads {t e : TypeId} {k : Nat} {fuel : Nat} {cs : List Value} {x : DataW H × List MemPlace} (ht : P.underlying t = some (.slice e)) (hk : P.cellsOf e = k) (hk0 : 0 < k) (h : DataW.trod enc P w base spare held fuel t cs = some x) :
    ∃ (v : Value) (n : Nat) (E : Nat → List Value) (m : Nat) (Y : Nat → DataW H × List MemPlace), cs = [v] ∧ Reads w k v n ((List.range n).flatMap E) ∧ ∀ i, i < n → (E i).length = k ∧ DataW.trod enc P w base spare held m e (E i) = some (Y i) := by
  rcases open_slice ht h with ⟨rfl, _⟩ | ⟨a, len, cap, m, n, D, Pl, hcs, hb, hl, hm, hmm, hx, hi⟩
  · exact ⟨_, 0, fun _ => [], 0, fun _ => (.nil, []), rfl, by simpa using Reads.nil w k, fun i hi => by omega⟩
  · rw [hk] at hi
    have hlm : len ≤ m := by rw [hmm]; split <;> omega
    have hall : ∀ i, ∃ cs', i < m → w.cells? base (a.add (i * k)) k = some cs' ∧ DataW.trod enc P w base spare held n e cs' = some (D i, Pl i) := fun i => by
      by_cases h : i < m
      · obtain ⟨c, hc⟩ := hi i h
        exact ⟨c, fun _ => hc⟩
      · exact ⟨[], fun h' => absurd h' h⟩
    refine ⟨_, len, fun i => Classical.choose (hall i), n, fun i => (D i, Pl i), hcs, ?_, fun i hil => ?_⟩
    · have hsz : ∀ i, i < m → (Classical.choose (hall i)).length = k ∧ ∀ j, j < k → w.cell? ((a.add (i * k)).add j) = (Classical.choose (hall i))[j]? := fun i him => by
        obtain ⟨_, h2, h3⟩ := World.cells?_some (Classical.choose_spec (hall i) him).1
        exact ⟨h2, h3⟩
      have hlen : ∀ j, j ≤ m → ((List.range j).flatMap fun i => Classical.choose (hall i)).length = j * k := by
        intro j
        induction j with
        | zero => intro _; simp
        | succ j ih =>
          intro hj
          rw [List.range_succ, List.flatMap_append, List.length_append, ih (by omega)]
          simp [(hsz j (by omega)).1, Nat.succ_mul]
      have hget : ∀ j, j ≤ m → ∀ q u, ((List.range j).flatMap fun i => Classical.choose (hall i))[q]? = some u → w.cell? (a.add q) = some u := by
        intro j
        induction j with
        | zero => intro _ q u h; simp at h
        | succ j ih =>
          intro hj q u h
          rw [List.range_succ, List.flatMap_append, List.getElem?_append] at h
          rw [hlen j (by omega)] at h
          by_cases hq : q < j * k
          · rw [if_pos hq] at h
            exact ih (by omega) q u h
          · rw [if_neg hq] at h
            simp only [List.flatMap_cons, List.flatMap_nil, List.append_nil] at h
            have h2 := (hsz j (by omega)).2 (q - j * k) (by
              have := (hsz j (by omega)).1
              rcases Nat.lt_or_ge (q - j * k) k with h' | h'
              · exact h'
              · rw [List.getElem?_eq_none (by omega)] at h; cases h)
            rw [add_of_add, show j * k + (q - j * k) = q from by omega] at h2
            rw [h2, h]
      refine ⟨hlen len hlm, _, cap, rfl, hl, hm, fun hn => ?_⟩
      have hl0 := hlen len hlm
      obtain ⟨u0, hu0⟩ : ∃ u0, ((List.range len).flatMap fun i => Classical.choose (hall i))[0]? = some u0 := ⟨_, List.getElem?_eq_getElem (by rw [hl0]; exact Nat.mul_pos hn hk0)⟩
      have hc0 := hget len hlm 0 u0 hu0
      obtain ⟨b, off, spot⟩ := a
      have hspot : spot = none := by simpa [Addr.add] using World.cell?_spot hc0
      subst hspot
      refine ⟨b, off, rfl, fun j u hu => ?_⟩
      have := hget len hlm j u hu
      rwa [add_lit] at this
    · have h2 := Classical.choose_spec (hall i) (by omega)
      exact ⟨(World.cells?_some h2.1).2.1, h2.2⟩

theorem map_flat (k : IntKind) (l : List Int) : l.map (Value.int k) = l.flatMap fun z => [Value.int k z] := by
  induction l with
  | nil => rfl
  | cons a l ih => rw [List.map_cons, List.flatMap_cons, ← ih]; rfl
/-- A slice of integers. -/
theorem trod_reads_ints {t e : TypeId} {k : IntKind} {fuel : Nat} {cs : List Value} {x : DataW H × List MemPlace} (ht : P.underlying t = some (.slice e)) (he : P.underlying e = some (.int k)) (hk : P.cellsOf e = 1) (h : DataW.trod enc P w base spare held fuel t cs = some x) :
    ∃ (v : Value) (l : List Int), cs = [v] ∧ Reads w 1 v l.length (l.map (Value.int k)) ∧ ∀ z ∈ l, (Lit.int k z).wf = true := by
  obtain ⟨v, n, E, m, Y, rfl, hr, hE⟩ := trod_reads ht hk (by omega) h
  obtain ⟨l, rfl, h2, h3⟩ := reads_list (R := fun z => (Lit.int k z).wf = true) (fun z => [Value.int k z]) fun i hi => by
    obtain ⟨z, hz, _, hw⟩ := DataW.trod_int he (hE i hi).2
    exact ⟨z, hz, hw⟩
  rw [h2] at hr
  refine ⟨v, l, rfl, ?_, h3⟩
  rw [map_flat]
  exact hr
def toByte (z : Int) : UInt8 := UInt8.ofNat z.toNat
theorem toByte_v {z : Int} (h : (Lit.int .u8 z).wf = true) : Value.int .u8 z = u8v (toByte z) := by
  have := bounds_u8 h
  have e : ((toByte z).toNat : Int) = z := by
    unfold toByte
    rw [UInt8.toNat_ofNat']
    omega
  show Value.int .u8 z = Value.int .u8 ((toByte z).toNat : Int)
  rw [e]
/-- A slice of bytes. -/
theorem trod_bytes {t e : TypeId} {fuel : Nat} {cs : List Value} {x : DataW H × List MemPlace} (ht : P.underlying t = some (.slice e)) (he : P.underlying e = some (.int .u8)) (hk : P.cellsOf e = 1) (h : DataW.trod enc P w base spare held fuel t cs = some x) :
    ∃ (v : Value) (l : List UInt8), cs = [v] ∧ Reads w 1 v l.length (l.map u8v) := by
  obtain ⟨v, l, rfl, hr, hw⟩ := trod_reads_ints ht he hk h
  refine ⟨v, l.map toByte, rfl, ?_⟩
  rw [List.length_map, List.map_map, show l.map (u8v ∘ toByte) = l.map (Value.int .u8) from List.map_congr_left fun z hz => (toByte_v (hw z hz)).symm]
  exact hr
theorem flat_single {α : Type} (f : α → Value) (l : List α) : l.flatMap (fun a => [f a]) = l.map f := by
  induction l with
  | nil => rfl
  | cons a l ih => rw [List.map_cons, List.flatMap_cons, ← ih]; rfl
/-- A slice of slices of bytes. -/
theorem trod_parts {t s e : TypeId} {fuel : Nat} {cs : List Value} {x : DataW H × List MemPlace} (ht : P.underlying t = some (.slice s)) (hs : P.underlying s = some (.slice e)) (he : P.underlying e = some (.int .u8)) (hks : P.cellsOf s = 1) (hke : P.cellsOf e = 1) (h : DataW.trod enc P w base spare held fuel t cs = some x) :
    ∃ (v : Value) (ps : List (List UInt8)), cs = [v] ∧ Parts w v ps := by
  obtain ⟨v, n, E, m, Y, rfl, hr, hE⟩ := trod_reads ht hks (by omega) h
  obtain ⟨l, hl, h2, h3⟩ := reads_list (R := fun a : Value × List UInt8 => Reads w 1 a.1 a.2.length (a.2.map u8v)) (fun a => [a.1]) fun i hi => by
    obtain ⟨v, l, hv, hl⟩ := trod_bytes hs he hke (hE i hi).2
    exact ⟨(v, l), hv, hl⟩
  rw [h2, flat_single] at hr
  refine ⟨v, l.map (·.2), rfl, l.map (·.1), by simp, ?_, fun i p hp => ?_⟩
  · rw [List.length_map, hl]; exact hr
  · rw [List.getElem?_map] at hp
    obtain ⟨a, ha, rfl⟩ := Option.map_eq_some_iff.1 hp
    exact ⟨a.1, by rw [List.getElem?_map, ha]; rfl, h3 a (List.mem_of_getElem? ha)⟩
end

end Go.Proofs.YtplkplegjoabgaaGreatDoor

/-
  Opening arguments: arrays of bytes, boxes.
-/
namespace Go.Proofs.YtplkplegjoabgaaGreatDoor
open Go.ChangeShapes Go.WideShapes Go.ChangeAt Go.RowKit Go.Joins Go.Deep

section
variable {H : Type} {enc : TypeId × Value → H} {P : Program} {w : World} {base : Nat} {spare : Nat → Bool} {held : Bool}
theorem bytes_of_cells (cs : List Value) (h : ∀ c ∈ cs, ∃ b : UInt8, c = u8v b) : ∃ l : List UInt8, cs = l.map u8v := by
  induction cs with
  | nil => exact ⟨[], rfl⟩
  | cons c cs ih =>
    obtain ⟨l, hl⟩ := ih fun x hx => h x (List.mem_cons_of_mem _ hx)
    obtain ⟨b, hb⟩ := h c (List.mem_cons_self ..)
    exact ⟨b :: l, by rw [hb, hl]; rfl⟩
theorem trod_bytesArr {t e : TypeId} {n fuel : Nat} {cs : List Value} {x : DataW H × List MemPlace} (ht : P.underlying t = some (.array n e)) (he : P.underlying e = some (.int .u8)) (hk : P.cellsOf e = 1) (hn : P.cellsOf t = n) (h : DataW.trod enc P w base spare held fuel t cs = some x) :
    ∃ l : List UInt8, l.length = n ∧ cs = l.map u8v := by
  obtain ⟨xs, m, _, _, hl, hxl, hf⟩ := DataW.trod_array ht h
  rw [hn] at hl
  rw [hk] at hf
  obtain ⟨l, hl2⟩ := bytes_of_cells cs fun c hc => by
    obtain ⟨i, hi, hci⟩ := List.getElem_of_mem hc
    have h1 := hf i (by omega)
    rw [Nat.mul_one, List.drop_eq_getElem_cons hi, List.take_succ_cons, List.take_zero, List.getElem?_eq_getElem (by omega)] at h1
    obtain ⟨z, hz, _, hw⟩ := DataW.trod_int he h1
    cases hz2 : cs[i]
    all_goals rw [hz2] at hz
    all_goals (cases hz)
    exact ⟨toByte z, by rw [← hci, hz2]; exact toByte_v hw⟩
  exact ⟨l, by rw [hl2] at hl; simpa using hl, hl2⟩
theorem okWide_array {r : Reach} {b0 : Nat} {t e : TypeId} {n : Nat} {v : Value} (ht : P.underlying t = some (.array n e)) (h : Value.okWide P w r b0 t v) : ∃ cs, v = .agg cs ∧ cs.size = P.cellsOf t := by
  simp only [Value.okWide, ht] at h
  obtain ⟨cs, h1, h2, _⟩ := h
  exact ⟨cs, h1, h2⟩
end
set_option maxRecDepth 100000 in
theorem open_digest {H : Type} {enc : TypeId × Value → H} {v : Value} {d : DataW H} {p : List MemPlace} {W : World} {base : Nat} (hv : Value.okWide Tryz.prog W .any base 23 v)
    (h : DataW.Trod enc Tryz.prog W 0 (fun _ => true) true 23 v d p) : ∃ l : List UInt8, l.length = 16 ∧ v = .agg (l.map u8v).toArray := by
  obtain ⟨cs, rfl, _⟩ := okWide_array Tryz.underlying23 hv
  obtain ⟨m, h⟩ := h
  obtain ⟨l, h1, h2⟩ := trod_bytesArr Tryz.underlying23 Tryz.underlying5 (by kernel_rfl) (by kernel_rfl) h
  refine ⟨l, h1, ?_⟩
  have : cs.toList = l.map u8v := h2
  rw [← this, Array.toArray_toList]

end Go.Proofs.YtplkplegjoabgaaGreatDoor

/-
  Opening arguments: structs part by part.
-/
namespace Go.Proofs.YtplkplegjoabgaaGreatDoor
open Go.ChangeShapes Go.WideShapes Go.ChangeAt Go.RowKit Go.Joins Go.Deep

def splitBy : List Nat → List Value → List (List Value)
  | [], _ => []
  | n :: ns, cs => cs.take n :: splitBy ns (cs.drop n)
def offsOf : Nat → List Nat → List (Nat × Nat)
  | _, [] => []
  | o, n :: ns => (o, n) :: offsOf (o + n) ns
theorem splitBy_flatten : ∀ (ns : List Nat) (cs : List Value), cs.length = ns.sum → (splitBy ns cs).flatten = cs
  | [], cs, h => by simpa [splitBy] using (List.eq_nil_of_length_eq_zero (by simpa using h)).symm
  | n :: ns, cs, h => by
    rw [List.sum_cons] at h
    rw [splitBy, List.flatten_cons, splitBy_flatten ns (cs.drop n) (by rw [List.length_drop]; omega), List.take_append_drop]
theorem splitBy_get : ∀ (ns : List Nat) (cs : List Value) (i o n : Nat) (o0 : Nat), (offsOf o0 ns)[i]? = some (o0 + o, n) → (splitBy ns cs).getD i [] = (cs.drop o).take n
  | [], cs, i, o, n, o0, h => by simp [offsOf] at h
  | m :: ns, cs, 0, o, n, o0, h => by
    simp only [offsOf, List.getElem?_cons_zero, Option.some.injEq, Prod.mk.injEq] at h
    obtain ⟨h1, h2⟩ := h
    obtain rfl : o = 0 := by omega
    subst h2
    rfl
  | m :: ns, cs, i + 1, o, n, o0, h => by
    simp only [offsOf, List.getElem?_cons_succ] at h
    have ho : m ≤ o := by
      have : ∀ (ns : List Nat) (a i o n : Nat), (offsOf a ns)[i]? = some (o, n) → a ≤ o := by
        intro ns
        induction ns with
        | nil => intro a i o n h; simp [offsOf] at h
        | cons k ns ih =>
          intro a i o n h
          cases i with
          | zero => simp only [offsOf, List.getElem?_cons_zero, Option.some.injEq, Prod.mk.injEq] at h; omega
          | succ i => simp only [offsOf, List.getElem?_cons_succ] at h; have := ih _ _ _ _ h; omega
      have := this _ _ _ _ _ h
      omega
    have := splitBy_get ns (cs.drop m) i (o - m) n (o0 + m) (by rw [show o0 + m + (o - m) = o0 + o from by omega]; exact h)
    show (splitBy ns (cs.drop m)).getD i [] = _
    rw [this, List.drop_drop, show m + (o - m) = o from by omega]
theorem trod_split {H : Type} {enc : TypeId × Value → H} {P : Program} {w : World} {base : Nat} {spare : Nat → Bool} {held : Bool} {t : TypeId} {fs : Array Field} {ns : List Nat} {fuel : Nat} {cs : List Value} {x : DataW H × List MemPlace} (ht : P.underlying t = some (.struct fs))
    (hfs : fs.toList.map (fun f => (f.offset, P.cellsOf f.type)) = offsOf 0 ns) (hc : P.cellsOf t = ns.sum) (h : DataW.trod enc P w base spare held fuel t cs = some x) :
    (splitBy ns cs).flatten = cs ∧ ∀ i f, fs[i]? = some f → ∃ m y, DataW.trod enc P w base spare held m f.type ((splitBy ns cs).getD i []) = some y := by
  obtain ⟨xs, n', _, _, hlen, hxl, hf⟩ := DataW.trod_struct ht h
  refine ⟨splitBy_flatten ns cs (by rw [hlen, hc]), fun i f hi => ?_⟩
  have h1 := hf i f hi
  have hil : i < xs.length := by
    rw [hxl]
    exact (Array.getElem?_eq_some_iff.1 hi).1
  have h2 : (offsOf 0 ns)[i]? = some (0 + f.offset, P.cellsOf f.type) := by
    rw [← hfs, List.getElem?_map, Array.getElem?_toList, hi, Nat.zero_add]
    rfl
  rw [splitBy_get ns cs i f.offset _ 0 h2]
  exact ⟨n', xs[i], by rw [h1, List.getElem?_eq_getElem hil]⟩
theorem open_parts {H : Type} {enc : TypeId × Value → H} {P : Program} {v : Value} {d : DataW H} {p : List MemPlace} {W : World} {base : Nat} {t : TypeId} {fs : Array Field} {ns : List Nat} (ht : P.underlying t = some (.struct fs))
    (hfs : fs.toList.map (fun f => (f.offset, P.cellsOf f.type)) = offsOf 0 ns) (hc : P.cellsOf t = ns.sum) (hv : Value.okWide P W .any base t v) (h : DataW.Trod enc P W 0 (fun _ => true) true t v d p) :
    ∃ cs : List Value, v = .agg cs.toArray ∧ (splitBy ns cs).flatten = cs ∧ ∀ i f, fs[i]? = some f → ∃ m y, DataW.trod enc P W 0 (fun _ => true) true m f.type ((splitBy ns cs).getD i []) = some y := by
  obtain ⟨cs, rfl, _⟩ := okWide_struct ht hv
  obtain ⟨m, h⟩ := h
  have h' : DataW.trod enc P W 0 (fun _ => true) true m t cs.toList = some (d, p) := h
  have := trod_split ht hfs hc h'
  exact ⟨cs.toList, by rw [Array.toArray_toList], this.1, this.2⟩

end Go.Proofs.YtplkplegjoabgaaGreatDoor

/-
  Opening the arguments of laws: rows of boxes, of integers, of strings, of digests.
-/
namespace Go.Proofs.YtplkplegjoabgaaGreatDoor.Pv
open Go.ChangeShapes Go.WideShapes Go.ChangeAt Go.RowKit Go.Joins Go.Deep

def strF (l : List ByteArray) : Nat → List PC := fun i => [.lit (.string (l.getD i { data := #[] }))]
def strOfPC : List PC → ByteArray
  | [.lit (.string c)] => c
  | _ => { data := #[] }
def isStr : List PC → Bool
  | [.lit (.string _)] => true
  | _ => false
def rowStr (n : Nat) (f : Nat → List PC) : List ByteArray := (List.range n).map fun i => strOfPC (f i)
def IsStrRow (n : Nat) (f : Nat → List PC) : Prop := ∀ i, i < n → isStr (f i) = true
theorem isStr_ok {l : List PC} (h : isStr l = true) : l = [.lit (.string (strOfPC l))] := by
  unfold isStr at h
  split at h
  · rfl
  · cases h
@[simp] theorem rowStr_length (n : Nat) (f : Nat → List PC) : (rowStr n f).length = n := by simp [rowStr]
theorem strF_row {n : Nat} {f : Nat → List PC} (h : IsStrRow n f) : ∀ i, i < n → f i = strF (rowStr n f) i := fun i hi => by
  unfold strF rowStr
  rw [List.getD_eq_getElem?_getD, List.getElem?_map, List.getElem?_range hi]
  exact isStr_ok (h i hi)
@[simp] theorem isStrRow_strF (n : Nat) (l : List ByteArray) : IsStrRow n (strF l) := fun _ _ => rfl
@[simp] theorem rowStr_strF (l : List ByteArray) : rowStr l.length (strF l) = l := by
  apply List.ext_getElem (by simp)
  intro i h1 h2
  simp only [rowStr, List.getElem_map, List.getElem_range, strF, strOfPC]
  rw [List.getD_eq_getElem?_getD, List.getElem?_eq_getElem h2]
  rfl
theorem flat_win {α : Type} (g : α → List Value) (n : Nat) : ∀ (l : List α), (∀ a ∈ l, (g a).length = n) → ∀ (i : Nat) (hi : i < l.length), ((l.flatMap g).drop (i * n)).take n = g l[i]
  | [], _, i, hi => by simp at hi
  | a :: l, h, 0, hi => by
    rw [Nat.zero_mul, List.drop_zero, List.flatMap_cons, List.take_append_of_le_length (by rw [h a List.mem_cons_self]; omega), List.take_of_length_le (by rw [h a List.mem_cons_self]; omega)]
    rfl
  | a :: l, h, i + 1, hi => by
    have hi' : i < l.length := by simpa using hi
    rw [List.flatMap_cons, show (i + 1) * n = (g a).length + i * n by rw [h a List.mem_cons_self, Nat.succ_mul, Nat.add_comm], ← List.drop_drop, List.drop_left, flat_win g n l (fun b hb => h b (List.mem_cons_of_mem _ hb)) i hi']
    rfl
def argX (w : World) : Ctx := { w := w, ok := fun _ => True, env := fun _ => none }
theorem rsl_of {α : Type} {w : World} {v : Value} {n : Nat} {l : List α} {g : α → List Value} {f : Nat → List PC} (hn : 0 < n) (hg : ∀ a ∈ l, (g a).length = n) (hr : Reads w n v l.length (l.flatMap g)) (hc : ∀ (C : Ctx) (i : Nat) (hi : i < l.length), RL C (f i) (g l[i])) : R (argX w) (.sl n l.length f) [v] :=
  .sl hr (fun b hb hlt => ⟨trivial, hr.own_lt hn hlt b hb⟩) (fun i hi => by rw [flat_win g n l hg i hi]; exact hc _ i hi)
section
variable {H : Type} {enc : TypeId × Value → H} {w : World} {base : Nat} {spare : Nat → Bool} {held : Bool}
theorem trod_ints {fuel : Nat} {cs : List Value} {x : DataW H × List MemPlace} (h : DataW.trod enc Tryz.prog w base spare held fuel 148 cs = some x) : ∃ (v : Value) (l : List Int), cs = [v] ∧ R (argX w) (.sl 1 l.length (intF l)) [v] ∧ ∀ c ∈ l, i64P c := by
  obtain ⟨v, n, E, m, Y, rfl, hr, hE⟩ := trod_reads (k := 1) Tryz.underlying148 (by kernel_rfl) (by omega) h
  obtain ⟨l, hl, h2, h3⟩ := reads_list (R := i64P) (fun z : Int => [Value.int .i64 z]) fun i hi => by
    obtain ⟨z, e0, _, hw⟩ := DataW.trod_int Tryz.underlying3 (hE i hi).2
    have hb := bounds_i64 hw
    exact ⟨z, e0, hb.1, by have := hb.2; omega⟩
  refine ⟨v, l, rfl, ?_, h3⟩
  rw [h2, ← hl] at hr
  refine rsl_of (g := fun z : Int => [Value.int .i64 z]) (by omega) (fun b hb => rfl) hr (fun C i hi => ?_)
  unfold intF
  rw [List.getD_eq_getElem?_getD, List.getElem?_eq_getElem hi]
  exact .cons (.lit rfl) .nil
theorem trod_strs {fuel : Nat} {cs : List Value} {x : DataW H × List MemPlace} (h : DataW.trod enc Tryz.prog w base spare held fuel 49 cs = some x) : ∃ (v : Value) (l : List ByteArray), cs = [v] ∧ R (argX w) (.sl 1 l.length (strF l)) [v] := by
  obtain ⟨v, n, E, m, Y, rfl, hr, hE⟩ := trod_reads (k := 1) Tryz.underlying49 (by kernel_rfl) (by omega) h
  obtain ⟨l, hl, h2, h3⟩ := reads_list (R := fun _ => True) (fun z : ByteArray => [Value.string z]) fun i hi => by
    obtain ⟨s, e0, _, _⟩ := DataW.trod_string Tryz.underlying9 (hE i hi).2
    exact ⟨s, e0, trivial⟩
  refine ⟨v, l, rfl, ?_⟩
  rw [h2, ← hl] at hr
  refine rsl_of (g := fun z : ByteArray => [Value.string z]) (by omega) (fun b hb => rfl) hr (fun C i hi => ?_)
  unfold strF
  rw [List.getD_eq_getElem?_getD, List.getElem?_eq_getElem hi]
  exact .cons (.lit rfl) .nil
end
section
variable {H : Type} {enc : TypeId × Value → H} {w : World} {base : Nat} {spare : Nat → Bool} {held : Bool}
def digCells (l : List UInt8) : List Value := l.map u8v
theorem trod_digs {fuel : Nat} {cs : List Value} {x : DataW H × List MemPlace} (h : DataW.trod enc Tryz.prog w base spare held fuel 30 cs = some x) : ∃ (v : Value) (l : List (List UInt8)), cs = [v] ∧ R (argX w) (.sl 16 l.length (digF l)) [v] ∧ ∀ d ∈ l, d.length = 16 := by
  obtain ⟨v, n, E, m, Y, rfl, hr, hE⟩ := trod_reads (k := 16) Tryz.underlying30 (by kernel_rfl) (by omega) h
  obtain ⟨l, hl, h2, h3⟩ := reads_list (R := fun d : List UInt8 => d.length = 16) digCells fun i hi => by
    obtain ⟨l, hl, e2⟩ := trod_bytesArr Tryz.underlying23 Tryz.underlying5 (by kernel_rfl) (by kernel_rfl) (hE i hi).2
    exact ⟨l, e2, hl⟩
  refine ⟨v, l, rfl, ?_, h3⟩
  rw [h2, ← hl] at hr
  refine rsl_of (g := digCells) (by omega) (fun b hb => by simp [digCells, h3 b hb]) hr (fun C i hi => ?_)
  unfold digF
  rw [List.getD_eq_getElem?_getD, List.getElem?_eq_getElem hi]
  have := RL.cons (C := C) (R.bs (n := 16) (h3 _ (List.getElem_mem hi))) RL.nil
  rw [List.append_nil] at this
  exact this
theorem sl_len {C : Ctx} {n len : Nat} {f : Nat → List PC} {xs : List Value} (h : R C (.sl n len f) xs) : len < 9223372036854775808 := by
  cases h with
  | sl hr _ _ => have := hr.len_le; unfold maxLen at this; omega
end
section
variable {H : Type} {enc : TypeId × Value → H} {v : Value} {d : DataW H} {p : List MemPlace} {W : World} {base : Nat}
set_option maxRecDepth 100000 in
theorem open_digRow (hv : Value.okWide Tryz.prog W .any base 30 v) (h : DataW.Trod enc Tryz.prog W 0 (fun _ => true) true 30 v d p) :
    ∃ l : List (List UInt8), RV (argX W) (pv1 (.sl 16 l.length (digF l))) v ∧ (∀ d ∈ l, d.length = 16) ∧ l.length < 9223372036854775808 := by
  obtain ⟨A2, len2, cap2, rfl⟩ := okWide_slice Tryz.underlying30 hv
  obtain ⟨m2, h⟩ := h
  obtain ⟨v, l, hl, hp, hb⟩ := trod_digs h
  simp [Value.cells] at hl
  subst hl
  exact ⟨l, .w (.one hp), hb, sl_len hp⟩
set_option maxRecDepth 100000 in
theorem open_strs (hv : Value.okWide Tryz.prog W .any base 49 v) (h : DataW.Trod enc Tryz.prog W 0 (fun _ => true) true 49 v d p) :
    ∃ l : List ByteArray, RV (argX W) (pv1 (.sl 1 l.length (strF l))) v := by
  obtain ⟨A2, len2, cap2, rfl⟩ := okWide_slice Tryz.underlying49 hv
  obtain ⟨m2, h⟩ := h
  obtain ⟨v, l, hl, hp⟩ := trod_strs h
  simp [Value.cells] at hl
  subst hl
  exact ⟨l, .w (.one hp)⟩
/-- What a law's contract says of its call. -/
theorem FunOk.law {P : Program} {I : World → Prop} {f : Nat} {new : Bool} {args : List PV} (h : FunOk P I f new args (pvB true)) {vs : List Value} (hI : I W) (hv : Vals (argX W) args vs) : Calls P f vs.toArray W fun e W' => e = .returned (.bool true) ∧ Ext W W' := by
  refine (h W (fun _ => True) vs hI hv).mono ?_
  rintro e w' ⟨val, rfl, hE, hr⟩
  exact ⟨congrArg Ending.returned hr.lit_inv, hE⟩
theorem rv_digest {C : Ctx} {l : List UInt8} (h : l.length = 16) : RV C (.w (.agg [.bs 16 l])) (.agg (l.map u8v).toArray) := rv_of_dig h
end


end Go.Proofs.YtplkplegjoabgaaGreatDoor.Pv

/-
  One-time signatures as plain functions of lists of bytes, and what they keep: no program in sight.
-/
namespace Go.Proofs.YtplkplegjoabgaaGreatDoor

/-- Digit k of a message. -/
def dig (m : List UInt8) (k : Nat) : Nat := (m.getD (k / 4) 0).toNat / 4 ^ (3 - k % 4) % 4
def sumTo (m : List UInt8) : Nat → Nat
  | 0 => 0
  | k + 1 => sumTo m k + (3 - dig m k)
def chk (m : List UInt8) : Nat := sumTo m 64
/-- Digit k of a message with its checksum. -/
def digC (m : List UInt8) (k : Nat) : Nat := if k < 64 then dig m k else chk m / 4 ^ (67 - k) % 4
def digitsS (m : List UInt8) : List Nat := (List.range 68).map (digC m)
theorem dig_le (m : List UInt8) (k : Nat) : dig m k ≤ 3 := by unfold dig; omega
theorem digC_le (m : List UInt8) (k : Nat) : digC m k ≤ 3 := by
  unfold digC
  split
  · exact dig_le m k
  · omega
theorem digitsS_length (m : List UInt8) : (digitsS m).length = 68 := by unfold digitsS; simp
theorem digitsS_get (m : List UInt8) (k : Nat) (h : k < 68) : (digitsS m)[k]? = some (digC m k) := by
  unfold digitsS
  rw [List.getElem?_map, List.getElem?_range h]
  rfl
theorem sumTo_le (m : List UInt8) : ∀ k, sumTo m k ≤ 3 * k
  | 0 => Nat.le_refl _
  | k + 1 => by have := sumTo_le m k; rw [sumTo]; omega
theorem chk_le (m : List UInt8) : chk m ≤ 192 := sumTo_le m 64
theorem chk_base (m : List UInt8) : chk m = ((digC m 64 * 4 + digC m 65) * 4 + digC m 66) * 4 + digC m 67 := by
  have h := chk_le m
  have e4 : digC m 64 = chk m / 64 % 4 := rfl
  have e5 : digC m 65 = chk m / 16 % 4 := rfl
  have e6 : digC m 66 = chk m / 4 % 4 := rfl
  have e7 : digC m 67 = chk m / 1 % 4 := rfl
  rw [e4, e5, e6, e7]
  omega

/-- Digits that are nowhere less: the sums the other way round, and equal only if all digits are. -/
theorem sum_mono (a b : List UInt8) : ∀ n, (∀ k, k < n → dig b k ≤ dig a k) → sumTo a n ≤ sumTo b n
  | 0, _ => Nat.le_refl _
  | n + 1, h => by
    have ih := sum_mono a b n fun k hk => h k (by omega)
    have h1 := h n (by omega)
    have := dig_le a n
    rw [sumTo, sumTo]
    omega
theorem sum_strict (a b : List UInt8) : ∀ n, (∀ k, k < n → dig b k ≤ dig a k) → sumTo a n = sumTo b n → ∀ k, k < n → dig a k = dig b k
  | 0, _, _ => fun k hk => by omega
  | n + 1, h, he => by
    have ih1 := sum_mono a b n fun k hk => h k (by omega)
    have h1 := h n (by omega)
    have h2 := dig_le a n
    rw [sumTo, sumTo] at he
    have ih := sum_strict a b n (fun k hk => h k (by omega)) (by omega)
    intro k hk
    rcases Nat.lt_or_ge k n with hlt | hge
    · exact ih k hlt
    · obtain rfl : k = n := by omega
      omega
theorem byte_digits (x : UInt8) : x.toNat = ((x.toNat / 64 % 4 * 4 + x.toNat / 16 % 4) * 4 + x.toNat / 4 % 4) * 4 + x.toNat % 4 := by
  have := x.toNat_lt
  omega
theorem digits_inj (a b : List UInt8) (ha : a.length = 16) (hb : b.length = 16) (h : ∀ k, k < 64 → dig a k = dig b k) : a = b := by
  apply List.ext_getElem (by omega)
  intro i h1 h2
  have g : ∀ j, j < 4 → a[i].toNat / 4 ^ (3 - j) % 4 = b[i].toNat / 4 ^ (3 - j) % 4 := fun j hj => by
    have := h (4 * i + j) (by omega)
    unfold dig at this
    rw [show (4 * i + j) / 4 = i from by omega, show (4 * i + j) % 4 = j from by omega, List.getD_eq_getElem?_getD, List.getD_eq_getElem?_getD, List.getElem?_eq_getElem h1, List.getElem?_eq_getElem h2] at this
    exact this
  have g0 := g 0 (by omega)
  have g1 := g 1 (by omega)
  have g2 := g 2 (by omega)
  have g3 := g 3 (by omega)
  apply UInt8.toNat_inj.1
  rw [byte_digits a[i], byte_digits b[i]]
  simp at g0 g1 g2 g3
  omega
theorem antichain (a b : List UInt8) (ha : a.length = 16) (hb : b.length = 16) (h : ∀ k, k < 68 → digC b k ≤ digC a k) : a = b := by
  have h1 : ∀ k, k < 64 → dig b k ≤ dig a k := fun k hk => by
    have := h k (by omega)
    unfold digC at this
    rwa [if_pos hk, if_pos hk] at this
  have s1 : chk a ≤ chk b := sum_mono a b 64 h1
  have s2 : chk b ≤ chk a := by
    rw [chk_base a, chk_base b]
    have := h 64 (by omega)
    have := h 65 (by omega)
    have := h 66 (by omega)
    have := h 67 (by omega)
    omega
  exact digits_inj a b ha hb (sum_strict a b 64 h1 (Nat.le_antisymm s1 s2))

/-- One step of chain k, and several. -/
def stepS (k : Nat) (v : List UInt8) : List UInt8 := digestS 3 [wInt k, v]
def advS (k : Nat) (v : List UInt8) : Nat → List UInt8
  | 0 => v
  | n + 1 => stepS k (advS k v n)
theorem advS_add (k : Nat) (v : List UInt8) (a : Nat) : ∀ b, advS k (advS k v a) b = advS k v (a + b)
  | 0 => rfl
  | b + 1 => by rw [advS, advS_add k v a b, show a + (b + 1) = (a + b) + 1 from rfl, advS]
theorem advS_length (k : Nat) (v : List UInt8) (h : v.length = 16) : ∀ n, (advS k v n).length = 16
  | 0 => h
  | _ + 1 => digestS_length _ _
def wotsL : List UInt8 := [119, 111, 116, 115]
def startS (seed : List UInt8) (index : Int) (k : Nat) : List UInt8 := deriveS seed wotsL [wInt index, wInt k]
theorem startS_length (seed : List UInt8) (index : Int) (k : Nat) : (startS seed index k).length = 16 := deriveS_length _ _ _
def endsS (f : Nat → List UInt8) (n : Nat) : List UInt8 := (List.range n).flatMap f
def keyOf (f : Nat → List UInt8) : List UInt8 := digestS 4 [endsS f 68]
def publicS (seed : List UInt8) (index : Int) : List UInt8 := keyOf fun k => advS k (startS seed index k) 3
def signAt (seed : List UInt8) (index : Int) (m : List UInt8) (k : Nat) : List UInt8 := advS k (startS seed index k) (digC m k)
def recoverS (m : List UInt8) (c : Nat → List UInt8) : List UInt8 := keyOf fun k => advS k (c k) (3 - digC m k)
theorem wots_verifies (seed : List UInt8) (index : Int) (m : List UInt8) : recoverS m (signAt seed index m) = publicS seed index := by
  unfold recoverS publicS
  congr 1
  funext k
  unfold signAt
  rw [advS_add, show digC m k + (3 - digC m k) = 3 from by have := digC_le m k; omega]
theorem wots_advance (seed : List UInt8) (index : Int) (a b : List UInt8) (k : Nat) (h : digC a k ≤ digC b k) : advS k (signAt seed index a k) (digC b k - digC a k) = signAt seed index b k := by
  unfold signAt
  rw [advS_add, show digC a k + (digC b k - digC a k) = digC b k from by omega]

end Go.Proofs.YtplkplegjoabgaaGreatDoor

/-
  The arrays of digits, plain.
-/
namespace Go.Proofs.YtplkplegjoabgaaGreatDoor
open Go.RowKit

theorem and3 (n : Int) : bits .and .i64 n 3 = n % 4 := by
  have h3 : (BitVec.ofInt 64 3).toNat = 2 ^ 2 - 1 := by decide
  have key : (BitVec.ofInt 64 n &&& BitVec.ofInt 64 3).toNat = (n % ((2 ^ 64 : Nat) : Int)).toNat % 2 ^ 2 := by
    rw [BitVec.toNat_and, BitVec.toNat_ofInt, h3, Nat.and_two_pow_sub_one_eq_mod]
  show IntKind.i64.wrap ((BitVec.ofInt 64 n &&& BitVec.ofInt 64 3).toNat : Nat) = n % 4
  rw [key, IntKind.wrap_i64]
  omega
/-- n numbers as cells. -/
def icells (f : Nat → Nat) (n : Nat) : List Value := (List.range n).map fun j => Value.int .i64 ((f j : Nat) : Int)
theorem icells_length (f : Nat → Nat) (n : Nat) : (icells f n).length = n := by unfold icells; simp
theorem icells_get (f : Nat → Nat) {n k : Nat} (h : k < n) : (icells f n)[k]? = some (.int .i64 ((f k : Nat) : Int)) := by
  unfold icells
  rw [List.getElem?_map, List.getElem?_range h]
  rfl
theorem icells_congr {f g : Nat → Nat} {n : Nat} (h : ∀ j, j < n → f j = g j) : icells f n = icells g n := by
  unfold icells
  apply List.map_congr_left
  intro j hj
  rw [h j (List.mem_range.1 hj)]
theorem icells_set (f g : Nat → Nat) {n k : Nat} (v : Nat) (hk : k < n) (h : ∀ j, j < n → g j = if j = k then v else f j) : (icells f n).toArray.setIfInBounds k (.int .i64 (v : Int)) = (icells g n).toArray := by
  apply Array.ext_getElem?
  intro j
  rw [Array.getElem?_setIfInBounds]
  simp only [List.size_toArray, icells_length, List.getElem?_toArray]
  by_cases hj : k = j
  · subst hj
    rw [if_pos rfl, if_pos hk, icells_get g hk, h k hk, if_pos rfl]
  · rw [if_neg hj]
    rcases Nat.lt_or_ge j n with hlt | hge
    · rw [icells_get f hlt, icells_get g hlt, h j hlt, if_neg (fun e => hj e.symm)]
    · rw [List.getElem?_eq_none (by rw [icells_length]; exact hge), List.getElem?_eq_none (by rw [icells_length]; exact hge)]
theorem icells_step (f : Nat → Nat) (n : Nat) : icells f (n + 1) = icells f n ++ [.int .i64 ((f n : Nat) : Int)] := by unfold icells; rw [List.range_succ, List.map_append]; rfl
theorem icells_zero (n : Nat) : (icells (fun _ => 0) n).toArray = Array.replicate n (.int .i64 0) := by
  unfold icells
  apply Array.ext
  · simp
  · intro i h1 h2
    simp
def fillD (m : List UInt8) (k : Nat) : Nat → Nat := fun j => if j < k then dig m j else 0
def fillC (m : List UInt8) (k : Nat) : Nat → Nat := fun j => if j < 64 then dig m j else if 67 - j < k then digC m j else 0
theorem fillD_step (m : List UInt8) (k j : Nat) : fillD m (k + 1) j = if j = k then dig m k else fillD m k j := by
  unfold fillD
  by_cases h : j = k
  · subst h; rw [if_pos (by omega), if_pos rfl]
  · rw [if_neg h]
    by_cases h2 : j < k
    · rw [if_pos (by omega), if_pos h2]
    · rw [if_neg (by omega), if_neg h2]
theorem fillC_step (m : List UInt8) (k j : Nat) (hk : k < 4) (hj : j < 68) : fillC m (k + 1) j = if j = 67 - k then chk m / 4 ^ k % 4 else fillC m k j := by
  unfold fillC
  by_cases h : j = 67 - k
  · subst h
    rw [if_neg (by omega), if_pos (by omega), if_pos rfl, digC, if_neg (by omega), show 67 - (67 - k) = k from by omega]
  · rw [if_neg h]
    by_cases h1 : j < 64
    · rw [if_pos h1, if_pos h1]
    · rw [if_neg h1, if_neg h1]
      by_cases h2 : 67 - j < k
      · rw [if_pos (by omega), if_pos h2]
      · rw [if_neg (by omega), if_neg h2]
theorem fill_meet (m : List UInt8) : (icells (fillD m 64) 68) = icells (fillC m 0) 68 := icells_congr fun j hj => by
  unfold fillD fillC
  split
  · rfl
  · rw [if_neg (by omega)]
theorem fill_end (m : List UInt8) : icells (fillC m 4) 68 = icells (digC m) 68 := icells_congr fun j hj => by
  unfold fillC
  split
  · rename_i h; unfold digC; rw [if_pos h]
  · rw [if_pos (by omega)]
theorem dig_shift (m : List UInt8) (k : Nat) : dig m k = ((m.getD (k / 4) 0).toNat / 2 ^ (6 - 2 * (k % 4))) % 4 := by
  unfold dig
  congr 2
  have : k % 4 < 4 := Nat.mod_lt _ (by omega)
  rcases (by omega : k % 4 = 0 ∨ k % 4 = 1 ∨ k % 4 = 2 ∨ k % 4 = 3) with h | h | h | h <;> rw [h]
/-- A fresh copy, as a list of numbers. -/
def Ints (w : World) (v : Value) (f : Nat → Nat) (n : Nat) : Prop := Reads w 1 v n (icells f n)

end Go.Proofs.YtplkplegjoabgaaGreatDoor
