/-
  Several texts in one file: each has its own heading below.
-/
import Derived.Test.YtihghljfmlbfhaaGreatDoorRzK
import Derived.Deep.RegionLaw
import Derived.Deep.Cut
import Derived.Test.YtihghljfmlbfhaaGreatDoorRzI
import Derived.Test.YtihghljfmlbfhaaGreatDoorRzE
import Derived.Test.YtihghljfmlbfhaaGreatDoorRzF
import Derived.Test.YtihghljfmlbfhaaGreatDoorCards
import Derived.Test.YtihghljfmlbfhaaGreatDoorTie
import Derived.Test.YtihghljfmlbfhaaGreatDoorRzJ
import Derived.WalkKit
import Derived.ProofKit
import Derived.OpenShut
import Derived.ShutString
import Derived.ChangeOld
import Derived.Lib.SmallJoins
import Derived.Deep.Slices
import Derived.Deep.DeepHandedRow
import Derived.Lib.LaidTab
import Derived.Stop.LaidErr
import Derived.Laws.Bits128
import Derived.RangeFuncBound
set_option maxRecDepth 100000
set_option maxHeartbeats 4000000
namespace Go.Proofs.YtihghljfmlbfhaaGreatDoor
open Go.RowKit
theorem leaf_any (d : List UInt8) (w : World) (hM : ShaMem w) (hd : d.length = 16) :
  Calls Tryz.prog 114 #[.agg (d.map u8v).toArray] w fun e w' => e = .returned (.agg ((oM d).map u8v).toArray) ∧ Ext w w' := by
 have HD := hide (fun (W : World) (pv : Value) (hE : Ext w W) (h1 : Reads W 1 pv 1 [.slice (some ⟨w.heap.size, 0, none⟩) 16 16]) (h3 : Blk W w.heap.size 23 (d.map u8v).toArray) =>
  lS 1 [d] pv W (hM.ext hE) (Parts.one h1 (h3.digR hd)) (by simp) (fun p hp => by simp at hp; subst hp; omega))
 obtain ⟨arr, harr⟩ : ∃ r, (d.map u8v).toArray = r := ⟨_, rfl⟩
 rw [harr] at HD ⊢
 have HR := hide (And.intro (show fP 1 [d] = oM d from rfl) (rD d))
 obtain ⟨res, hres⟩ : ∃ r, oM d = r := ⟨_, rfl⟩
 rw [hres] at HR ⊢
 clear harr hres hd
 go_enter Tryz.func114, Tryz.ntmps114
 go_wp2_with (first
  | (go_at_call 113; refine (aA HD _ _ ((((Ext.refl w).alloc _).alloc _).alloc _) (Reads.new1' _ _ _ (g := w.heap.size + 1 + 1) (by simp)) (((Blk.new w _ _).alloc _).alloc _)).mono ?_; rintro e w5 ⟨rfl, hE5⟩; rw [(aA HR).1]; have H5 := hide (And.intro (((((Ext.refl w).alloc _).alloc _).alloc _).trans hE5) (((Blk.new' (w.alloc (.cells arr 23)) 23 (Array.replicate 16 (.int .u8 0)) (g := w.heap.size + 1) (by simp)).alloc _).ext hE5)); clear hE5)
  | (refine aH (ty := 23) (t := 23) (x := .tmp 2) (y := .tmp 5) rfl rfl aC rfl rfl (aA H5).2 rfl (by simpa using (aA HR).2) (bG _) ?_; intro w7 hb7 hc7 hz7; have H7 := hide (And.intro hb7 hc7); clear hb7 hc7 hz7))
 refine bodyPost_ret (v := .agg (res.map u8v).toArray) (aX aC rfl (aA H7).1 (by simpa using (aA HR).2) rfl) rfl ⟨rfl, ?_⟩
 exact (aA H5).1.trans' (aA H7).2 (fun _ _ h => h) (fun i hi e => by omega)
theorem aGb (d : List UInt8) (w : World)  (hd : d.length = 16) :
  Calls Tryz.prog 46 #[.agg (d.map u8v).toArray] w fun e w' => e = .returned (.agg ((oM d).map u8v).toArray) ∧ Ext w w' := by
 have HD := hide (fun (W : World) (pv : Value) (hE : Ext w W) (h1 : Reads W 1 pv 1 [.slice (some ⟨w.heap.size, 0, none⟩) 16 16]) (h3 : Blk W w.heap.size 23 (d.map u8v).toArray) =>
  jK 1 [d] pv W  (Parts.one h1 (h3.digR hd)) (by simp) (fun p hp => by simp at hp; subst hp; omega))
 obtain ⟨arr, harr⟩ : ∃ r, (d.map u8v).toArray = r := ⟨_, rfl⟩
 rw [harr] at HD ⊢
 have HR := hide (And.intro (show fP 1 [d] = oM d from rfl) (rD d))
 obtain ⟨res, hres⟩ : ∃ r, oM d = r := ⟨_, rfl⟩
 rw [hres] at HR ⊢
 clear harr hres hd
 go_enter Tryz.func46, Tryz.ntmps46
 go_wp2_with (first
  | (go_at_call 45; refine (aA HD _ _ ((((Ext.refl w).alloc _).alloc _).alloc _) (Reads.new1' _ _ _ (g := w.heap.size + 1 + 1) (by simp)) (((Blk.new w _ _).alloc _).alloc _)).mono ?_; rintro e w5 ⟨rfl, hE5⟩; rw [(aA HR).1]; have H5 := hide (And.intro (((((Ext.refl w).alloc _).alloc _).alloc _).trans hE5) (((Blk.new' (w.alloc (.cells arr 23)) 23 (Array.replicate 16 (.int .u8 0)) (g := w.heap.size + 1) (by simp)).alloc _).ext hE5)); clear hE5)
  | (refine aH (ty := 23) (t := 23) (x := .tmp 2) (y := .tmp 5) rfl rfl aC rfl rfl (aA H5).2 rfl (by simpa using (aA HR).2) (bG _) ?_; intro w7 hb7 hc7 hz7; have H7 := hide (And.intro hb7 hc7); clear hb7 hc7 hz7))
 refine bodyPost_ret (v := .agg (res.map u8v).toArray) (aX aC rfl (aA H7).1 (by simpa using (aA HR).2) rfl) rfl ⟨rfl, ?_⟩
 exact (aA H5).1.trans' (aA H7).2 (fun _ _ h => h) (fun i hi e => by omega)
theorem node_any (l r : List UInt8) (w : World) (hM : ShaMem w) (hl : l.length = 16) (hr : r.length = 16) :
  Calls Tryz.prog 115 #[.agg (l.map u8v).toArray, .agg (r.map u8v).toArray] w fun e w' => e = .returned (.agg ((aDs l r).map u8v).toArray) ∧ Ext w w' := by
 have HD := hide (fun (W : World) (pv : Value) (hE : Ext w W) (h1 : Reads W 1 pv 2 [.slice (some ⟨w.heap.size, 0, none⟩) 16 16, .slice (some ⟨w.heap.size + 1, 0, none⟩) 16 16]) (h3 : Blk W w.heap.size 23 (l.map u8v).toArray) (h4 : Blk W (w.heap.size + 1) 23 (r.map u8v).toArray) =>
  lS 2 [l, r] pv W (hM.ext hE) (Parts.two h1 (h3.digR hl) (h4.digR hr)) (by simp) (fun p hp => by simp at hp; rcases hp with rfl | rfl <;> omega))
 obtain ⟨la, hla⟩ : ∃ x, (l.map u8v).toArray = x := ⟨_, rfl⟩
 obtain ⟨ra, hra⟩ : ∃ x, (r.map u8v).toArray = x := ⟨_, rfl⟩
 rw [hla, hra] at HD ⊢
 have HR := hide (And.intro (show fP 2 [l, r] = aDs l r from rfl) (rC l r))
 obtain ⟨res, hres⟩ : ∃ x, aDs l r = x := ⟨_, rfl⟩
 rw [hres] at HR ⊢
 clear hla hra hres hl hr
 go_enter Tryz.func115, Tryz.ntmps115
 go_upto_region 1 with fail
 refine wp_region_held_drew (S := fun _ => True) (by kernel_rfl) trivial (fun hHeld => ?_)
 refine wpAnyH_take (i := 0) (v := ?_) rfl (by kernel_rfl) (by kernel_rfl) (by kernel_rfl) (fun _ _ _ h => h) (Or.inl ⟨by rfl, fun wz hSz => ?_⟩) (by assumption) ?_
 rotate_left
 ·(first | (go_simp; done) | (go_simp; with_reducible rfl))
 try simp only [Act.put, zA, zB, zC, zD, zF]
 refine wpAnyH_take (i := 1) (v := ?_) rfl (by kernel_rfl) (by kernel_rfl) (by kernel_rfl) (fun _ _ _ h => h) (Or.inl ⟨by rfl, fun wz hSz => ?_⟩) (by assumption) ?_
 rotate_left
 ·(first | (go_simp; done) | (go_simp; with_reducible rfl))
 try simp only [Act.put, zA, zB, zC, zD, zE, zF]
 refine wpAnyH_ready (rs := [2]) (by kernel_rfl) (by simp) (AllReadyH.cons (o := _) rfl (fun K hK => ?_) AllReadyH.nil)
 try go_simp
 (have hS : True := trivial; clear hHeld)
 refine hK.out _ _ ?_ (fun hHeld => ?_)
 ·exact hS
 clear hK K
 try simp only [Act.put, zA, zB, zC, zD, zE, zF]
 refine wpAnyH_ready (rs := [3]) (by kernel_rfl) (by simp) (AllReadyH.cons (o := _) rfl (fun K hK => ?_) AllReadyH.nil)
 try go_simp
 (refine (aA HD _ _ (((((Ext.refl w).alloc _).alloc _).alloc _).alloc _).drew ((Reads.new2 _ _ _ _ (g := w.heap.size + 1 + 1 + 1) (by simp)).ext (Ext.refl _).drew) (((((Blk.new w _ _).alloc _).alloc _).alloc _).drew) ((((Blk.new' _ _ _ (by simp)).alloc _).alloc _).drew)).mono ?_; rintro e w3 ⟨rfl, hE3⟩; rw [(aA HR).1]; have H3 := hide (And.intro ((((((Ext.refl w).alloc _).alloc _).alloc _).alloc _).drew.trans hE3) ((((Blk.new' ((w.alloc (.cells la 23)).alloc (.cells ra 23)) 23 (Array.replicate 16 (.int .u8 0)) (g := w.heap.size + 1 + 1) (by simp)).alloc _).drew).ext hE3)); have hS : True := trivial; clear hHeld hE3)
 refine hK.out _ _ ?_ (fun hHeld => ?_)
 ·exact hS
 clear hK K
 try simp only [Act.put, zA, zB, zC, zD, zE, zF]
 refine wpAnyH_ready (rs := [4]) (by kernel_rfl) (by simp) (AllReadyH.cons (o := _) rfl (fun K hK => ?_) AllReadyH.nil)
 (refine eP (ty := 23) (t := 23) (x := .tmp 4) (y := .tmp 8) rfl rfl aC rfl rfl (aA H3).2 rfl (by simpa using (aA HR).2) (bG _) ?_; intro w7 hb7 hc7 hz7; have H7 := hide (And.intro hb7 (Chg.trans' (aA H3).1 hc7 (fun _ _ h => h) (fun i hi e => by omega))); have hS : True := trivial; clear hHeld hb7 hc7 hz7)
 refine hK.out _ _ ?_ (fun hHeld => ?_)
 ·exact hS
 clear hK K
 try simp only [Act.put, zD, zE, zF]
 refine wpAnyH_done (by kernel_rfl) ?_ _
 go_wp2
 refine bodyPost_ret (v := .agg (res.map u8v).toArray) (aX aC rfl (aA H7).1 (by simpa using (aA HR).2) rfl) rfl ⟨rfl, ?_⟩
 exact (aA H7).2
theorem aRk (l r : List UInt8) (w : World)  (hl : l.length = 16) (hr : r.length = 16) :
  Calls Tryz.prog 48 #[.agg (l.map u8v).toArray, .agg (r.map u8v).toArray] w fun e w' => e = .returned (.agg ((aDs l r).map u8v).toArray) ∧ Ext w w' := by
 have HD := hide (fun (W : World) (pv : Value) (hE : Ext w W) (h1 : Reads W 1 pv 2 [.slice (some ⟨w.heap.size, 0, none⟩) 16 16, .slice (some ⟨w.heap.size + 1, 0, none⟩) 16 16]) (h3 : Blk W w.heap.size 23 (l.map u8v).toArray) (h4 : Blk W (w.heap.size + 1) 23 (r.map u8v).toArray) =>
  jK 2 [l, r] pv W  (Parts.two h1 (h3.digR hl) (h4.digR hr)) (by simp) (fun p hp => by simp at hp; rcases hp with rfl | rfl <;> omega))
 obtain ⟨la, hla⟩ : ∃ x, (l.map u8v).toArray = x := ⟨_, rfl⟩
 obtain ⟨ra, hra⟩ : ∃ x, (r.map u8v).toArray = x := ⟨_, rfl⟩
 rw [hla, hra] at HD ⊢
 have HR := hide (And.intro (show fP 2 [l, r] = aDs l r from rfl) (rC l r))
 obtain ⟨res, hres⟩ : ∃ x, aDs l r = x := ⟨_, rfl⟩
 rw [hres] at HR ⊢
 clear hla hra hres hl hr
 go_enter Tryz.func48, Tryz.ntmps48
 go_upto_region 1 with fail
 refine wp_region_held_drew (S := fun _ => True) (by kernel_rfl) trivial (fun hHeld => ?_)
 refine wpAnyH_take (i := 0) (v := ?_) rfl (by kernel_rfl) (by kernel_rfl) (by kernel_rfl) (fun _ _ _ h => h) (Or.inl ⟨by rfl, fun wz hSz => ?_⟩) (by assumption) ?_
 rotate_left
 ·(first | (go_simp; done) | (go_simp; with_reducible rfl))
 try simp only [Act.put, zA, zB, zC, zD, zF]
 refine wpAnyH_take (i := 1) (v := ?_) rfl (by kernel_rfl) (by kernel_rfl) (by kernel_rfl) (fun _ _ _ h => h) (Or.inl ⟨by rfl, fun wz hSz => ?_⟩) (by assumption) ?_
 rotate_left
 ·(first | (go_simp; done) | (go_simp; with_reducible rfl))
 try simp only [Act.put, zA, zB, zC, zD, zE, zF]
 refine wpAnyH_ready (rs := [2]) (by kernel_rfl) (by simp) (AllReadyH.cons (o := _) rfl (fun K hK => ?_) AllReadyH.nil)
 try go_simp
 (have hS : True := trivial; clear hHeld)
 refine hK.out _ _ ?_ (fun hHeld => ?_)
 ·exact hS
 clear hK K
 try simp only [Act.put, zA, zB, zC, zD, zE, zF]
 refine wpAnyH_ready (rs := [3]) (by kernel_rfl) (by simp) (AllReadyH.cons (o := _) rfl (fun K hK => ?_) AllReadyH.nil)
 try go_simp
 (refine (aA HD _ _ (((((Ext.refl w).alloc _).alloc _).alloc _).alloc _).drew ((Reads.new2 _ _ _ _ (g := w.heap.size + 1 + 1 + 1) (by simp)).ext (Ext.refl _).drew) (((((Blk.new w _ _).alloc _).alloc _).alloc _).drew) ((((Blk.new' _ _ _ (by simp)).alloc _).alloc _).drew)).mono ?_; rintro e w3 ⟨rfl, hE3⟩; rw [(aA HR).1]; have H3 := hide (And.intro ((((((Ext.refl w).alloc _).alloc _).alloc _).alloc _).drew.trans hE3) ((((Blk.new' ((w.alloc (.cells la 23)).alloc (.cells ra 23)) 23 (Array.replicate 16 (.int .u8 0)) (g := w.heap.size + 1 + 1) (by simp)).alloc _).drew).ext hE3)); have hS : True := trivial; clear hHeld hE3)
 refine hK.out _ _ ?_ (fun hHeld => ?_)
 ·exact hS
 clear hK K
 try simp only [Act.put, zA, zB, zC, zD, zE, zF]
 refine wpAnyH_ready (rs := [4]) (by kernel_rfl) (by simp) (AllReadyH.cons (o := _) rfl (fun K hK => ?_) AllReadyH.nil)
 (refine eP (ty := 23) (t := 23) (x := .tmp 4) (y := .tmp 8) rfl rfl aC rfl rfl (aA H3).2 rfl (by simpa using (aA HR).2) (bG _) ?_; intro w7 hb7 hc7 hz7; have H7 := hide (And.intro hb7 (Chg.trans' (aA H3).1 hc7 (fun _ _ h => h) (fun i hi e => by omega))); have hS : True := trivial; clear hHeld hb7 hc7 hz7)
 refine hK.out _ _ ?_ (fun hHeld => ?_)
 ·exact hS
 clear hK K
 try simp only [Act.put, zD, zE, zF]
 refine wpAnyH_done (by kernel_rfl) ?_ _
 go_wp2
 refine bodyPost_ret (v := .agg (res.map u8v).toArray) (aX aC rfl (aA H7).1 (by simpa using (aA HR).2) rfl) rfl ⟨rfl, ?_⟩
 exact (aA H7).2
theorem aBm (f k n : Nat) (h : ¬ k < n - k) : mY f k n = k := by
 cases f with
 | zero => rfl
 | succ f => rw [mY, if_neg h]
theorem aBl (f k n : Nat) (h : k < n - k) (hk : 0 < k) (hf : n ≤ f + k) : ∃ g, n ≤ g + 2 * k ∧ mY g (2 * k) n = mY f k n := by
 cases f with
 | zero => omega
 | succ f => exact ⟨f, by omega, by rw [mY, if_pos h]⟩
theorem aFj (n : Nat) (w : World) (h1 : 1 < n) (h2 : n ≤ 1000000) : Calls Tryz.prog 96 #[.int .i64 (n : Int)] w fun e w' => e = .returned (.int .i64 ((aG n : Nat) : Int)) ∧ w = w' := by
 have HB := hide (show mY n 1 n = aG n from rfl)
 go_enter Tryz.func96, Tryz.ntmps96
 go_wp2
 go_loop [3] (fun x => ∃ k : Nat, 0 < k ∧ k < n ∧ x = .int .i64 k ∧ Hid (∃ f, n ≤ f + k ∧ mY f k n = aG n)) (fun x => n - (intOf x).toNat)
 case atStart => exact ⟨1, by omega, h1, rfl, hide ⟨n, by omega, aA HB⟩⟩
 case round =>
  obtain ⟨k, hk0, hk, rfl, HF⟩ := hrel
  by_cases hlt : k < n - k
  ·have hltI : (k : Int) < (n : Int) - k := by omega
   go_wp2
   go_round
   case rel =>
    obtain ⟨f, hf, he⟩ := aA HF
    obtain ⟨g, hg, hge⟩ := aBl f k n hlt hk0 hf
    exact ⟨2 * k, by omega, by omega, by go_num, hide ⟨g, hg, hge.trans he⟩⟩
   case measure => simp [intOf]; omega
  ·have hltI : ¬ (k : Int) < (n : Int) - k := by omega
   go_wp2
   go_ret
   obtain ⟨f, hf, he⟩ := aA HF
   rw [aBm f k n hlt] at he
   exact ⟨pF (by omega), rfl⟩
theorem aBt (n : Nat) (w : World) (h1 : 1 < n) (h2 : n ≤ 1000000) : Calls Tryz.prog 47 #[.int .i64 (n : Int)] w fun e w' => e = .returned (.int .i64 ((aG n : Nat) : Int)) ∧ w = w' := by
 have HB := hide (show mY n 1 n = aG n from rfl)
 go_enter Tryz.func47, Tryz.ntmps47
 go_wp2
 go_loop [3] (fun x => ∃ k : Nat, 0 < k ∧ k < n ∧ x = .int .i64 k ∧ Hid (∃ f, n ≤ f + k ∧ mY f k n = aG n)) (fun x => n - (intOf x).toNat)
 case atStart => exact ⟨1, by omega, h1, rfl, hide ⟨n, by omega, aA HB⟩⟩
 case round =>
  obtain ⟨k, hk0, hk, rfl, HF⟩ := hrel
  by_cases hlt : k < n - k
  ·have hltI : (k : Int) < (n : Int) - k := by omega
   go_wp2
   go_round
   case rel =>
    obtain ⟨f, hf, he⟩ := aA HF
    obtain ⟨g, hg, hge⟩ := aBl f k n hlt hk0 hf
    exact ⟨2 * k, by omega, by omega, by go_num, hide ⟨g, hg, hge.trans he⟩⟩
   case measure => simp [intOf]; omega
  ·have hltI : ¬ (k : Int) < (n : Int) - k := by omega
   go_wp2
   go_ret
   obtain ⟨f, hf, he⟩ := aA HF
   rw [aBm f k n hlt] at he
   exact ⟨pF (by omega), rfl⟩
theorem take_eq (l : List (List UInt8)) (k : Nat) : (l.drop 0).take k = l.take k := by rw [List.drop_zero]
theorem drop_eq (l : List (List UInt8)) (k : Nat) : (l.drop k).take (l.length - k) = l.drop k := by rw [List.take_of_length_le (by rw [List.length_drop]; omega)]
theorem Digs.one {w : World} {v : Value} {d : List UInt8} (h : Digs w v [d]) : ∃ b o c, v = .slice (some ⟨b, o, none⟩) 1 c ∧ b < w.heap.size ∧ w.rangeAt b o (d.map u8v) := by
 obtain ⟨b, o, c, h1, _, _, h2, h3⟩ := h.at (k := 0) (by simp)
 exact ⟨b, o, c, h1, h2, by simpa using h3⟩
theorem Digs.parts {w : World} {v : Value} {ds : List (List UInt8)} (h : Digs w v ds) (hn : 1 < ds.length) {k : Nat} (h1 : 0 < k) (h2 : k < ds.length) : ∃ b o c, v = .slice (some ⟨b, o, none⟩) ds.length c ∧ ds.length ≤ c ∧ c ≤ maxLen ∧ b < w.heap.size ∧
  (∀ c', k ≤ c' → c' ≤ maxLen → Digs w (.slice (some ⟨b, o, none⟩) k c') (ds.take k)) ∧ (∀ c', ds.length - k ≤ c' → c' ≤ maxLen → Digs w (.slice (some ⟨b, o + k * 16, none⟩) (ds.length - k) c') (ds.drop k)) := by
 obtain ⟨b, o, c, rfl, hc1, hc2, hb, _⟩ := h.at (k := 0) (by omega)
 refine ⟨b, o, c, rfl, hc1, hc2, hb, fun c' h3 h4 => ?_, fun c' h3 h4 => ?_⟩
 ·obtain ⟨b', o', c2, e, hD⟩ := h.sub 0 k c' (by omega) h1 h3 h4
  cases e
  rw [take_eq, Nat.zero_mul, Nat.add_zero] at hD
  exact hD
 ·obtain ⟨b', o', c2, e, hD⟩ := h.sub k (ds.length - k) c' (by omega) (by omega) h3 h4
  cases e
  rw [drop_eq] at hD
  exact hD
theorem aLa (N : Nat) : ∀ (ds : List (List UInt8)) (v : Value) (w : World), ShaMem w → ds.length ≤ N → ds.length ≤ 100000 → Digs w v ds →
  Calls Tryz.prog 97 #[v] w fun e w' => e = .returned (.agg ((iC ds).map u8v).toArray) ∧ Ext w w' := by
 induction N with
 | zero =>
  intro ds v w hM hN _ hD
  obtain rfl : ds = [] := List.eq_nil_of_length_eq_zero (by omega)
  obtain ⟨A, c, rfl, _, _⟩ := hD.form
  have HG := hide (fun (W : World) (hE : Ext w W) => lS 1 [] (.slice none 0 0) W (hM.ext hE) (Parts.nil W) (by simp) (fun p hp => by cases hp))
  have HR := hide (And.intro (show fP 1 [] = iC [] from rfl) (bW []))
  obtain ⟨res, hres⟩ : ∃ x, iC [] = x := ⟨_, rfl⟩
  rw [hres] at HR ⊢
  clear hres hD
  go_enter Tryz.func97, Tryz.ntmps97
  go_wp2_with (first
   | (go_at_call 113; refine (aA HG _ ((Ext.refl w).alloc _)).mono ?_; rintro e w5 ⟨rfl, hE5⟩; rw [(aA HR).1]; have H5 := hide (And.intro (((Ext.refl w).alloc _).trans hE5) ((Blk.new w 23 (Array.replicate 16 (.int .u8 0))).ext hE5)); clear hE5)
   | (refine aH (ty := 23) (t := 23) (x := .tmp 2) (y := .tmp 24) rfl rfl aC rfl rfl (aA H5).2 rfl (by simpa using (aA HR).2) (bG _) ?_; intro w7 hb7 hc7 hz7; have H7 := hide (And.intro hb7 hc7); clear hb7 hc7 hz7))
  refine bodyPost_ret (v := .agg (res.map u8v).toArray) (aX aC rfl (aA H7).1 (by simpa using (aA HR).2) rfl) rfl ⟨rfl, ?_⟩
  exact (aA H5).1.trans' (aA H7).2 (fun _ _ h => h) (fun i hi e => by omega)
 | succ N ih =>
  intro ds v w hM hN h5 hD
  rcases (by omega : ds.length = 0 ∨ ds.length = 1 ∨ 1 < ds.length) with h | h | h
  ·obtain rfl : ds = [] := List.eq_nil_of_length_eq_zero h
   obtain ⟨A, c, rfl, _, _⟩ := hD.form
   have HG := hide (fun (W : World) (hE : Ext w W) => lS 1 [] (.slice none 0 0) W (hM.ext hE) (Parts.nil W) (by simp) (fun p hp => by cases hp))
   have HR := hide (And.intro (show fP 1 [] = iC [] from rfl) (bW []))
   obtain ⟨res, hres⟩ : ∃ x, iC [] = x := ⟨_, rfl⟩
   rw [hres] at HR ⊢
   clear hres hD ih
   go_enter Tryz.func97, Tryz.ntmps97
   go_wp2_with (first
    | (go_at_call 113; refine (aA HG _ ((Ext.refl w).alloc _)).mono ?_; rintro e w5 ⟨rfl, hE5⟩; rw [(aA HR).1]; have H5 := hide (And.intro (((Ext.refl w).alloc _).trans hE5) ((Blk.new w 23 (Array.replicate 16 (.int .u8 0))).ext hE5)); clear hE5)
    | (refine aH (ty := 23) (t := 23) (x := .tmp 2) (y := .tmp 24) rfl rfl aC rfl rfl (aA H5).2 rfl (by simpa using (aA HR).2) (bG _) ?_; intro w7 hb7 hc7 hz7; have H7 := hide (And.intro hb7 hc7); clear hb7 hc7 hz7))
   refine bodyPost_ret (v := .agg (res.map u8v).toArray) (aX aC rfl (aA H7).1 (by simpa using (aA HR).2) rfl) rfl ⟨rfl, ?_⟩
   exact (aA H5).1.trans' (aA H7).2 (fun _ _ h => h) (fun i hi e => by omega)
  ·obtain ⟨d, rfl⟩ : ∃ d, ds = [d] := by
    match ds, h with
    | [d], _ => exact ⟨d, rfl⟩
   have hd : d.length = 16 := hD.1 d (by simp)
   obtain ⟨b, o, c, rfl, hb, hR⟩ := hD.one
   have HG := hide (fun (W : World) (hE : Ext w W) => leaf_any d W (hM.ext hE) hd)
   have HR := hide (And.intro (yZ d) (bW [d]))
   obtain ⟨res, hres⟩ : ∃ x, iC [d] = x := ⟨_, rfl⟩
   rw [hres] at HR ⊢
   obtain ⟨cs, hcs⟩ : ∃ x, d.map u8v = x := ⟨_, rfl⟩
   have hcl : cs.length = 16 := by rw [← hcs]; simpa using hd
   rw [hcs] at HG hR
   have HA := hide (zN hR ((Ext.refl w).alloc (.cells (Array.replicate 16 (.int .u8 0)) 23)))
   clear hres hD ih hcs hR
   go_enter Tryz.func97, Tryz.ntmps97
   go_wp2_with (first
    | (refine uI (by rfl) (ty := 23) (x := .tmp 28) rfl aC rfl (aA HA) hcl ?_)
    | (go_at_call 114; refine (aA HG _ ((Ext.refl w).alloc _)).mono ?_; rintro e w5 ⟨rfl, hE5⟩; rw [← (aA HR).1]; have H5 := hide (And.intro (((Ext.refl w).alloc _).trans hE5) ((Blk.new w 23 (Array.replicate 16 (.int .u8 0))).ext hE5)); clear hE5)
    | (refine aH (ty := 23) (t := 23) (x := .tmp 2) (y := .tmp 30) rfl rfl aC rfl rfl (aA H5).2 rfl (by simpa using (aA HR).2) (bG _) ?_; intro w7 hb7 hc7 hz7; have H7 := hide (And.intro hb7 hc7); clear hb7 hc7 hz7))
   refine bodyPost_ret (v := .agg (res.map u8v).toArray) (aX aC rfl (aA H7).1 (by simpa using (aA HR).2) rfl) rfl ⟨rfl, ?_⟩
   exact (aA H5).1.trans' (aA H7).2 (fun _ _ h => h) (fun i hi e => by omega)
  ·have hb := eY ds.length h
   have HSp := hide (fun W => aFj ds.length W h (by omega))
   obtain ⟨b, o, c, rfl, hc1, hc2, hbl, hL, hRt⟩ := hD.parts h hb.1 hb.2
   have e16 : 16 = 16 := rfl
   have hll : (ds.take (aG ds.length)).length = aG ds.length := by rw [List.length_take]; omega
   have hrl : (ds.drop (aG ds.length)).length = ds.length - aG ds.length := by rw [List.length_drop]
   have HA := hide (fun (W : World) (hE : Ext w W) => ih (ds.take (aG ds.length)) (.slice (some ⟨b, o, none⟩) (aG ds.length) (aG ds.length)) W (hM.ext hE) (by omega) (by omega) ((hL (aG ds.length) (by omega) (by omega)).ext hE))
   have HB := hide (fun (W : World) (hE : Ext w W) => ih (ds.drop (aG ds.length)) (.slice (some ⟨b, o + aG ds.length * 16, none⟩) (ds.length - aG ds.length) (ds.length - aG ds.length)) W (hM.ext hE) (by omega) (by omega) ((hRt (ds.length - aG ds.length) (by omega) (by omega)).ext hE))
   have HN := hide (fun (W : World) (hE : Ext w W) => node_any (iC (ds.take (aG ds.length))) (iC (ds.drop (aG ds.length))) W (hM.ext hE) (bW _) (bW _))
   have HR := hide (And.intro (yY ds h) (bW ds))
   obtain ⟨res, hres⟩ : ∃ x, iC ds = x := ⟨_, rfl⟩
   rw [hres] at HR ⊢
   generalize aG ds.length = k at *
   generalize iC (ds.take k) = ra at *
   generalize iC (ds.drop k) = rb at *
   generalize ds.length = n at *
   unfold maxLen at hc2
   have hk1 : k ≤ n := by omega
   have hk2 : k ≤ c := by omega
   have hk3 : ¬ n = k := by omega
   have hk4 : ¬ c = k := by omega
   clear hres hD ih hL hRt hll hrl
   go_enter Tryz.func97, Tryz.ntmps97
   go_upto_region 4 with (go_at_call 96; refine (aA HSp _).mono ?_; rintro e w1 ⟨rfl, rfl⟩)
   refine wp_region_held_drew (S := fun _ => True) (by kernel_rfl) trivial (fun hHeld => ?_)
   refine wpAnyH_take (i := 0) (v := ?_) rfl (by kernel_rfl) (by kernel_rfl) (by kernel_rfl) (fun _ _ _ h => h) (Or.inl ⟨by rfl, fun wz hSz => ?_⟩) (by assumption) ?_
   rotate_left
   ·(first | (go_simp; done) | (go_simp; with_reducible rfl))
   try simp only [Act.put, zA, zB, zC, zD, zF]
   refine wpAnyH_take (i := 1) (v := ?_) rfl (by kernel_rfl) (by kernel_rfl) (by kernel_rfl) (fun _ _ _ h => h) (Or.inl ⟨by rfl, fun wz hSz => ?_⟩) (by assumption) ?_
   rotate_left
   ·(first | (go_simp; done) | (go_simp; with_reducible rfl))
   try simp only [Act.put, zA, zB, zC, zD, zE, zF]
   refine wpAnyH_take (i := 2) (v := ?_) rfl (by kernel_rfl) (by kernel_rfl) (by kernel_rfl) (fun _ _ _ h => h) (Or.inl ⟨by rfl, fun wz hSz => ?_⟩) (by assumption) ?_
   rotate_left
   ·(first | (go_simp; done) | (go_simp; with_reducible rfl))
   try simp only [Act.put, zA, zB, zC, zD, zE, zF]
   refine wpAnyH_take (i := 3) (v := ?_) rfl (by kernel_rfl) (by kernel_rfl) (by kernel_rfl) (fun _ _ _ h => h) (Or.inl ⟨by rfl, fun wz hSz => ?_⟩) (by assumption) ?_
   rotate_left
   ·(first | (go_simp; done) | (go_simp; with_reducible rfl))
   try simp only [Act.put, zA, zB, zC, zD, zE, zF]
   refine wpAnyH_take (i := 5) (v := ?_) rfl (by kernel_rfl) (by kernel_rfl) (by kernel_rfl) (fun _ _ _ h => h) (Or.inl ⟨by rfl, fun wz hSz => ?_⟩) (by assumption) ?_
   rotate_left
   ·(first | (go_simp; done) | (go_simp; with_reducible rfl))
   try simp only [Act.put, zA, zB, zC, zD, zE, zF]
   refine wpAnyH_take (i := 6) (v := ?_) rfl (by kernel_rfl) (by kernel_rfl) (by kernel_rfl) (fun _ _ _ h => h) (Or.inl ⟨by rfl, fun wz hSz => ?_⟩) (by assumption) ?_
   rotate_left
   ·(first | (go_simp; done) | (go_simp; with_reducible rfl))
   try simp only [Act.put, zA, zB, zC, zD, zE, zF]
   refine wpAnyH_take (i := 7) (v := ?_) rfl (by kernel_rfl) (by kernel_rfl) (by kernel_rfl) (fun _ _ _ h => h) (Or.inl ⟨by rfl, fun wz hSz => ?_⟩) (by assumption) ?_
   rotate_left
   ·(first | (go_simp; done) | (go_simp; with_reducible rfl))
   try simp only [Act.put, zA, zB, zC, zD, zE, zF]
   refine wpAnyH_take (i := 8) (v := ?_) rfl (by kernel_rfl) (by kernel_rfl) (by kernel_rfl) (fun _ _ _ h => h) (Or.inl ⟨by rfl, fun wz hSz => ?_⟩) (by assumption) ?_
   rotate_left
   ·(first | (go_simp; done) | (go_simp; with_reducible rfl))
   try simp only [Act.put, zA, zB, zC, zD, zE, zF]
   refine wpAnyH_take (i := 9) (v := ?_) rfl (by kernel_rfl) (by kernel_rfl) (by kernel_rfl) (fun _ _ _ h => h) (Or.inl ⟨by rfl, fun wz hSz => ?_⟩) (by assumption) ?_
   rotate_left
   ·(first | (go_simp; done) | (go_simp; with_reducible rfl))
   try simp only [Act.put, zA, zB, zC, zD, zE, zF]
   refine wpAnyH_ready (rs := [4]) (by kernel_rfl) (by simp) (AllReadyH.cons (o := _) rfl (fun K hK => ?_) AllReadyH.nil)
   try go_simp
   (refine (aA HA _ (((Ext.refl w).alloc _).drew)).mono ?_; rintro e w3 ⟨rfl, hE3⟩; have H3 := hide (And.intro ((((Ext.refl w).alloc _).drew).trans hE3) (((Blk.new w 23 (Array.replicate 16 (.int .u8 0))).drew).ext hE3)); have hS : True := trivial; clear hHeld hE3)
   refine hK.out _ _ ?_ (fun hHeld => ?_)
   ·exact hS
   clear hK K
   try simp only [Act.put, zA, zB, zC, zD, zE, zF]
   refine wpAnyH_ready (rs := [10]) (by kernel_rfl) (by simp) (AllReadyH.cons (o := _) rfl (fun K hK => ?_) AllReadyH.nil)
   try go_simp
   (refine (aA HB _ (aA H3).1).mono ?_; rintro e w4 ⟨rfl, hE4⟩; have H4 := hide (And.intro ((aA H3).1.trans hE4) ((aA H3).2.ext hE4)); have hS : True := trivial; clear hHeld hE4 H3)
   refine hK.out _ _ ?_ (fun hHeld => ?_)
   ·exact hS
   clear hK K
   try simp only [Act.put, zA, zB, zC, zD, zE, zF]
   refine wpAnyH_ready (rs := [11]) (by kernel_rfl) (by simp) (AllReadyH.cons (o := _) rfl (fun K hK => ?_) AllReadyH.nil)
   try go_simp
   (refine (aA HN _ (aA H4).1).mono ?_; rintro e w5 ⟨rfl, hE5⟩; rw [← (aA HR).1]; have H5 := hide (And.intro ((aA H4).1.trans hE5) ((aA H4).2.ext hE5)); have hS : True := trivial; clear hHeld hE5 H4)
   refine hK.out _ _ ?_ (fun hHeld => ?_)
   ·exact hS
   clear hK K
   try simp only [Act.put, zA, zB, zC, zD, zE, zF]
   refine wpAnyH_ready (rs := [12]) (by kernel_rfl) (by simp) (AllReadyH.cons (o := _) rfl (fun K hK => ?_) AllReadyH.nil)
   (refine eP (ty := 23) (t := 23) (x := .tmp 2) (y := .tmp 21) rfl rfl aC rfl rfl (aA H5).2 rfl (by simpa using (aA HR).2) (bG _) ?_; intro w7 hb7 hc7 hz7; have H7 := hide (And.intro hb7 (Chg.trans' (aA H5).1 hc7 (fun _ _ h => h) (fun i hi e => by omega))); have hS : True := trivial; clear hHeld hb7 hc7 hz7)
   refine hK.out _ _ ?_ (fun hHeld => ?_)
   ·exact hS
   clear hK K
   try simp only [Act.put, zD, zE, zF]
   refine wpAnyH_done (by kernel_rfl) ?_ _
   go_wp2
   refine bodyPost_ret (v := .agg (res.map u8v).toArray) (aX aC rfl (aA H7).1 (by simpa using (aA HR).2) rfl) rfl ⟨rfl, ?_⟩
   exact (aA H7).2
theorem yU (N : Nat) : ∀ (ds : List (List UInt8)) (v : Value) (w : World),  ds.length ≤ N → ds.length ≤ 100000 → Digs w v ds →
  Calls Tryz.prog 26 #[v] w fun e w' => e = .returned (.agg ((iC ds).map u8v).toArray) ∧ Ext w w' := by
 induction N with
 | zero =>
  intro ds v w  hN _ hD
  obtain rfl : ds = [] := List.eq_nil_of_length_eq_zero (by omega)
  obtain ⟨A, c, rfl, _, _⟩ := hD.form
  have HG := hide (fun (W : World) (hE : Ext w W) => jK 1 [] (.slice none 0 0) W  (Parts.nil W) (by simp) (fun p hp => by cases hp))
  have HR := hide (And.intro (show fP 1 [] = iC [] from rfl) (bW []))
  obtain ⟨res, hres⟩ : ∃ x, iC [] = x := ⟨_, rfl⟩
  rw [hres] at HR ⊢
  clear hres hD
  go_enter Tryz.func26, Tryz.ntmps26
  go_wp2_with (first
   | (go_at_call 45; refine (aA HG _ ((Ext.refl w).alloc _)).mono ?_; rintro e w5 ⟨rfl, hE5⟩; rw [(aA HR).1]; have H5 := hide (And.intro (((Ext.refl w).alloc _).trans hE5) ((Blk.new w 23 (Array.replicate 16 (.int .u8 0))).ext hE5)); clear hE5)
   | (refine aH (ty := 23) (t := 23) (x := .tmp 2) (y := .tmp 7) rfl rfl aC rfl rfl (aA H5).2 rfl (by simpa using (aA HR).2) (bG _) ?_; intro w7 hb7 hc7 hz7; have H7 := hide (And.intro hb7 hc7); clear hb7 hc7 hz7))
  refine bodyPost_ret (v := .agg (res.map u8v).toArray) (aX aC rfl (aA H7).1 (by simpa using (aA HR).2) rfl) rfl ⟨rfl, ?_⟩
  exact (aA H5).1.trans' (aA H7).2 (fun _ _ h => h) (fun i hi e => by omega)
 | succ N ih =>
  intro ds v w  hN h5 hD
  rcases (by omega : ds.length = 0 ∨ ds.length = 1 ∨ 1 < ds.length) with h | h | h
  ·obtain rfl : ds = [] := List.eq_nil_of_length_eq_zero h
   obtain ⟨A, c, rfl, _, _⟩ := hD.form
   have HG := hide (fun (W : World) (hE : Ext w W) => jK 1 [] (.slice none 0 0) W  (Parts.nil W) (by simp) (fun p hp => by cases hp))
   have HR := hide (And.intro (show fP 1 [] = iC [] from rfl) (bW []))
   obtain ⟨res, hres⟩ : ∃ x, iC [] = x := ⟨_, rfl⟩
   rw [hres] at HR ⊢
   clear hres hD ih
   go_enter Tryz.func26, Tryz.ntmps26
   go_wp2_with (first
    | (go_at_call 45; refine (aA HG _ ((Ext.refl w).alloc _)).mono ?_; rintro e w5 ⟨rfl, hE5⟩; rw [(aA HR).1]; have H5 := hide (And.intro (((Ext.refl w).alloc _).trans hE5) ((Blk.new w 23 (Array.replicate 16 (.int .u8 0))).ext hE5)); clear hE5)
    | (refine aH (ty := 23) (t := 23) (x := .tmp 2) (y := .tmp 7) rfl rfl aC rfl rfl (aA H5).2 rfl (by simpa using (aA HR).2) (bG _) ?_; intro w7 hb7 hc7 hz7; have H7 := hide (And.intro hb7 hc7); clear hb7 hc7 hz7))
   refine bodyPost_ret (v := .agg (res.map u8v).toArray) (aX aC rfl (aA H7).1 (by simpa using (aA HR).2) rfl) rfl ⟨rfl, ?_⟩
   exact (aA H5).1.trans' (aA H7).2 (fun _ _ h => h) (fun i hi e => by omega)
  ·obtain ⟨d, rfl⟩ : ∃ d, ds = [d] := by
    match ds, h with
    | [d], _ => exact ⟨d, rfl⟩
   have hd : d.length = 16 := hD.1 d (by simp)
   obtain ⟨b, o, c, rfl, hb, hR⟩ := hD.one
   have HG := hide (fun (W : World) (hE : Ext w W) => aGb d W  hd)
   have HR := hide (And.intro (yZ d) (bW [d]))
   obtain ⟨res, hres⟩ : ∃ x, iC [d] = x := ⟨_, rfl⟩
   rw [hres] at HR ⊢
   obtain ⟨cs, hcs⟩ : ∃ x, d.map u8v = x := ⟨_, rfl⟩
   have hcl : cs.length = 16 := by rw [← hcs]; simpa using hd
   rw [hcs] at HG hR
   have HA := hide (zN hR ((Ext.refl w).alloc (.cells (Array.replicate 16 (.int .u8 0)) 23)))
   clear hres hD ih hcs hR
   go_enter Tryz.func26, Tryz.ntmps26
   go_wp2_with (first
    | (refine uI (by rfl) (ty := 23) (x := .tmp 12) rfl aC rfl (aA HA) hcl ?_)
    | (go_at_call 46; refine (aA HG _ ((Ext.refl w).alloc _)).mono ?_; rintro e w5 ⟨rfl, hE5⟩; rw [← (aA HR).1]; have H5 := hide (And.intro (((Ext.refl w).alloc _).trans hE5) ((Blk.new w 23 (Array.replicate 16 (.int .u8 0))).ext hE5)); clear hE5)
    | (refine aH (ty := 23) (t := 23) (x := .tmp 2) (y := .tmp 14) rfl rfl aC rfl rfl (aA H5).2 rfl (by simpa using (aA HR).2) (bG _) ?_; intro w7 hb7 hc7 hz7; have H7 := hide (And.intro hb7 hc7); clear hb7 hc7 hz7))
   refine bodyPost_ret (v := .agg (res.map u8v).toArray) (aX aC rfl (aA H7).1 (by simpa using (aA HR).2) rfl) rfl ⟨rfl, ?_⟩
   exact (aA H5).1.trans' (aA H7).2 (fun _ _ h => h) (fun i hi e => by omega)
  ·have hb := eY ds.length h
   have HSp := hide (fun W => aBt ds.length W h (by omega))
   obtain ⟨b, o, c, rfl, hc1, hc2, hbl, hL, hRt⟩ := hD.parts h hb.1 hb.2
   have e16 : 16 = 16 := rfl
   have hll : (ds.take (aG ds.length)).length = aG ds.length := by rw [List.length_take]; omega
   have hrl : (ds.drop (aG ds.length)).length = ds.length - aG ds.length := by rw [List.length_drop]
   have HA := hide (fun (W : World) (hE : Ext w W) => ih (ds.take (aG ds.length)) (.slice (some ⟨b, o, none⟩) (aG ds.length) c) W  (by omega) (by omega) ((hL c (by omega) (by omega)).ext hE))
   have HB := hide (fun (W : World) (hE : Ext w W) => ih (ds.drop (aG ds.length)) (.slice (some ⟨b, o + aG ds.length * 16, none⟩) (ds.length - aG ds.length) (c - aG ds.length)) W  (by omega) (by omega) ((hRt (c - aG ds.length) (by omega) (by omega)).ext hE))
   have HN := hide (fun (W : World) (hE : Ext w W) => aRk (iC (ds.take (aG ds.length))) (iC (ds.drop (aG ds.length))) W  (bW _) (bW _))
   have HR := hide (And.intro (yY ds h) (bW ds))
   obtain ⟨res, hres⟩ : ∃ x, iC ds = x := ⟨_, rfl⟩
   rw [hres] at HR ⊢
   generalize aG ds.length = k at *
   generalize iC (ds.take k) = ra at *
   generalize iC (ds.drop k) = rb at *
   generalize ds.length = n at *
   unfold maxLen at hc2
   have hk1 : k ≤ n := by omega
   have hk2 : k ≤ c := by omega
   have hk3 : ¬ n = k := by omega
   have hk4 : ¬ c = k := by omega
   clear hres hD ih hL hRt hll hrl
   go_enter Tryz.func26, Tryz.ntmps26
   go_upto_region 6 with (go_at_call 47; refine (aA HSp _).mono ?_; rintro e w1 ⟨rfl, rfl⟩)
   refine wp_region_held_drew (S := fun _ => True) (by kernel_rfl) trivial (fun hHeld => ?_)
   refine wpAnyH_take (i := 0) (v := ?_) rfl (by kernel_rfl) (by kernel_rfl) (by kernel_rfl) (fun _ _ _ h => h) (Or.inl ⟨by rfl, fun wz hSz => ?_⟩) (by assumption) ?_
   rotate_left
   ·(first | (go_simp; done) | (go_simp; with_reducible rfl))
   try simp only [Act.put, zA, zB, zC, zD, zF]
   refine wpAnyH_take (i := 1) (v := ?_) rfl (by kernel_rfl) (by kernel_rfl) (by kernel_rfl) (fun _ _ _ h => h) (Or.inl ⟨by rfl, fun wz hSz => ?_⟩) (by assumption) ?_
   rotate_left
   ·(first | (go_simp; done) | (go_simp; with_reducible rfl))
   try simp only [Act.put, zA, zB, zC, zD, zE, zF]
   refine wpAnyH_take (i := 2) (v := ?_) rfl (by kernel_rfl) (by kernel_rfl) (by kernel_rfl) (fun _ _ _ h => h) (Or.inl ⟨by rfl, fun wz hSz => ?_⟩) (by assumption) ?_
   rotate_left
   ·(first | (go_simp; done) | (go_simp; with_reducible rfl))
   try simp only [Act.put, zA, zB, zC, zD, zE, zF]
   refine wpAnyH_take (i := 4) (v := ?_) rfl (by kernel_rfl) (by kernel_rfl) (by kernel_rfl) (fun _ _ _ h => h) (Or.inl ⟨by rfl, fun wz hSz => ?_⟩) (by assumption) ?_
   rotate_left
   ·(first | (go_simp; done) | (go_simp; with_reducible rfl))
   try simp only [Act.put, zA, zB, zC, zD, zE, zF]
   refine wpAnyH_take (i := 5) (v := ?_) rfl (by kernel_rfl) (by kernel_rfl) (by kernel_rfl) (fun _ _ _ h => h) (Or.inl ⟨by rfl, fun wz hSz => ?_⟩) (by assumption) ?_
   rotate_left
   ·(first | (go_simp; done) | (go_simp; with_reducible rfl))
   try simp only [Act.put, zA, zB, zC, zD, zE, zF]
   refine wpAnyH_take (i := 6) (v := ?_) rfl (by kernel_rfl) (by kernel_rfl) (by kernel_rfl) (fun _ _ _ h => h) (Or.inl ⟨by rfl, fun wz hSz => ?_⟩) (by assumption) ?_
   rotate_left
   ·(first | (go_simp; done) | (go_simp; with_reducible rfl))
   try simp only [Act.put, zA, zB, zC, zD, zE, zF]
   refine wpAnyH_ready (rs := [3]) (by kernel_rfl) (by simp) (AllReadyH.cons (o := _) rfl (fun K hK => ?_) AllReadyH.nil)
   try go_simp
   (refine (aA HA _ (((Ext.refl w).alloc _).drew)).mono ?_; rintro e w3 ⟨rfl, hE3⟩; have H3 := hide (And.intro ((((Ext.refl w).alloc _).drew).trans hE3) (((Blk.new w 23 (Array.replicate 16 (.int .u8 0))).drew).ext hE3)); have hS : True := trivial; clear hHeld hE3)
   refine hK.out _ _ ?_ (fun hHeld => ?_)
   ·exact hS
   clear hK K
   try simp only [Act.put, zA, zB, zC, zD, zE, zF]
   refine wpAnyH_ready (rs := [7]) (by kernel_rfl) (by simp) (AllReadyH.cons (o := _) rfl (fun K hK => ?_) AllReadyH.nil)
   try go_simp
   (refine (aA HB _ (aA H3).1).mono ?_; rintro e w4 ⟨rfl, hE4⟩; have H4 := hide (And.intro ((aA H3).1.trans hE4) ((aA H3).2.ext hE4)); have hS : True := trivial; clear hHeld hE4 H3)
   refine hK.out _ _ ?_ (fun hHeld => ?_)
   ·exact hS
   clear hK K
   try simp only [Act.put, zA, zB, zC, zD, zE, zF]
   refine wpAnyH_ready (rs := [8]) (by kernel_rfl) (by simp) (AllReadyH.cons (o := _) rfl (fun K hK => ?_) AllReadyH.nil)
   try go_simp
   (refine (aA HN _ (aA H4).1).mono ?_; rintro e w5 ⟨rfl, hE5⟩; rw [← (aA HR).1]; have H5 := hide (And.intro ((aA H4).1.trans hE5) ((aA H4).2.ext hE5)); have hS : True := trivial; clear hHeld hE5 H4)
   refine hK.out _ _ ?_ (fun hHeld => ?_)
   ·exact hS
   clear hK K
   try simp only [Act.put, zA, zB, zC, zD, zE, zF]
   refine wpAnyH_ready (rs := [9]) (by kernel_rfl) (by simp) (AllReadyH.cons (o := _) rfl (fun K hK => ?_) AllReadyH.nil)
   (refine eP (ty := 23) (t := 23) (x := .tmp 2) (y := .tmp 26) rfl rfl aC rfl rfl (aA H5).2 rfl (by simpa using (aA HR).2) (bG _) ?_; intro w7 hb7 hc7 hz7; have H7 := hide (And.intro hb7 (Chg.trans' (aA H5).1 hc7 (fun _ _ h => h) (fun i hi e => by omega))); have hS : True := trivial; clear hHeld hb7 hc7 hz7)
   refine hK.out _ _ ?_ (fun hHeld => ?_)
   ·exact hS
   clear hK K
   try simp only [Act.put, zD, zE, zF]
   refine wpAnyH_done (by kernel_rfl) ?_ _
   go_wp2
   refine bodyPost_ret (v := .agg (res.map u8v).toArray) (aX aC rfl (aA H7).1 (by simpa using (aA HR).2) rfl) rfl ⟨rfl, ?_⟩
   exact (aA H7).2
end Go.Proofs.YtihghljfmlbfhaaGreatDoor
namespace Go.Proofs.YtihghljfmlbfhaaGreatDoor.Pv
open Go.RowKit
theorem rl_bytes {C : Ctx} {k : Nat} {bs : List UInt8} {cs : Array Value} (h : RL C [.bs k bs] cs.toList) : bs.length = k ∧ cs = (bs.map u8v).toArray := by
 obtain ⟨h1, h2⟩ := h.bs1
 exact ⟨h1, by apply Array.ext'; exact h2⟩
theorem rv_dig {C : Ctx} {k : Nat} {bs : List UInt8} {v : Value} (h : RV C (.w (.agg [.bs k bs])) v) : bs.length = k ∧ v = .agg (bs.map u8v).toArray := by
 cases h with
 | w h => cases h with
  | agg h =>
   obtain ⟨h1, h2⟩ := rl_bytes h
   exact ⟨h1, by rw [h2]⟩
section
variable {A : Amb} {s : St} {a : Act} {w : World} {env : Env} {F : Option Bool → PV → Wr → Prop}
def aVa : List PC → List UInt8
 | [.bs _ l] => l
 | _ => []
def isDig : List PC → Bool
 | [.bs n _] => Nat.beq n 16
 | _ => false
def digF (l : List (List UInt8)) : Nat → List PC := fun i => [.bs 16 (l.getD i [])]
def rowD (len : Nat) (f : Nat → List PC) : List (List UInt8) := (List.range len).map fun i => aVa (f i)
def aMp (len : Nat) (f : Nat → List PC) : Prop := ∀ i, i < len → isDig (f i) = true
theorem oW (n : Nat) (f : Nat → List PC) : (rowD n f).length = n := by simp [rowD]
@[simp] theorem isDRow_digF (n : Nat) (l : List (List UInt8)) : aMp n (digF l) := fun _ _ => rfl
@[simp] theorem aFx (l : List (List UInt8)) : rowD l.length (digF l) = l := by
 apply List.ext_getElem (oW _ _)
 intro i h1 h2
 simp only [rowD, List.getElem_map, List.getElem_range, digF, aVa]
 rw [zG, zH h2]
 rfl
theorem aCo {C : Ctx} {len : Nat} {f : Nat → List PC} {vs : List Value} (hl : vs.length = len * 16) (h : ∀ i, i < len → RL C (f i) ((vs.drop (i * 16)).take 16)) (hb : aMp len f) : vs = iP (rowD len f) ∧ D16 (rowD len f) := by
 have key : ∀ i, i < len → (vs.drop (i * 16)).take 16 = (aVa (f i)).map u8v ∧ (aVa (f i)).length = 16 := by
  intro i hi
  have h1 := h i hi
  have h2 := hb i hi
  generalize f i = c at h1 h2
  unfold isDig at h2
  split at h2
  ·obtain ⟨h3, h4⟩ := h1.bs1
   rw [beqT h2] at h3
   exact ⟨h4, h3⟩
  ·cases h2
 have hD : D16 (rowD len f) := by
  intro d hd
  obtain ⟨i, hi, rfl⟩ := List.mem_map.1 hd
  exact (key i (List.mem_range.1 hi)).2
 refine ⟨?_, hD⟩
 have : ∀ n, n ≤ len → vs.take (n * 16) = iP (rowD n f) := by
  intro n
  induction n with
  | zero => intro _; simp [rowD, iP]
  | succ n ih =>
   intro hn
   have e1 : rowD (n + 1) f = rowD n f ++ [aVa (f n)] := by simp [rowD, List.range_succ]
   rw [e1, iP, List.flatMap_append]
   have e2 : vs.take ((n + 1) * 16) = vs.take (n * 16) ++ (vs.drop (n * 16)).take 16 := by
    rw [show (n + 1) * 16 = n * 16 + 16 from by omega, List.take_add]
   rw [e2, ih (by omega), (key n (by omega)).1]
   simp [iP]
 have h1 := this len (Nat.le_refl _)
 rwa [← hl, List.take_length] at h1
end
def i64P (n : Int) : Prop := -9223372036854775808 ≤ n ∧ n < 9223372036854775808
end Go.Proofs.YtihghljfmlbfhaaGreatDoor.Pv
namespace Go.Proofs.YtihghljfmlbfhaaGreatDoor.Pv
open Go.RowKit
end Go.Proofs.YtihghljfmlbfhaaGreatDoor.Pv
namespace Go.Proofs.YtihghljfmlbfhaaGreatDoor
open Go.ChangeShapes Go.WideShapes Go.ChangeAt Go.RowKit Go.Joins Go.Deep
open Go.ChangeMaps (open_string shut_string)
set_option linter.unusedVariables false
theorem own : ownKnob Tryz.prog.godebug = none := by kernel_rfl
theorem laidOut : laidOutB Tryz.prog = true := by kernel_rfl
theorem gK : Tryz.prog.globalNamed "bootchain/sha.constants" = some 1 := by kernel_rfl
theorem gKType : (Tryz.prog.globals[1]?).map (·.type) = some 180 := by kernel_rfl
theorem gH : Tryz.prog.globalNamed "bootchain/sha.start" = some 0 := by kernel_rfl
theorem gHType : (Tryz.prog.globals[0]?).map (·.type) = some 174 := by kernel_rfl
theorem cellsK : Tryz.prog.cellsOf 180 = 64 := by kernel_rfl
theorem cellsH : Tryz.prog.cellsOf 174 = 8 := by kernel_rfl
theorem aMg : Tryz.prog.cellsOf 149 = 1 := by kernel_rfl
def aBh (l : List UInt32) : List Int := l.map fun x => (x.toNat : Int)
theorem dataK : (Rows.laid_bootchain_sha_constants : DataW Unit) = Lib.tabData .u32 (aBh shaK) := by kernel_rfl
theorem dataH : (Rows.laid_bootchain_sha_start : DataW Unit) = Lib.tabData .u32 (aBh kM) := by kernel_rfl
theorem zM {W : World} {name : String} {l : List UInt32} {g : Nat} (h : Lib.TabIs Tryz.prog W name .u32 (aBh l)) (hg : Tryz.prog.globalNamed name = some g) : W.rangeAt g 0 (l.map w32) := by
 intro j v hj
 rw [List.getElem?_map] at hj
 obtain ⟨x, hx, rfl⟩ := Option.map_eq_some_iff.1 hj
 have hl : j < l.length := by
  rcases Nat.lt_or_ge j l.length with h' | h'
  ·exact h'
  ·rw [List.getElem?_eq_none h'] at hx; cases hx
 have := h.cell hg j (by unfold aBh; simpa using hl)
 rw [show (aBh l).getD j 0 = (x.toNat : Int) from by unfold aBh; simp [List.getD, hx]] at this
 simpa [w32] using this
theorem aAv {W : World} (h : laidMetH Tryz.prog [("bootchain/sha.constants", Rows.laid_bootchain_sha_constants), ("bootchain/sha.start", Rows.laid_bootchain_sha_start)] W) : ShaMem W := by
 have h1 : laidMet Tryz.prog [("bootchain/sha.constants", Rows.laid_bootchain_sha_constants), ("bootchain/sha.start", Rows.laid_bootchain_sha_start)] W := h
 have h2 := laidMet.tail h1
 rw [dataK] at h1
 rw [dataH] at h2
 exact ⟨zM (Lib.tabIs_of_head gK gKType Tryz.underlying180 Tryz.underlying149 aMg cellsK h1) gK,
  zM (Lib.tabIs_of_head gH gHType Tryz.underlying174 Tryz.underlying149 aMg cellsH h2) gH⟩
def aLj (cs : List Value) : Obj → Obj
 | .cells _ t frozen => .cells cs.toArray t frozen
 | o => o
noncomputable def laidWorld (os : Os) : World :=
 { World.holding Tryz.prog os ⟨#[], #[], []⟩ with
  heap := ((World.holding Tryz.prog os ⟨#[], #[], []⟩).heap.modify 1 (aLj (shaK.map w32))).modify 0 (aLj (kM.map w32)) }
theorem aNx {α : Type} {n : Nat} {E : Nat → List Value} {R : α → Prop} (g : α → List Value) (h : ∀ i, i < n → ∃ a, E i = g a ∧ R a) : ∃ l : List α, l.length = n ∧ (List.range n).flatMap E = l.flatMap g ∧ ∀ a ∈ l, R a := by
 induction n with
 | zero => exact ⟨[], rfl, rfl, fun a h => by cases h⟩
 | succ n ih =>
  obtain ⟨l, h1, h2, h3⟩ := ih fun i hi => h i (by omega)
  obtain ⟨a, h4, h5⟩ := h n (by omega)
  refine ⟨l ++ [a], by simp [h1], ?_, fun b hb => ?_⟩
  ·rw [List.range_succ, List.flatMap_append, List.flatMap_append, h2]
   simp [h4]
  ·rcases List.mem_append.1 hb with hb | hb
   ·exact h3 b hb
   ·rw [List.mem_singleton.1 hb]; exact h5
section
variable {H : Type} {enc : TypeId × Value → H} {P : Program} {w : World} {base : Nat} {spare : Nat → Bool} {held : Bool}
theorem aMy {t e : TypeId} {k : Nat} {fuel : Nat} {cs : List Value} {x : DataW H × List MemPlace} (ht : P.underlying t = some (.slice e)) (hk : P.cellsOf e = k) (hk0 : 0 < k) (h : DataW.trod enc P w base spare held fuel t cs = some x) :
  ∃ (v : Value) (n : Nat) (E : Nat → List Value) (m : Nat) (Y : Nat → DataW H × List MemPlace), cs = [v] ∧ Reads w k v n ((List.range n).flatMap E) ∧ ∀ i, i < n → (E i).length = k ∧ DataW.trod enc P w base spare held m e (E i) = some (Y i) := by
 rcases open_slice ht h with ⟨rfl, _⟩ | ⟨a, len, cap, m, n, D, Pl, hcs, hb, hl, hm, hmm, hx, hi⟩
 ·exact ⟨_, 0, fun _ => [], 0, fun _ => (.nil, []), rfl, by simpa using Reads.nil w k, fun i hi => by omega⟩
 ·rw [hk] at hi
  have hlm : len ≤ m := by rw [hmm]; split <;> omega
  have hall : ∀ i, ∃ cs', i < m → w.cells? base (a.add (i * k)) k = some cs' ∧ DataW.trod enc P w base spare held n e cs' = some (D i, Pl i) := fun i => by
   by_cases h : i < m
   ·obtain ⟨c, hc⟩ := hi i h
    exact ⟨c, fun _ => hc⟩
   ·exact ⟨[], fun h' => absurd h' h⟩
  refine ⟨_, len, fun i => Classical.choose (hall i), n, fun i => (D i, Pl i), hcs, ?_, fun i hil => ?_⟩
  ·have hsz : ∀ i, i < m → (Classical.choose (hall i)).length = k ∧ ∀ j, j < k → w.cell? ((a.add (i * k)).add j) = (Classical.choose (hall i))[j]? := fun i him => by
    obtain ⟨_, h2, h3⟩ := World.cells?_some (Classical.choose_spec (hall i) him).1
    exact ⟨h2, h3⟩
   have hlen : ∀ j, j ≤ m → ((List.range j).flatMap fun i => Classical.choose (hall i)).length = j * k := by
    intro j
    induction j with
    | zero => intro _; simp
    | succ j ih =>
     intro hj
     rw [List.range_succ, List.flatMap_append, List.length_append, ih (by omega)]
     simp [(hsz j (by omega)).1, Nat.succ_mul]
   have hget : ∀ j, j ≤ m → ∀ q u, ((List.range j).flatMap fun i => Classical.choose (hall i))[q]? = some u → w.cell? (a.add q) = some u := by
    intro j
    induction j with
    | zero => intro _ q u h; simp at h
    | succ j ih =>
     intro hj q u h
     rw [List.range_succ, List.flatMap_append, List.getElem?_append] at h
     rw [hlen j (by omega)] at h
     by_cases hq : q < j * k
     ·rw [if_pos hq] at h
      exact ih (by omega) q u h
     ·rw [if_neg hq] at h
      simp only [List.flatMap_cons, List.flatMap_nil, List.append_nil] at h
      have h2 := (hsz j (by omega)).2 (q - j * k) (by
       have := (hsz j (by omega)).1
       rcases Nat.lt_or_ge (q - j * k) k with h' | h'
       ·exact h'
       ·rw [List.getElem?_eq_none (by omega)] at h; cases h)
      rw [aQa, show j * k + (q - j * k) = q from by omega] at h2
      rw [h2, h]
   refine ⟨hlen len hlm, _, cap, rfl, hl, hm, fun hn => ?_⟩
   have hl0 := hlen len hlm
   obtain ⟨u0, hu0⟩ : ∃ u0, ((List.range len).flatMap fun i => Classical.choose (hall i))[0]? = some u0 := ⟨_, zH (by rw [hl0]; exact Nat.mul_pos hn hk0)⟩
   have hc0 := hget len hlm 0 u0 hu0
   obtain ⟨b, off, spot⟩ := a
   have hspot : spot = none := by simpa [Addr.add] using World.cell?_spot hc0
   subst hspot
   refine ⟨b, off, rfl, fun j u hu => ?_⟩
   have := hget len hlm j u hu
   rwa [add_lit] at this
  ·have h2 := Classical.choose_spec (hall i) (by omega)
   exact ⟨(World.cells?_some h2.1).2.1, h2.2⟩
theorem map_flat (k : IntKind) (l : List Int) : l.map (Value.int k) = l.flatMap fun z => [Value.int k z] := by
 induction l with
 | nil => rfl
 | cons a l ih => rw [List.map_cons, List.flatMap_cons, ← ih]; rfl
theorem yL {t e : TypeId} {k : IntKind} {fuel : Nat} {cs : List Value} {x : DataW H × List MemPlace} (ht : P.underlying t = some (.slice e)) (he : P.underlying e = some (.int k)) (hk : P.cellsOf e = 1) (h : DataW.trod enc P w base spare held fuel t cs = some x) :
  ∃ (v : Value) (l : List Int), cs = [v] ∧ Reads w 1 v l.length (l.map (Value.int k)) ∧ ∀ z ∈ l, (Lit.int k z).wf = true := by
 obtain ⟨v, n, E, m, Y, rfl, hr, hE⟩ := aMy ht hk (by omega) h
 obtain ⟨l, rfl, h2, h3⟩ := aNx (R := fun z => (Lit.int k z).wf = true) (fun z => [Value.int k z]) fun i hi => by
  obtain ⟨z, hz, _, hw⟩ := DataW.trod_int he (hE i hi).2
  exact ⟨z, hz, hw⟩
 rw [h2] at hr
 refine ⟨v, l, rfl, ?_, h3⟩
 rw [map_flat]
 exact hr
def toByte (z : Int) : UInt8 := UInt8.ofNat z.toNat
theorem aKs {z : Int} (h : (Lit.int .u8 z).wf = true) : Value.int .u8 z = u8v (toByte z) := by
 have := bounds_u8 h
 have e : ((toByte z).toNat : Int) = z := by
  unfold toByte
  rw [UInt8.toNat_ofNat']
  omega
 show Value.int .u8 z = Value.int .u8 ((toByte z).toNat : Int)
 rw [e]
theorem aMz {t e : TypeId} {fuel : Nat} {cs : List Value} {x : DataW H × List MemPlace} (ht : P.underlying t = some (.slice e)) (he : P.underlying e = some (.int .u8)) (hk : P.cellsOf e = 1) (h : DataW.trod enc P w base spare held fuel t cs = some x) :
  ∃ (v : Value) (l : List UInt8), cs = [v] ∧ Reads w 1 v l.length (l.map u8v) := by
 obtain ⟨v, l, rfl, hr, hw⟩ := yL ht he hk h
 refine ⟨v, l.map toByte, rfl, ?_⟩
 rw [List.length_map, List.map_map, show l.map (u8v ∘ toByte) = l.map (Value.int .u8) from List.map_congr_left fun z hz => (aKs (hw z hz)).symm]
 exact hr
end
end Go.Proofs.YtihghljfmlbfhaaGreatDoor
namespace Go.Proofs.YtihghljfmlbfhaaGreatDoor
open Go.ChangeShapes Go.WideShapes Go.ChangeAt Go.RowKit Go.Joins Go.Deep
section
variable {H : Type} {enc : TypeId × Value → H} {P : Program} {w : World} {base : Nat} {spare : Nat → Bool} {held : Bool}
theorem aBd (cs : List Value) (h : ∀ c ∈ cs, ∃ b : UInt8, c = u8v b) : ∃ l : List UInt8, cs = l.map u8v := by
 induction cs with
 | nil => exact ⟨[], rfl⟩
 | cons c cs ih =>
  obtain ⟨l, hl⟩ := ih fun x hx => h x (List.mem_cons_of_mem _ hx)
  obtain ⟨b, hb⟩ := h c (List.mem_cons_self ..)
  exact ⟨b :: l, by rw [hb, hl]; rfl⟩
theorem uM {t e : TypeId} {n fuel : Nat} {cs : List Value} {x : DataW H × List MemPlace} (ht : P.underlying t = some (.array n e)) (he : P.underlying e = some (.int .u8)) (hk : P.cellsOf e = 1) (hn : P.cellsOf t = n) (h : DataW.trod enc P w base spare held fuel t cs = some x) :
  ∃ l : List UInt8, l.length = n ∧ cs = l.map u8v := by
 obtain ⟨xs, m, _, _, hl, hxl, hf⟩ := DataW.trod_array ht h
 rw [hn] at hl
 rw [hk] at hf
 obtain ⟨l, hl2⟩ := aBd cs fun c hc => by
  obtain ⟨i, hi, hci⟩ := List.getElem_of_mem hc
  have h1 := hf i (by omega)
  rw [Nat.mul_one, List.drop_eq_getElem_cons hi, List.take_succ_cons, List.take_zero, zH (by omega)] at h1
  obtain ⟨z, hz, _, hw⟩ := DataW.trod_int he h1
  cases hz2 : cs[i]
  all_goals rw [hz2] at hz
  all_goals (cases hz)
  exact ⟨toByte z, by rw [← hci, hz2]; exact aKs hw⟩
 exact ⟨l, by rw [hl2] at hl; simpa using hl, hl2⟩
end
end Go.Proofs.YtihghljfmlbfhaaGreatDoor
namespace Go.Proofs.YtihghljfmlbfhaaGreatDoor
open Go.ChangeShapes Go.WideShapes Go.ChangeAt Go.RowKit Go.Joins Go.Deep
def splitBy : List Nat → List Value → List (List Value)
 | [], _ => []
 | n :: ns, cs => cs.take n :: splitBy ns (cs.drop n)
def qE : Nat → List Nat → List (Nat × Nat)
 | _, [] => []
 | o, n :: ns => (o, n) :: qE (o + n) ns
theorem qP : ∀ (ns : List Nat) (cs : List Value), cs.length = ns.sum → (splitBy ns cs).flatten = cs
 | [], cs, h => by simpa [splitBy] using (List.eq_nil_of_length_eq_zero (by simpa using h)).symm
 | n :: ns, cs, h => by
  rw [List.sum_cons] at h
  rw [splitBy, List.flatten_cons, qP ns (cs.drop n) (by rw [List.length_drop]; omega), List.take_append_drop]
theorem yN : ∀ (ns : List Nat) (cs : List Value) (i o n : Nat) (o0 : Nat), (qE o0 ns)[i]? = some (o0 + o, n) → (splitBy ns cs).getD i [] = (cs.drop o).take n
 | [], cs, i, o, n, o0, h => by simp [qE] at h
 | m :: ns, cs, 0, o, n, o0, h => by
  simp only [qE, List.getElem?_cons_zero, Option.some.injEq, Prod.mk.injEq] at h
  obtain ⟨h1, h2⟩ := h
  obtain rfl : o = 0 := by omega
  subst h2
  rfl
 | m :: ns, cs, i + 1, o, n, o0, h => by
  simp only [qE, List.getElem?_cons_succ] at h
  have ho : m ≤ o := by
   have : ∀ (ns : List Nat) (a i o n : Nat), (qE a ns)[i]? = some (o, n) → a ≤ o := by
    intro ns
    induction ns with
    | nil => intro a i o n h; simp [qE] at h
    | cons k ns ih =>
     intro a i o n h
     cases i with
     | zero => simp only [qE, List.getElem?_cons_zero, Option.some.injEq, Prod.mk.injEq] at h; omega
     | succ i => simp only [qE, List.getElem?_cons_succ] at h; have := ih _ _ _ _ h; omega
   have := this _ _ _ _ _ h
   omega
  have := yN ns (cs.drop m) i (o - m) n (o0 + m) (by rw [show o0 + m + (o - m) = o0 + o from by omega]; exact h)
  show (splitBy ns (cs.drop m)).getD i [] = _
  rw [this, List.drop_drop, show m + (o - m) = o from by omega]
theorem aMx {H : Type} {enc : TypeId × Value → H} {P : Program} {w : World} {base : Nat} {spare : Nat → Bool} {held : Bool} {t : TypeId} {fs : Array Field} {ns : List Nat} {fuel : Nat} {cs : List Value} {x : DataW H × List MemPlace} (ht : P.underlying t = some (.struct fs))
  (hfs : fs.toList.map (fun f => (f.offset, P.cellsOf f.type)) = qE 0 ns) (hc : P.cellsOf t = ns.sum) (h : DataW.trod enc P w base spare held fuel t cs = some x) :
  (splitBy ns cs).flatten = cs ∧ ∀ i f, fs[i]? = some f → ∃ m y, DataW.trod enc P w base spare held m f.type ((splitBy ns cs).getD i []) = some y := by
 obtain ⟨xs, n', _, _, hlen, hxl, hf⟩ := DataW.trod_struct ht h
 refine ⟨qP ns cs (by rw [hlen, hc]), fun i f hi => ?_⟩
 have h1 := hf i f hi
 have hil : i < xs.length := by
  rw [hxl]
  exact (Array.getElem?_eq_some_iff.1 hi).1
 have h2 : (qE 0 ns)[i]? = some (0 + f.offset, P.cellsOf f.type) := by
  rw [← hfs, List.getElem?_map, Array.getElem?_toList, hi, Nat.zero_add]
  rfl
 rw [yN ns cs i f.offset _ 0 h2]
 exact ⟨n', xs[i], by rw [h1, zH hil]⟩
theorem aOi {H : Type} {enc : TypeId × Value → H} {P : Program} {v : Value} {d : DataW H} {p : List MemPlace} {W : World} {base : Nat} {t : TypeId} {fs : Array Field} {ns : List Nat} (ht : P.underlying t = some (.struct fs))
  (hfs : fs.toList.map (fun f => (f.offset, P.cellsOf f.type)) = qE 0 ns) (hc : P.cellsOf t = ns.sum) (hv : Value.okWide P W .any base t v) (h : DataW.Trod enc P W 0 (fun _ => true) true t v d p) :
  ∃ cs : List Value, v = .agg cs.toArray ∧ (splitBy ns cs).flatten = cs ∧ ∀ i f, fs[i]? = some f → ∃ m y, DataW.trod enc P W 0 (fun _ => true) true m f.type ((splitBy ns cs).getD i []) = some y := by
 obtain ⟨cs, rfl, _⟩ := okWide_struct ht hv
 obtain ⟨m, h⟩ := h
 have h' : DataW.trod enc P W 0 (fun _ => true) true m t cs.toList = some (d, p) := h
 have := aMx ht hfs hc h'
 exact ⟨cs.toList, by rw [Array.toArray_toList], this.1, this.2⟩
end Go.Proofs.YtihghljfmlbfhaaGreatDoor
namespace Go.Proofs.YtihghljfmlbfhaaGreatDoor.Pv
open Go.ChangeShapes Go.WideShapes Go.ChangeAt Go.RowKit Go.Joins Go.Deep
theorem aEb {α : Type} (g : α → List Value) (n : Nat) : ∀ (l : List α), (∀ a ∈ l, (g a).length = n) → ∀ (i : Nat) (hi : i < l.length), ((l.flatMap g).drop (i * n)).take n = g l[i]
 | [], _, i, hi => by simp at hi
 | a :: l, h, 0, hi => by
  rw [Nat.zero_mul, List.drop_zero, List.flatMap_cons, List.take_append_of_le_length (by rw [h a List.mem_cons_self]; omega), List.take_of_length_le (by rw [h a List.mem_cons_self]; omega)]
  rfl
 | a :: l, h, i + 1, hi => by
  have hi' : i < l.length := by simpa using hi
  rw [List.flatMap_cons, show (i + 1) * n = (g a).length + i * n by rw [h a List.mem_cons_self, Nat.succ_mul, Nat.add_comm], ← List.drop_drop, List.drop_left, aEb g n l (fun b hb => h b (List.mem_cons_of_mem _ hb)) i hi']
  rfl
def argX (w : World) : Ctx := { w := w, ok := fun _ => True, env := fun _ => none }
theorem rsl_of {α : Type} {w : World} {v : Value} {n : Nat} {l : List α} {g : α → List Value} {f : Nat → List PC} (hn : 0 < n) (hg : ∀ a ∈ l, (g a).length = n) (hr : Reads w n v l.length (l.flatMap g)) (hc : ∀ (C : Ctx) (i : Nat) (hi : i < l.length), RL C (f i) (g l[i])) : R (argX w) (.sl n l.length f) [v] :=
 .sl hr (fun b hb hlt => ⟨trivial, hr.own_lt hn hlt b hb⟩) (fun i hi => by rw [aEb g n l hg i hi]; exact hc _ i hi)
section
variable {H : Type} {enc : TypeId × Value → H} {w : World} {base : Nat} {spare : Nat → Bool} {held : Bool}
end
section
variable {H : Type} {enc : TypeId × Value → H} {w : World} {base : Nat} {spare : Nat → Bool} {held : Bool}
def aEi (l : List UInt8) : List Value := l.map u8v
end
section
variable {H : Type} {enc : TypeId × Value → H} {v : Value} {d : DataW H} {p : List MemPlace} {W : World} {base : Nat}
theorem iW.law {P : Program} {I : World → Prop} {f : Nat} {new : Bool} {args : List PV} (h : iW P I f new args (pvB true)) {vs : List Value} (hI : I W) (hv : Vals (argX W) args vs) : Calls P f vs.toArray W fun e W' => e = .returned (.bool true) ∧ Ext W W' := by
 refine (h W (fun _ => True) vs hI hv).mono ?_
 rintro e w' ⟨val, rfl, hE, hr⟩
 exact ⟨congrArg Ending.returned hr.lit_inv, hE⟩
end
end Go.Proofs.YtihghljfmlbfhaaGreatDoor.Pv
namespace Go.Proofs.YtihghljfmlbfhaaGreatDoor
def dig (m : List UInt8) (k : Nat) : Nat := (m.getD (k / 4) 0).toNat / 4 ^ (3 - k % 4) % 4
def sumTo (m : List UInt8) : Nat → Nat
 | 0 => 0
 | k + 1 => sumTo m k + (3 - dig m k)
def chk (m : List UInt8) : Nat := sumTo m 64
def digC (m : List UInt8) (k : Nat) : Nat := if k < 64 then dig m k else chk m / 4 ^ (67 - k) % 4
theorem aUz (m : List UInt8) (k : Nat) : dig m k ≤ 3 := by unfold dig; omega
theorem aEj (m : List UInt8) (k : Nat) : digC m k ≤ 3 := by
 unfold digC
 split
 ·exact aUz m k
 ·omega
theorem sumTo_le (m : List UInt8) : ∀ k, sumTo m k ≤ 3 * k
 | 0 => Nat.le_refl _
 | k + 1 => by have := sumTo_le m k; rw [sumTo]; omega
theorem aVt (m : List UInt8) : chk m ≤ 192 := sumTo_le m 64
def stepS (k : Nat) (v : List UInt8) : List UInt8 := fP 3 [wInt k, v]
def advS (k : Nat) (v : List UInt8) : Nat → List UInt8
 | 0 => v
 | n + 1 => stepS k (advS k v n)
theorem aMl (k : Nat) (v : List UInt8) (a : Nat) : ∀ b, advS k (advS k v a) b = advS k v (a + b)
 | 0 => rfl
 | b + 1 => by rw [advS, aMl k v a b, show a + (b + 1) = (a + b) + 1 from rfl, advS]
theorem fQ (k : Nat) (v : List UInt8) (h : v.length = 16) : ∀ n, (advS k v n).length = 16
 | 0 => h
 | _ + 1 => bY _ _
def wotsL : List UInt8 := [119, 111, 116, 115]
def gX (seed : List UInt8) (index : Int) (k : Nat) : List UInt8 := rH seed wotsL [wInt index, wInt k]
theorem dO (seed : List UInt8) (index : Int) (k : Nat) : (gX seed index k).length = 16 := nY _ _ _
def mG (f : Nat → List UInt8) (n : Nat) : List UInt8 := (List.range n).flatMap f
def keyOf (f : Nat → List UInt8) : List UInt8 := fP 4 [mG f 68]
def dQ (seed : List UInt8) (index : Int) : List UInt8 := keyOf fun k => advS k (gX seed index k) 3
def sV (seed : List UInt8) (index : Int) (m : List UInt8) (k : Nat) : List UInt8 := advS k (gX seed index k) (digC m k)
def iR (m : List UInt8) (c : Nat → List UInt8) : List UInt8 := keyOf fun k => advS k (c k) (3 - digC m k)
theorem aCy (seed : List UInt8) (index : Int) (m : List UInt8) : iR m (sV seed index m) = dQ seed index := by
 unfold iR dQ
 congr 1
 funext k
 unfold sV
 rw [aMl, show digC m k + (3 - digC m k) = 3 from by have := aEj m k; omega]
end Go.Proofs.YtihghljfmlbfhaaGreatDoor
namespace Go.Proofs.YtihghljfmlbfhaaGreatDoor
open Go.RowKit
theorem and3 (n : Int) : bits .and .i64 n 3 = n % 4 := by
 have h3 : (BitVec.ofInt 64 3).toNat = 2 ^ 2 - 1 := by decide
 have key : (BitVec.ofInt 64 n &&& BitVec.ofInt 64 3).toNat = (n % ((2 ^ 64 : Nat) : Int)).toNat % 2 ^ 2 := by
  rw [BitVec.toNat_and, BitVec.toNat_ofInt, h3, Nat.and_two_pow_sub_one_eq_mod]
 show IntKind.i64.wrap ((BitVec.ofInt 64 n &&& BitVec.ofInt 64 3).toNat : Nat) = n % 4
 rw [key, IntKind.wrap_i64]
 omega
def fH (f : Nat → Nat) (n : Nat) : List Value := (List.range n).map fun j => Value.int .i64 ((f j : Nat) : Int)
theorem pV (f : Nat → Nat) (n : Nat) : (fH f n).length = n := by unfold fH; simp
theorem jM (f : Nat → Nat) {n k : Nat} (h : k < n) : (fH f n)[k]? = some (.int .i64 ((f k : Nat) : Int)) := by
 unfold fH
 rw [List.getElem?_map, List.getElem?_range h]
 rfl
theorem nK {f g : Nat → Nat} {n : Nat} (h : ∀ j, j < n → f j = g j) : fH f n = fH g n := by
 unfold fH
 apply List.map_congr_left
 intro j hj
 rw [h j (List.mem_range.1 hj)]
theorem aCc (f g : Nat → Nat) {n k : Nat} (v : Nat) (hk : k < n) (h : ∀ j, j < n → g j = if j = k then v else f j) : (fH f n).toArray.setIfInBounds k (.int .i64 (v : Int)) = (fH g n).toArray := by
 apply Array.ext_getElem?
 intro j
 rw [Array.getElem?_setIfInBounds]
 simp only [List.size_toArray, pV, List.getElem?_toArray]
 by_cases hj : k = j
 ·subst hj
  rw [if_pos rfl, if_pos hk, jM g hk, h k hk, if_pos rfl]
 ·rw [if_neg hj]
  rcases Nat.lt_or_ge j n with hlt | hge
  ·rw [jM f hlt, jM g hlt, h j hlt, if_neg (fun e => hj e.symm)]
  ·rw [List.getElem?_eq_none (by rw [pV]; exact hge), List.getElem?_eq_none (by rw [pV]; exact hge)]
theorem mD (f : Nat → Nat) (n : Nat) : fH f (n + 1) = fH f n ++ [.int .i64 ((f n : Nat) : Int)] := by unfold fH; rw [List.range_succ, List.map_append]; rfl
theorem aJq (n : Nat) : (fH (fun _ => 0) n).toArray = Array.replicate n (.int .i64 0) := by
 unfold fH
 apply Array.ext
 ·simp
 ·intro i h1 h2
  simp
def aBb (m : List UInt8) (k : Nat) : Nat → Nat := fun j => if j < k then dig m j else 0
def aAe (m : List UInt8) (k : Nat) : Nat → Nat := fun j => if j < 64 then dig m j else if 67 - j < k then digC m j else 0
theorem aPg (m : List UInt8) (k j : Nat) : aBb m (k + 1) j = if j = k then dig m k else aBb m k j := by
 unfold aBb
 by_cases h : j = k
 ·subst h; rw [if_pos (by omega), if_pos rfl]
 ·rw [if_neg h]
  by_cases h2 : j < k
  ·rw [if_pos (by omega), if_pos h2]
  ·rw [if_neg (by omega), if_neg h2]
theorem aPh (m : List UInt8) (k j : Nat) (hk : k < 4) (hj : j < 68) : aAe m (k + 1) j = if j = 67 - k then chk m / 4 ^ k % 4 else aAe m k j := by
 unfold aAe
 by_cases h : j = 67 - k
 ·subst h
  rw [if_neg (by omega), if_pos (by omega), if_pos rfl, digC, if_neg (by omega), show 67 - (67 - k) = k from by omega]
 ·rw [if_neg h]
  by_cases h1 : j < 64
  ·rw [if_pos h1, if_pos h1]
  ·rw [if_neg h1, if_neg h1]
   by_cases h2 : 67 - j < k
   ·rw [if_pos (by omega), if_pos h2]
   ·rw [if_neg (by omega), if_neg h2]
theorem aUm (m : List UInt8) : (fH (aBb m 64) 68) = fH (aAe m 0) 68 := nK fun j hj => by
 unfold aBb aAe
 split
 ·rfl
 ·rw [if_neg (by omega)]
theorem fill_end (m : List UInt8) : fH (aAe m 4) 68 = fH (digC m) 68 := nK fun j hj => by
 unfold aAe
 split
 ·rename_i h; unfold digC; rw [if_pos h]
 ·rw [if_pos (by omega)]
theorem aUy (m : List UInt8) (k : Nat) : dig m k = ((m.getD (k / 4) 0).toNat / 2 ^ (6 - 2 * (k % 4))) % 4 := by
 unfold dig
 congr 2
 have : k % 4 < 4 := Nat.mod_lt _ (by omega)
 rcases (by omega : k % 4 = 0 ∨ k % 4 = 1 ∨ k % 4 = 2 ∨ k % 4 = 3) with h | h | h | h <;> rw [h]
theorem aPn (m : List UInt8) (w : World) (hm : m.length = 16) :
  Calls Tryz.prog 99 #[.agg (m.map u8v).toArray] w fun e w' => ∃ g, e = .returned (.slice (some ⟨g, 0, none⟩) 68 68) ∧ Blk w' g 166 (fH (digC m) 68).toArray ∧ w.heap.size ≤ g ∧ Ext w w' := by
 obtain ⟨arr, harr⟩ : ∃ r, (m.map u8v).toArray = r := ⟨_, rfl⟩
 have HA := hide (And.intro harr hm)
 rw [harr]
 clear harr
 go_enter Tryz.func99, Tryz.ntmps99
 go_wp2_with fail
 go_loopw [4, 7] (fun s i wr => ∃ k : Nat, k ≤ 64 ∧ i = .int .i64 k ∧ s = .int .i64 ((sumTo m k : Nat) : Int) ∧ Hid (Blk wr w.heap.size 23 arr ∧ Blk wr (w.heap.size + 1) 166 (fH (aBb m k) 68).toArray ∧ Ext w wr)) (fun _ i _ => 64 - (intOf i).toNat)
 case atStart => exact ⟨0, by omega, rfl, rfl, hide ⟨(Blk.new w _ _).alloc _, by rw [show fH (aBb m 0) 68 = fH (fun _ => 0) 68 from nK fun j _ => if_neg (by omega), aJq]; exact Blk.new' _ _ _ (by simp), ((Ext.refl w).alloc _).alloc _⟩⟩
 case round =>
  obtain ⟨k, hk, rfl, rfl, HI⟩ := hrel
  by_cases hlt : k < 64
  ·have cm : wr.cell? ⟨w.heap.size, k / 4, none⟩ = some (.int .u8 ((m.getD (k / 4) 0).toNat : Int)) := by
    rw [(aA HI).1.cell, ← (aA HA).1, List.getElem?_toArray, List.getElem?_map, zG, zH (by omega)]
    rfl
   have co : wr.cell? ⟨w.heap.size + 1, k, none⟩ = some (.int .i64 0) := by
    rw [(aA HI).2.1.cell, List.getElem?_toArray, jM _ (by omega), aBb, if_neg (by omega)]
    rfl
   have fo : wr.frozen? ⟨w.heap.size + 1, k, none⟩ = false := (aA HI).2.1.frozen k
   have HS := hide (aUy m k)
   generalize m.getD (k / 4) 0 = x at *
   have hx := x.toNat_lt
   have hX : bits BinOp.and IntKind.i64 ((x.toNat : Int) / 2 ^ (6 - 2 * (k % 4))) 3 = ((dig m k : Nat) : Int) := by
    rw [and3, aA HS]
    simp
   have HX := hide hX
   have hd := aUz m k
   have hsl := sumTo_le m k
   clear hX
   go_wp2
   go_roundw
   case rel =>
    rw [aA HX]
    refine ⟨k + 1, by omega, by go_num, int_eq ?_, hide ⟨(aA HI).1.far' (by omega) _ _, ?_, (aA HI).2.2.setCell (p := ⟨w.heap.size + 1, k, none⟩) (by simp) _⟩⟩
    ·rw [sumTo]
     unfold wrap64
     omega
    ·have := (aA HI).2.1.set_ k (.int .i64 ((dig m k : Nat) : Int))
     rw [aCc (aBb m k) (aBb m (k + 1)) (dig m k) (by omega) (fun j _ => aPg m k j)] at this
     exact this
   case measure => simp [intOf]; omega
  ·obtain rfl : k = 64 := by omega
   have hc := aVt m
   have HE := hide (fill_end m)
   rw [aUm] at HI
   rw [show sumTo m 64 = chk m from rfl]
   generalize hch : chk m = ch at *
   go_wp2_with fail
   go_loopw [30] (fun i wr => ∃ k : Nat, k ≤ 4 ∧ i = .int .i64 k ∧ Hid (Blk wr (w.heap.size + 1) 166 (fH (aAe m k) 68).toArray ∧ Ext w wr)) (fun i _ => 4 - (intOf i).toNat)
   case atStart => exact ⟨0, by omega, rfl, hide ⟨(aA HI).2.1, (aA HI).2.2⟩⟩
   case round =>
    clear HI
    obtain ⟨k, hk, rfl, HI⟩ := hrel
    by_cases hlt : k < 4
    ·have co : wr.cell? ⟨w.heap.size + 1, 67 - k, none⟩ = some (.int .i64 0) := by
      rw [(aA HI).1.cell, List.getElem?_toArray, jM _ (by omega), aAe, if_neg (by omega), if_neg (by omega)]
      rfl
     have fo : wr.frozen? ⟨w.heap.size + 1, 67 - k, none⟩ = false := (aA HI).1.frozen (67 - k)
     have hX : bits BinOp.and IntKind.i64 ((ch : Int) / 2 ^ (2 * k)) 3 = ((ch / 4 ^ k % 4 : Nat) : Int) := by
      rw [and3, Int.pow_mul]
      simp
     have HX := hide hX
     clear hX
     go_wp2
     go_roundw
     case rel =>
      rw [aA HX]
      refine ⟨k + 1, by omega, by go_num, hide ⟨?_, (aA HI).2.setCell (p := ⟨w.heap.size + 1, 67 - k, none⟩) (by simp) _⟩⟩
      have := (aA HI).1.set_ (67 - k) (.int .i64 ((ch / 4 ^ k % 4 : Nat) : Int))
      rw [aCc (aAe m k) (aAe m (k + 1)) (ch / 4 ^ k % 4) (by omega) (fun j hj => by rw [← hch]; exact aPh m k j hlt hj)] at this
      exact this
     case measure => simp [intOf]; omega
    ·obtain rfl : k = 4 := by omega
     go_wp2
     go_ret
     exact ⟨_, rfl, by rw [← aA HE]; exact (aA HI).1, by omega, (aA HI).2⟩
theorem aWm (k n : Nat) (v : List UInt8) (w : World) (hM : ShaMem w) (hv : v.length = 16) (hk : k < 1000) (hn : n < 1000) :
    Calls Tryz.prog 100 #[.int .i64 (k : Int), .agg (v.map u8v).toArray, .int .i64 (n : Int)] w fun e w' => e = .returned (.agg ((advS k v n).map u8v).toArray) ∧ Ext w w' := by
  have HM := hide hM
  have HW := hide (fun w => xE (k : Int) w (by omega) (by omega))
  have HD := hide (fun (j : Nat) (W : World) (A : Option Addr) (c : Nat) (pv : Value) (hE : Ext w W) (h1 : Reads W 1 pv 2 [.slice A (wInt k).length c, .slice (some ⟨w.heap.size, 0, none⟩) 16 16]) (h2 : Reads W 1 (.slice A (wInt k).length c) (wInt k).length ((wInt k).map u8v)) (h3 : Blk W w.heap.size 23 ((advS k v j).map u8v).toArray) =>
    lS 3 [wInt k, advS k v j] pv W (hM.ext hE) (Parts.two h1 h2 (h3.digR (fQ k v hv j))) (by simp) (fun p hp => by have := gQ (k : Int); have := fQ k v hv j; simp at hp; rcases hp with rfl | rfl <;> omega))
  have HL := hide (fQ k v hv)
  have HS := hide (fun j => show fP 3 [wInt k, advS k v j] = advS k v (j + 1) from rfl)
  obtain ⟨F, hF⟩ : ∃ F, advS k v = F := ⟨_, rfl⟩
  rw [hF] at HD HL HS ⊢
  have h0 : F 0 = v := by rw [← hF]; rfl
  clear hM
  go_enter Tryz.func100, Tryz.ntmps100
  go_wp2_with fail
  go_loopw [8] (fun i wr => ∃ j : Nat, j ≤ n ∧ i = .int .i64 j ∧ Hid (Blk wr w.heap.size 23 ((F j).map u8v).toArray ∧ Blk wr (w.heap.size + 1) 23 (Array.replicate 16 (.int .u8 0)) ∧ Ext w wr)) (fun i _ => n - (intOf i).toNat)
  case atStart => exact ⟨0, by omega, rfl, hide ⟨by rw [h0]; exact (Blk.new w _ _).alloc _, Blk.new' _ _ _ (by simp), ((Ext.refl w).alloc _).alloc _⟩⟩
  case round =>
    obtain ⟨j, hj, rfl, HI⟩ := hrel
    by_cases hlt : j < n
    · have HJ := hide (aA HS j)
      have HL1 := hide (aA HL (j + 1))
      have HLj := hide (aA HL j)
      have HDj := hide (aA HD j)
      go_upto_region 3 with fail
      go_region_law (first
        | (go_simp; go_at_call 118; refine (aA HW _).mono ?_; rintro e w3 ⟨A3, c3, rfl, ho3, hE3⟩; have H3 := hide (And.intro (Reads.of_own ho3) (((Ext.refl wr).drew).trans hE3)); clear ho3 hE3)
        | (rename_i K hK; go_simp; go_at_call 113; refine (aA HDj _ A3 c3 _ (((aA HI).2.2.trans (aA H3).2).alloc _) (Reads.new2 _ _ _ _ rfl) ((aA H3).1.ext ((Ext.refl _).alloc _)) (((aA HI).1.ext (aA H3).2).alloc _)).mono ?_
           rintro e w5 ⟨rfl, hE5⟩
           rw [aA HJ]
           have H5 := hide (((aA H3).2.alloc _).trans hE5)
           clear hE5
           dsimp only
           refine hK _ _ ?_
           clear hK K
           refine wpAny_ready (rs := [5]) (by kernel_rfl) (by simp) (AllReady.cons rfl (fun J hJ => ?_) AllReady.nil)
           refine eP (ty := 23) (t := 23) (x := .tmp 4) (y := .tmp 14) rfl rfl aC rfl rfl ((aA HI).1.ext (aA H5)) (by simpa using aA HLj) (by simpa using aA HL1) (bG _) ?_
           intro w6 hb6 hc6 hz6
           have H6 := hide (And.intro hb6 hc6)
           clear hb6 hc6 hz6
           refine hJ _ _ ?_
           clear hJ J))
      go_wp2
      go_roundw
      case rel => exact ⟨j + 1, by omega, by go_num, hide ⟨(aA H6).1, ((aA HI).2.1.ext (aA H5)).chg (aA H6).2 (by omega), ((aA HI).2.2.trans (aA H5)).trans' (aA H6).2 (fun _ _ h => h) (fun i hi e => by omega)⟩⟩
      case measure => simp [intOf]; omega
    · obtain rfl : j = n := by omega
      go_wp2_with (first
        | (refine aZ (ty := 23) (t := 23) (x := .tmp 4) rfl rfl aC rfl (aA HI).1 (by simpa using aA HL j) ?_)
        | (refine aH (ty := 23) (t := 23) (x := .tmp 6) (y := .tmp 16) rfl rfl aC rfl rfl (aA HI).2.1 rfl (by simpa using aA HL j) (bG _) ?_; intro w7 hb7 hc7 hz7; have H7 := hide (And.intro hb7 hc7); clear hb7 hc7 hz7))
      refine bodyPost_ret (v := .agg ((F j).map u8v).toArray) (aX aC rfl (aA H7).1 (by simpa using aA HL j) rfl) rfl ⟨rfl, ?_⟩
      exact (aA HI).2.2.trans' (aA H7).2 (fun _ _ h => h) (fun i hi e => by omega)
theorem aFi (k : Nat) (seed : List UInt8) (index : Int) (w : World) (hM : ShaMem w) (hv : seed.length = 16) (hk : k < 1000) (h1 : -9223372036854775808 ≤ index) (h2 : index < 9223372036854775808) :
    Calls Tryz.prog 101 #[.agg (seed.map u8v).toArray, .int .i64 index, .int .i64 (k : Int)] w fun e w' => e = .returned (.agg ((gX seed index k).map u8v).toArray) ∧ Ext w w' := by
  have HM := hide hM
  have HW := hide (fun w => xE index w h1 h2)
  have HW2 := hide (fun w => xE (k : Int) w (by omega) (by omega))
  have HD := hide (fun (W : World) (A A' : Option Addr) (c c' : Nat) (pv : Value) (hE : Ext w W) (h1 : Reads W 1 pv 2 [.slice A (wInt index).length c, .slice A' (wInt k).length c']) (h2 : Reads W 1 (.slice A (wInt index).length c) (wInt index).length ((wInt index).map u8v)) (h2' : Reads W 1 (.slice A' (wInt k).length c') (wInt k).length ((wInt k).map u8v)) (h3 : Blk W w.heap.size 23 (seed.map u8v).toArray) =>
    aPq seed (.slice (some ⟨w.heap.size, 0, none⟩) 16 16) ⟨#[119, 111, 116, 115]⟩ [wInt index, wInt k] pv W (hM.ext hE) (h3.digR hv) (by omega) (by decide) (Parts.two h1 h2 h2') (by simp) (fun p hp => by have := gQ (k : Int); have := gQ index; simp at hp; rcases hp with rfl | rfl <;> omega))
  obtain ⟨arr, harr⟩ : ∃ r, (seed.map u8v).toArray = r := ⟨_, rfl⟩
  rw [harr] at HD ⊢
  obtain ⟨res, hres⟩ : ∃ r, gX seed index k = r := ⟨_, rfl⟩
  have HR := hide (And.intro hres (show res.length = 16 from by rw [← hres]; exact dO _ _ _))
  rw [hres]
  clear hM harr hres h1 h2
  have HT := hide True.intro
  go_enter Tryz.func101, Tryz.ntmps101
  go_upto_region 1 with fail
  go_region_law (first
    | (clear HT; go_simp; go_at_call 118; refine (aA HW _).mono ?_; rintro e w3 ⟨A3, c3, rfl, ho3, hE3⟩; have H3 := hide (And.intro (Reads.of_own ho3) hE3); clear ho3 hE3)
    | (go_simp; go_at_call 118; refine (aA HW2 _).mono ?_; rintro e w4 ⟨A4, c4, rfl, ho4, hE4⟩; have H4 := hide (And.intro (Reads.of_own ho4) hE4); clear ho4 hE4)
    | (rename_i K hK; go_simp; go_at_call 119; refine (aA HD _ A3 A4 c3 c4 _ (((((Ext.refl w).alloc _).alloc _).drew.trans ((aA H3).2.trans (aA H4).2)).alloc _) (Reads.new2 _ _ _ _ rfl) (((aA H3).1.ext (aA H4).2).ext ((Ext.refl _).alloc _)) ((aA H4).1.ext ((Ext.refl _).alloc _)) ((((Blk.new w _ _).alloc _).drew.ext ((aA H3).2.trans (aA H4).2)).alloc _)).mono ?_
       rintro e w5 ⟨rfl, hE5⟩
       rw [show rH seed (⟨#[119, 111, 116, 115]⟩ : ByteArray).data.toList [wInt index, wInt k] = res from (aA HR).1]
       have H5 := hide ((((((Ext.refl w).alloc _).alloc _).drew.trans ((aA H3).2.trans (aA H4).2)).alloc _).trans hE5)
       have HB := hide ((((Blk.new' (w.alloc (.cells arr 23)) 23 (Array.replicate 16 (.int .u8 0)) (g := w.heap.size + 1) (by simp)).drew.ext ((aA H3).2.trans (aA H4).2)).alloc _).ext hE5)
       clear hE5
       dsimp only
       refine hK _ _ ?_
       clear hK K
       refine wpAny_ready (rs := [7]) (by kernel_rfl) (by simp) (AllReady.cons rfl (fun J hJ => ?_) AllReady.nil)
       refine eP (ty := 23) (t := 23) (x := .tmp 6) (y := .tmp 13) rfl rfl aC rfl rfl (aA HB) rfl (by simpa using (aA HR).2) (bG _) ?_
       intro w6 hb6 hc6 hz6
       have H6 := hide (And.intro hb6 hc6)
       clear hb6 hc6 hz6
       refine hJ _ _ ?_
       clear hJ J))
  go_wp2
  refine bodyPost_ret (v := .agg (res.map u8v).toArray) (aX aC rfl (aA H6).1 (by simpa using (aA HR).2) rfl) rfl ⟨rfl, ?_⟩
  exact (aA H5).trans' (aA H6).2 (fun _ _ h => h) (fun i hi e => by omega)
end Go.Proofs.YtihghljfmlbfhaaGreatDoor
namespace Go.Proofs.YtihghljfmlbfhaaGreatDoor
theorem lQ (f : Nat → List UInt8) (n : Nat) : mG f (n + 1) = mG f n ++ f n := by unfold mG; rw [List.range_succ, List.flatMap_append]; simp
theorem kQ (f : Nat → List UInt8) (h : ∀ k, (f k).length = 16) : ∀ n, (mG f n).length = 16 * n
 | 0 => rfl
 | n + 1 => by rw [lQ, List.length_append, kQ f h n, h]; omega
end Go.Proofs.YtihghljfmlbfhaaGreatDoor
namespace Go.Proofs.YtihghljfmlbfhaaGreatDoor
open Go.RowKit
structure EndEnv (F : FuncId) (caps : Array Value) (f : Nat → List UInt8) (Inv : World → Prop) (B : Nat) : Prop where
 call : ∀ (args : Array Value) (w : World), (callFunc F args).run Tryz.prog w = .ok (.enter F args) w
 step : ∀ (k : Nat) (w : World), k < 68 → Inv w → Calls Tryz.prog F (#[.int .i64 (k : Int)] ++ caps) w fun e w' => e = .returned (.agg ((f k).map u8v).toArray) ∧ Ext w w'
 keep : ∀ w w', Inv w → Chg (fun k => B ≤ k) w w' → Inv w'
 len : ∀ k, (f k).length = 16
theorem key_any {F : FuncId} {caps : Array Value} {f : Nat → List UInt8} {Inv : World → Prop} {B : Nat} (E : EndEnv F caps f Inv B) (w : World) (hB : B ≤ w.heap.size) (hM : ShaMem w) (hI : Inv w) :
  Calls Tryz.prog 125 #[.func (.func F) #[] caps] w fun e w' => e = .returned (.agg ((keyOf f).map u8v).toArray) ∧ Ext w w' := by
 have HM := hide hM
 have HE := hide E
 have hc := E.call
 have HI0 := hide hI
 have HD := hide (fun (W : World) (A : Option Addr) (c : Nat) (pv : Value) (hE : Ext w W) (h1 : Reads W 1 pv 1 [.slice A (mG f 68).length c]) (h2 : Reads W 1 (.slice A (mG f 68).length c) (mG f 68).length ((mG f 68).map u8v)) =>
  lS 4 [mG f 68] pv W (hM.ext hE) (Parts.one h1 h2) (by simp) (fun p hp => by have := kQ f E.len 68; simp at hp; subst hp; omega))
 have HLE := hide (kQ f E.len 68)
 have HK := hide (show fP 4 [mG f 68] = keyOf f ∧ (keyOf f).length = 16 from ⟨rfl, bY _ _⟩)
 clear hM hI E
 obtain ⟨key, hkey⟩ : ∃ r, keyOf f = r := ⟨_, rfl⟩
 rw [hkey] at HK ⊢
 clear hkey
 go_enter Tryz.func125, Tryz.ntmps125
 go_wp2_with fail
 go_loopw [3, 6] (fun b i wr => ∃ (k : Nat) (A : Option Addr) (c : Nat), k ≤ 68 ∧ i = .int .i64 k ∧ b = .slice A (16 * k) c ∧ Hid (GB w (w.heap.size + 1) b (16 * k) (mG f k) wr ∧ Inv wr ∧ Blk wr w.heap.size 23 (Array.replicate 16 (.int .u8 0)))) (fun _ i _ => 68 - (intOf i).toNat)
 case atStart => exact ⟨0, none, 0, by omega, rfl, rfl, hide ⟨GB.nil ((Ext.refl w).alloc _) (by omega) (by simp), (aA HE).keep _ _ (aA HI0) ((Ext.refl w).alloc _).chg, Blk.new w _ _⟩⟩
 case round =>
  obtain ⟨k, A, c, hk, rfl, rfl, HI⟩ := hrel
  by_cases hlt : k < 68
  ·have HSt := hide ((aA HE).step k wr hlt (aA HI).2.1)
   have HEs := hide (lQ f k)
   have HL := hide ((aA HE).len k)
   obtain ⟨d, hd⟩ : ∃ d, f k = d := ⟨_, rfl⟩
   rw [hd] at HSt HEs HL
   clear hd
   go_wp2_with fail
   refine (aA HSt).mono ?_
   rintro e w1 ⟨rfl, hE1⟩
   have H1 := hide hE1
   clear hE1
   go_wp2_with (first
    | (refine aH (ty := 23) (t := 23) (x := .tmp 5) (y := .tmp 11) rfl rfl aC rfl rfl (Blk.new w1 _ _) rfl (by simpa using aA HL) (bG _) ?_; intro w2 hb2 hc2 hz2; have H2 := hide (And.intro hb2 (aLh (aA H1) hc2)); clear hb2 hc2 hz2)
    | (at_builtin; refine aU rfl rfl eG rfl ((aA HI).1.to (aA H2).2).own rfl (by have := (aA H2).1.digR (aA HL); rw [aA HL] at this; exact this) (bP.u8 d) (by omega) ((aA HI).1.to (aA H2).2).room ?_; intro A' c' w3 ho hc3 hv; have H3 := hide (And.intro ho hc3); clear ho hc3 hv))
   go_roundw
   case rel =>
    have hst : GB w (w.heap.size + 1) (.slice A' (16 * k + 16) c') (16 * k + 16) (mG f k ++ d) w3 := (aA HI).1.step (aA H2).2 (aA H3).2 (by have := (aA H3).1; rw [← List.map_append] at this; exact this)
    have hX : Chg (fun k => B ≤ k) wr w3 := (aA H2).2.trans' (aA H3).2 (fun _ _ h => h.elim) (fun i hi e => by have := ((aA HI).1.own.lt i e).1; omega)
    refine ⟨k + 1, A', c', by omega, by go_num, by congr 1, hide ⟨by rw [aA HEs]; exact hst, (aA HE).keep _ _ (aA HI).2.1 hX, (aA HI).1.blk (aA H2).2 (aA H3).2 (aA HI).2.2 (by omega)⟩⟩
   case measure => simp [intOf]; omega
  ·obtain rfl : k = 68 := by omega
   have HX := hide (show GB w (w.heap.size + 1) (.slice A (mG f 68).length c) (mG f 68).length (mG f 68) wr from by rw [aA HLE]; exact (aA HI).1)
   have HZ := hide (aA HI).2.2
   have e68 : 16 * 68 = (mG f 68).length := (aA HLE).symm
   rw [e68]
   clear HI e68
   go_wp2_with (first
    | (go_at_call 113; refine (aA HD _ A c _ ((aA HX).ext.alloc _) (Reads.new1 _ _ _) ((aA HX).reads.ext ((Ext.refl _).alloc _))).mono ?_; rintro e w5 ⟨rfl, hE5⟩; rw [(aA HK).1]; have H5 := hide (((Ext.refl wr).alloc _).trans hE5); clear hE5)
    | (refine aH (ty := 23) (t := 23) (x := .tmp 2) (y := .tmp 18) rfl rfl aC rfl rfl ((aA HZ).ext (aA H5)) rfl (by simpa using (aA HK).2) (bG _) ?_; intro w7 hb7 hc7 hz7; have H7 := hide (And.intro hb7 hc7); clear hb7 hc7 hz7))
   refine bodyPost_ret (v := .agg (key.map u8v).toArray) (aX aC rfl (aA H7).1 (by simpa using (aA HK).2) rfl) rfl ⟨rfl, ?_⟩
   exact ((aA HX).ext.trans (aA H5)).trans' (aA H7).2 (fun _ _ h => h) (fun i hi e => by omega)
def PubInv (seed : List UInt8) (index : Int) (bs bi : Nat) (w : World) : Prop := ShaMem w ∧ Blk w bs 23 (seed.map u8v).toArray ∧ w.cell? ⟨bi, 0, none⟩ = some (.int .i64 index)
theorem pub1_any (k : Nat) (seed : List UInt8) (index : Int) (bs bi : Nat) (w : World) (hv : seed.length = 16) (hk : k < 68) (h1 : -9223372036854775808 ≤ index) (h2 : index < 9223372036854775808) (hI : PubInv seed index bs bi w) :
  Calls Tryz.prog 126 #[.int .i64 (k : Int), .pointer (some ⟨bs, 0, none⟩), .pointer (some ⟨bi, 0, none⟩)] w fun e w' => e = .returned (.agg ((advS k (gX seed index k) 3).map u8v).toArray) ∧ Ext w w' := by
 obtain ⟨hM, hB, hc⟩ := hI
 have lbi := lt_of_cell hc
 simp only at lbi
 have HB := hide (hB.alloc (.cells (Array.replicate 16 (.int .u8 0)) 23))
 have HS := hide (aFi k seed index (w.alloc (.cells (Array.replicate 16 (.int .u8 0)) 23)) (hM.ext ((Ext.refl w).alloc _)) hv (by omega) h1 h2)
 have HA := hide (fun (W : World) (hE : Ext w W) => aWm k 3 (gX seed index k) W (hM.ext hE) (dO _ _ _) (by omega) (by omega))
 have HL := hide (fQ k (gX seed index k) (dO _ _ _) 3)
 have HZ := hide (Blk.new w 23 (Array.replicate 16 (.int .u8 0)))
 obtain ⟨d0, hd0⟩ : ∃ d, ((gX seed index k).map u8v).toArray = d := ⟨_, rfl⟩
 obtain ⟨d, hd⟩ : ∃ d, advS k (gX seed index k) 3 = d := ⟨_, rfl⟩
 rw [hd] at HA HL ⊢
 rw [hd0] at HA HS
 have HV := hide hv
 clear hM hB hd hd0 hv
 go_enter Tryz.func126, Tryz.ntmps126
 go_wp2_with (refine aZ (ty := 23) (t := 23) (x := .tmp 1) rfl rfl aC rfl (aA HB) (by simpa using aA HV) ?_)
 refine (aA HS).mono ?_
 rintro e w1 ⟨rfl, hE1⟩
 have H1 := hide hE1
 clear hE1
 go_wp2_with fail
 refine (aA HA _ (((Ext.refl w).alloc _).trans (aA H1))).mono ?_
 rintro e w2 ⟨rfl, hE2⟩
 have H2 := hide ((aA H1).trans hE2)
 clear hE2
 go_wp2_with (refine aH (ty := 23) (t := 23) (x := .tmp 4) (y := .tmp 10) rfl rfl aC rfl rfl ((aA HZ).ext (aA H2)) rfl (by simpa using aA HL) (bG _) ?_; intro w7 hb7 hc7 hz7; have H7 := hide (And.intro hb7 hc7); clear hb7 hc7 hz7)
 refine bodyPost_ret (v := .agg (d.map u8v).toArray) (aX aC rfl (aA H7).1 (by simpa using aA HL) rfl) rfl ⟨rfl, ?_⟩
 exact (((Ext.refl w).alloc _).trans (aA H2)).trans' (aA H7).2 (fun _ _ h => h) (fun i hi e => by omega)
theorem aOe (seed : List UInt8) (index : Int) (w : World) (hM : ShaMem w) (hv : seed.length = 16) (h1 : -9223372036854775808 ≤ index) (h2 : index < 9223372036854775808) :
    Calls Tryz.prog 117 #[.agg (seed.map u8v).toArray, .int .i64 index] w fun e w' => e = .returned (.agg ((dQ seed index).map u8v).toArray) ∧ Ext w w' := by
  have HK := hide (fun (W : World) (hE : Ext w W) (hB : Blk W w.heap.size 23 (seed.map u8v).toArray) (hc : W.cell? ⟨w.heap.size + 1, 0, none⟩ = some (.int .i64 index)) (hs : w.heap.size + 2 ≤ W.heap.size) =>
    key_any (F := 126) (caps := #[.pointer (some ⟨w.heap.size, 0, none⟩), .pointer (some ⟨w.heap.size + 1, 0, none⟩)]) (f := fun k => advS k (gX seed index k) 3) (Inv := PubInv seed index w.heap.size (w.heap.size + 1)) (B := w.heap.size + 2)
      ⟨aF Tryz.func126 (by kernel_rfl) rfl, fun k W hk hI => pub1_any k seed index _ _ W hv hk h1 h2 hI,
       fun W W' hI hC => ⟨ShaMem.past hM (by omega) hI.1 hC, hI.2.1.chg hC (by omega), Chg.cellv hC hI.2.2 (by simp)⟩, fun k => fQ k _ (dO _ _ _) 3⟩ W hs (hM.ext hE) ⟨hM.ext hE, hB, hc⟩)
  obtain ⟨arr, harr⟩ : ∃ r, (seed.map u8v).toArray = r := ⟨_, rfl⟩
  rw [harr] at HK ⊢
  have HR := hide (show keyOf (fun k => advS k (gX seed index k) 3) = dQ seed index ∧ (dQ seed index).length = 16 from ⟨rfl, bY _ _⟩)
  obtain ⟨res, hres⟩ : ∃ r, dQ seed index = r := ⟨_, rfl⟩
  rw [hres] at HR ⊢
  have hmf := mkfun
  clear hM harr hres
  go_enter Tryz.func117, Tryz.ntmps117
  go_wp2_with fail
  refine (aA HK _ ((((Ext.refl w).alloc _).alloc _).alloc _) ((((Blk.new w _ _).alloc _).alloc _)) (dS _ _ (fE _ _ _ (by simp) rfl)) (by simp)).mono ?_
  rintro e w1 ⟨rfl, hE1⟩
  rw [(aA HR).1]
  have H1 := hide hE1
  clear hE1 hmf
  go_wp2_with (refine aH (ty := 23) (t := 23) (x := .tmp 4) (y := .tmp 6) rfl rfl aC rfl rfl ((Blk.new' ((w.alloc (.cells arr 23)).alloc (.cells #[.int .i64 index] 3)) 23 (Array.replicate 16 (.int .u8 0)) (g := w.heap.size + 1 + 1) (by simp)).ext (aA H1)) rfl (by simpa using (aA HR).2) (bG _) ?_; intro w7 hb7 hc7 hz7; have H7 := hide (And.intro hb7 hc7); clear hb7 hc7 hz7)
  refine bodyPost_ret (v := .agg (res.map u8v).toArray) (aX aC rfl (aA H7).1 (by simpa using (aA HR).2) rfl) rfl ⟨rfl, ?_⟩
  exact (((((Ext.refl w).alloc _).alloc _).alloc _).trans (aA H1)).trans' (aA H7).2 (fun _ _ h => h) (fun i hi e => by omega)
def z16 : List UInt8 := List.replicate 16 0
def eU (c : List (List UInt8)) (k : Nat) : List UInt8 := c.getD k z16
theorem kK {c : List (List UInt8)} (h : D16 c) (k : Nat) : (eU c k).length = 16 := by
 unfold eU
 rw [zG]
 rcases Nat.lt_or_ge k c.length with hk | hk
 ·rw [zH hk]; exact h.get hk
 ·rw [List.getElem?_eq_none hk]; rfl
theorem aKe {c : List (List UInt8)} {k : Nat} (hk : k < c.length) : eU c k = c[k] := by
 unfold eU
 rw [zG, zH hk]; rfl
def mQ (seed : List UInt8) (index : Int) (m : List UInt8) (n : Nat) : List (List UInt8) := (List.range n).map (sV seed index m)
theorem uQ (seed : List UInt8) (index : Int) (m : List UInt8) (k : Nat) : (sV seed index m k).length = 16 := fQ k _ (dO _ _ _) _
theorem aBo (seed : List UInt8) (index : Int) (m : List UInt8) (n : Nat) : mQ seed index m (n + 1) = mQ seed index m n ++ [sV seed index m n] := by unfold mQ; rw [List.range_succ, List.map_append]; rfl
theorem wP (seed : List UInt8) (index : Int) (m : List UInt8) (n : Nat) : (mQ seed index m n).length = n := by unfold mQ; simp
end Go.Proofs.YtihghljfmlbfhaaGreatDoor
