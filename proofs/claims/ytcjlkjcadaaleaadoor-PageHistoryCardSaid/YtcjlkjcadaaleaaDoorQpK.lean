/-
  Several texts in one file: each has its own heading below.
-/
import Derived.Test.YtcjlkjcadaaleaaDoorQpJ
import Derived.Test.YtcjlkjcadaaleaaDoorQpG
import Derived.Test.YtcjlkjcadaaleaaDoorQpH
import Derived.Test.YtcjlkjcadaaleaaDoorQpE

/-
  Merkle trees: the root, of the program and of the reference.
-/
namespace Go.Proofs.YtcjlkjcadaaleaaDoor
open Go.RowKit

theorem take_eq (l : List (List UInt8)) (k : Nat) : (l.drop 0).take k = l.take k := by rw [List.drop_zero]
theorem drop_eq (l : List (List UInt8)) (k : Nat) : (l.drop k).take (l.length - k) = l.drop k := by rw [List.take_of_length_le (by rw [List.length_drop]; omega)]
/-- A tree of no or one leaf. -/
theorem rootS_nil : rootS [] = digestS 1 [] := rfl
theorem Digs.one {w : World} {v : Value} {d : List UInt8} (h : Digs w v [d]) : ∃ b o c, v = .slice (some ⟨b, o, none⟩) 1 c ∧ b < w.heap.size ∧ w.rangeAt b o (d.map u8v) := by
  obtain ⟨b, o, c, h1, _, _, h2, h3⟩ := h.at (k := 0) (by simp)
  exact ⟨b, o, c, h1, h2, by simpa using h3⟩
/-- The two parts of a list of more than one. -/
theorem Digs.parts {w : World} {v : Value} {ds : List (List UInt8)} (h : Digs w v ds) (hn : 1 < ds.length) {k : Nat} (h1 : 0 < k) (h2 : k < ds.length) : ∃ b o c, v = .slice (some ⟨b, o, none⟩) ds.length c ∧ ds.length ≤ c ∧ c ≤ maxLen ∧ b < w.heap.size ∧
    (∀ c', k ≤ c' → c' ≤ maxLen → Digs w (.slice (some ⟨b, o, none⟩) k c') (ds.take k)) ∧ (∀ c', ds.length - k ≤ c' → c' ≤ maxLen → Digs w (.slice (some ⟨b, o + k * 16, none⟩) (ds.length - k) c') (ds.drop k)) := by
  obtain ⟨b, o, c, rfl, hc1, hc2, hb, _⟩ := h.at (k := 0) (by omega)
  refine ⟨b, o, c, rfl, hc1, hc2, hb, fun c' h3 h4 => ?_, fun c' h3 h4 => ?_⟩
  · obtain ⟨b', o', c2, e, hD⟩ := h.sub 0 k c' (by omega) h1 h3 h4
    cases e
    rw [take_eq, Nat.zero_mul, Nat.add_zero] at hD
    exact hD
  · obtain ⟨b', o', c2, e, hD⟩ := h.sub k (ds.length - k) c' (by omega) (by omega) h3 h4
    cases e
    rw [drop_eq] at hD
    exact hD

set_option maxRecDepth 100000 in
set_option maxHeartbeats 4000000 in
theorem root_any (N : Nat) : ∀ (ds : List (List UInt8)) (v : Value) (w : World), ShaMem w → ds.length ≤ N → ds.length ≤ 100000 → Digs w v ds →
    Calls Tryd.prog 76 #[v] w fun e w' => e = .returned (.agg ((rootS ds).map u8v).toArray) ∧ Ext w w' := by
  induction N with
  | zero =>
    intro ds v w hM hN _ hD
    obtain rfl : ds = [] := List.eq_nil_of_length_eq_zero (by omega)
    obtain ⟨A, c, rfl, _, _⟩ := hD.form
    have HG := hide (fun (W : World) (hE : Ext w W) => digest_any 1 [] (.slice none 0 0) W (hM.ext hE) (Parts.nil W) (by simp) (fun p hp => by cases hp))
    have HR := hide (And.intro (show digestS 1 [] = rootS [] from rfl) (rootS_length []))
    obtain ⟨res, hres⟩ : ∃ x, rootS [] = x := ⟨_, rfl⟩
    rw [hres] at HR ⊢
    clear hres hD
    go_enter Tryd.func76, Tryd.ntmps76
    go_wp2_with (first
      | (go_at_call 75; refine (unhide HG _ ((Ext.refl w).alloc _)).mono ?_; rintro e w5 ⟨rfl, hE5⟩; rw [(unhide HR).1]; have H5 := hide (And.intro (((Ext.refl w).alloc _).trans hE5) ((Blk.new w 23 (Array.replicate 16 (.int .u8 0))).ext hE5)); clear hE5)
      | (refine wpList_storeB (ty := 23) (t := 23) (x := .tmp 2) (y := .tmp 24) rfl rfl digest_wide rfl rfl (unhide H5).2 rfl (by simpa using (unhide HR).2) (bytes_one _) ?_; intro w7 hb7 hc7 hz7; have H7 := hide (And.intro hb7 hc7); clear hb7 hc7 hz7))
    refine bodyPost_ret (v := .agg (res.map u8v).toArray) (results_blk digest_wide rfl (unhide H7).1 (by simpa using (unhide HR).2) rfl) rfl ⟨rfl, ?_⟩
    exact (unhide H5).1.trans' (unhide H7).2 (fun _ _ h => h) (fun i hi e => by omega)
  | succ N ih =>
    intro ds v w hM hN h5 hD
    rcases (by omega : ds.length = 0 ∨ ds.length = 1 ∨ 1 < ds.length) with h | h | h
    · obtain rfl : ds = [] := List.eq_nil_of_length_eq_zero h
      obtain ⟨A, c, rfl, _, _⟩ := hD.form
      have HG := hide (fun (W : World) (hE : Ext w W) => digest_any 1 [] (.slice none 0 0) W (hM.ext hE) (Parts.nil W) (by simp) (fun p hp => by cases hp))
      have HR := hide (And.intro (show digestS 1 [] = rootS [] from rfl) (rootS_length []))
      obtain ⟨res, hres⟩ : ∃ x, rootS [] = x := ⟨_, rfl⟩
      rw [hres] at HR ⊢
      clear hres hD ih
      go_enter Tryd.func76, Tryd.ntmps76
      go_wp2_with (first
        | (go_at_call 75; refine (unhide HG _ ((Ext.refl w).alloc _)).mono ?_; rintro e w5 ⟨rfl, hE5⟩; rw [(unhide HR).1]; have H5 := hide (And.intro (((Ext.refl w).alloc _).trans hE5) ((Blk.new w 23 (Array.replicate 16 (.int .u8 0))).ext hE5)); clear hE5)
        | (refine wpList_storeB (ty := 23) (t := 23) (x := .tmp 2) (y := .tmp 24) rfl rfl digest_wide rfl rfl (unhide H5).2 rfl (by simpa using (unhide HR).2) (bytes_one _) ?_; intro w7 hb7 hc7 hz7; have H7 := hide (And.intro hb7 hc7); clear hb7 hc7 hz7))
      refine bodyPost_ret (v := .agg (res.map u8v).toArray) (results_blk digest_wide rfl (unhide H7).1 (by simpa using (unhide HR).2) rfl) rfl ⟨rfl, ?_⟩
      exact (unhide H5).1.trans' (unhide H7).2 (fun _ _ h => h) (fun i hi e => by omega)
    · obtain ⟨d, rfl⟩ : ∃ d, ds = [d] := by
        match ds, h with
        | [d], _ => exact ⟨d, rfl⟩
      have hd : d.length = 16 := hD.1 d (by simp)
      obtain ⟨b, o, c, rfl, hb, hR⟩ := hD.one
      have HG := hide (fun (W : World) (hE : Ext w W) => leaf_any d W (hM.ext hE) hd)
      have HR := hide (And.intro (rootS_one d) (rootS_length [d]))
      obtain ⟨res, hres⟩ : ∃ x, rootS [d] = x := ⟨_, rfl⟩
      rw [hres] at HR ⊢
      obtain ⟨cs, hcs⟩ : ∃ x, d.map u8v = x := ⟨_, rfl⟩
      have hcl : cs.length = 16 := by rw [← hcs]; simpa using hd
      rw [hcs] at HG hR
      have HA := hide (rangeAt_ext hR ((Ext.refl w).alloc (.cells (Array.replicate 16 (.int .u8 0)) 23)))
      clear hres hD ih hcs hR
      go_enter Tryd.func76, Tryd.ntmps76
      go_wp2_with (first
        | (refine wpList_loadMG (by rfl) (ty := 23) (x := .tmp 28) rfl digest_wide rfl (unhide HA) hcl ?_)
        | (go_at_call 97; refine (unhide HG _ ((Ext.refl w).alloc _)).mono ?_; rintro e w5 ⟨rfl, hE5⟩; rw [← (unhide HR).1]; have H5 := hide (And.intro (((Ext.refl w).alloc _).trans hE5) ((Blk.new w 23 (Array.replicate 16 (.int .u8 0))).ext hE5)); clear hE5)
        | (refine wpList_storeB (ty := 23) (t := 23) (x := .tmp 2) (y := .tmp 30) rfl rfl digest_wide rfl rfl (unhide H5).2 rfl (by simpa using (unhide HR).2) (bytes_one _) ?_; intro w7 hb7 hc7 hz7; have H7 := hide (And.intro hb7 hc7); clear hb7 hc7 hz7))
      refine bodyPost_ret (v := .agg (res.map u8v).toArray) (results_blk digest_wide rfl (unhide H7).1 (by simpa using (unhide HR).2) rfl) rfl ⟨rfl, ?_⟩
      exact (unhide H5).1.trans' (unhide H7).2 (fun _ _ h => h) (fun i hi e => by omega)
    · have hb := splitS_bounds ds.length h
      have HSp := hide (fun W => split_any ds.length W h (by omega))
      obtain ⟨b, o, c, rfl, hc1, hc2, hbl, hL, hRt⟩ := hD.parts h hb.1 hb.2
      have e16 : 16 = 16 := rfl
      have hll : (ds.take (splitS ds.length)).length = splitS ds.length := by rw [List.length_take]; omega
      have hrl : (ds.drop (splitS ds.length)).length = ds.length - splitS ds.length := by rw [List.length_drop]
      have HA := hide (fun (W : World) (hE : Ext w W) => ih (ds.take (splitS ds.length)) (.slice (some ⟨b, o, none⟩) (splitS ds.length) (splitS ds.length)) W (hM.ext hE) (by omega) (by omega) ((hL (splitS ds.length) (by omega) (by omega)).ext hE))
      have HB := hide (fun (W : World) (hE : Ext w W) => ih (ds.drop (splitS ds.length)) (.slice (some ⟨b, o + splitS ds.length * 16, none⟩) (ds.length - splitS ds.length) (ds.length - splitS ds.length)) W (hM.ext hE) (by omega) (by omega) ((hRt (ds.length - splitS ds.length) (by omega) (by omega)).ext hE))
      have HN := hide (fun (W : World) (hE : Ext w W) => node_any (rootS (ds.take (splitS ds.length))) (rootS (ds.drop (splitS ds.length))) W (hM.ext hE) (rootS_length _) (rootS_length _))
      have HR := hide (And.intro (rootS_two ds h) (rootS_length ds))
      obtain ⟨res, hres⟩ : ∃ x, rootS ds = x := ⟨_, rfl⟩
      rw [hres] at HR ⊢
      generalize splitS ds.length = k at *
      generalize rootS (ds.take k) = ra at *
      generalize rootS (ds.drop k) = rb at *
      generalize ds.length = n at *
      unfold maxLen at hc2
      have hk1 : k ≤ n := by omega
      have hk2 : k ≤ c := by omega
      have hk3 : ¬ n = k := by omega
      have hk4 : ¬ c = k := by omega
      clear hres hD ih hL hRt hll hrl
      go_enter Tryd.func76, Tryd.ntmps76
      go_upto_region 4 with (go_at_call 98; refine (unhide HSp _).mono ?_; rintro e w1 ⟨rfl, rfl⟩)
      refine wp_region_held_drew (S := fun _ => True) (by kernel_rfl) trivial (fun hHeld => ?_)
      refine wpAnyH_take (i := 0) (oi := _) (v := ?_) rfl (by kernel_rfl) (by kernel_rfl) (by kernel_rfl) (fun _ _ _ h => h) (Or.inl ⟨by rfl, fun wz hSz => ?_⟩) (by assumption) ?_
      rotate_left
      · (first | (go_simp; done) | (go_simp; with_reducible rfl))
      try simp only [Act.put, List.setIfInBounds_toArray, List.set_cons_zero, List.set_cons_succ, List.getElem_toArray, List.getElem_cons_zero]
      refine wpAnyH_take (i := 1) (oi := _) (v := ?_) rfl (by kernel_rfl) (by kernel_rfl) (by kernel_rfl) (fun _ _ _ h => h) (Or.inl ⟨by rfl, fun wz hSz => ?_⟩) (by assumption) ?_
      rotate_left
      · (first | (go_simp; done) | (go_simp; with_reducible rfl))
      try simp only [Act.put, List.setIfInBounds_toArray, List.set_cons_zero, List.set_cons_succ, List.getElem_toArray, List.getElem_cons_succ, List.getElem_cons_zero]
      refine wpAnyH_take (i := 2) (oi := _) (v := ?_) rfl (by kernel_rfl) (by kernel_rfl) (by kernel_rfl) (fun _ _ _ h => h) (Or.inl ⟨by rfl, fun wz hSz => ?_⟩) (by assumption) ?_
      rotate_left
      · (first | (go_simp; done) | (go_simp; with_reducible rfl))
      try simp only [Act.put, List.setIfInBounds_toArray, List.set_cons_zero, List.set_cons_succ, List.getElem_toArray, List.getElem_cons_succ, List.getElem_cons_zero]
      refine wpAnyH_take (i := 3) (oi := _) (v := ?_) rfl (by kernel_rfl) (by kernel_rfl) (by kernel_rfl) (fun _ _ _ h => h) (Or.inl ⟨by rfl, fun wz hSz => ?_⟩) (by assumption) ?_
      rotate_left
      · (first | (go_simp; done) | (go_simp; with_reducible rfl))
      try simp only [Act.put, List.setIfInBounds_toArray, List.set_cons_zero, List.set_cons_succ, List.getElem_toArray, List.getElem_cons_succ, List.getElem_cons_zero]
      refine wpAnyH_take (i := 5) (oi := _) (v := ?_) rfl (by kernel_rfl) (by kernel_rfl) (by kernel_rfl) (fun _ _ _ h => h) (Or.inl ⟨by rfl, fun wz hSz => ?_⟩) (by assumption) ?_
      rotate_left
      · (first | (go_simp; done) | (go_simp; with_reducible rfl))
      try simp only [Act.put, List.setIfInBounds_toArray, List.set_cons_zero, List.set_cons_succ, List.getElem_toArray, List.getElem_cons_succ, List.getElem_cons_zero]
      refine wpAnyH_take (i := 6) (oi := _) (v := ?_) rfl (by kernel_rfl) (by kernel_rfl) (by kernel_rfl) (fun _ _ _ h => h) (Or.inl ⟨by rfl, fun wz hSz => ?_⟩) (by assumption) ?_
      rotate_left
      · (first | (go_simp; done) | (go_simp; with_reducible rfl))
      try simp only [Act.put, List.setIfInBounds_toArray, List.set_cons_zero, List.set_cons_succ, List.getElem_toArray, List.getElem_cons_succ, List.getElem_cons_zero]
      refine wpAnyH_take (i := 7) (oi := _) (v := ?_) rfl (by kernel_rfl) (by kernel_rfl) (by kernel_rfl) (fun _ _ _ h => h) (Or.inl ⟨by rfl, fun wz hSz => ?_⟩) (by assumption) ?_
      rotate_left
      · (first | (go_simp; done) | (go_simp; with_reducible rfl))
      try simp only [Act.put, List.setIfInBounds_toArray, List.set_cons_zero, List.set_cons_succ, List.getElem_toArray, List.getElem_cons_succ, List.getElem_cons_zero]
      refine wpAnyH_take (i := 8) (oi := _) (v := ?_) rfl (by kernel_rfl) (by kernel_rfl) (by kernel_rfl) (fun _ _ _ h => h) (Or.inl ⟨by rfl, fun wz hSz => ?_⟩) (by assumption) ?_
      rotate_left
      · (first | (go_simp; done) | (go_simp; with_reducible rfl))
      try simp only [Act.put, List.setIfInBounds_toArray, List.set_cons_zero, List.set_cons_succ, List.getElem_toArray, List.getElem_cons_succ, List.getElem_cons_zero]
      refine wpAnyH_take (i := 9) (oi := _) (v := ?_) rfl (by kernel_rfl) (by kernel_rfl) (by kernel_rfl) (fun _ _ _ h => h) (Or.inl ⟨by rfl, fun wz hSz => ?_⟩) (by assumption) ?_
      rotate_left
      · (first | (go_simp; done) | (go_simp; with_reducible rfl))
      try simp only [Act.put, List.setIfInBounds_toArray, List.set_cons_zero, List.set_cons_succ, List.getElem_toArray, List.getElem_cons_succ, List.getElem_cons_zero]
      refine wpAnyH_ready (rs := [4]) (by kernel_rfl) (by simp) (AllReadyH.cons (o := _) rfl (fun K hK => ?_) AllReadyH.nil)
      try go_simp
      (refine (unhide HA _ (((Ext.refl w).alloc _).drew)).mono ?_; rintro e w3 ⟨rfl, hE3⟩; have H3 := hide (And.intro ((((Ext.refl w).alloc _).drew).trans hE3) (((Blk.new w 23 (Array.replicate 16 (.int .u8 0))).drew).ext hE3)); have hS : True := trivial; clear hHeld hE3)
      refine hK.out _ _ ?_ (fun hHeld => ?_)
      · exact hS
      clear hK K
      try simp only [Act.put, List.setIfInBounds_toArray, List.set_cons_zero, List.set_cons_succ, List.getElem_toArray, List.getElem_cons_succ, List.getElem_cons_zero]
      refine wpAnyH_ready (rs := [10]) (by kernel_rfl) (by simp) (AllReadyH.cons (o := _) rfl (fun K hK => ?_) AllReadyH.nil)
      try go_simp
      (refine (unhide HB _ (unhide H3).1).mono ?_; rintro e w4 ⟨rfl, hE4⟩; have H4 := hide (And.intro ((unhide H3).1.trans hE4) ((unhide H3).2.ext hE4)); have hS : True := trivial; clear hHeld hE4 H3)
      refine hK.out _ _ ?_ (fun hHeld => ?_)
      · exact hS
      clear hK K
      try simp only [Act.put, List.setIfInBounds_toArray, List.set_cons_zero, List.set_cons_succ, List.getElem_toArray, List.getElem_cons_succ, List.getElem_cons_zero]
      refine wpAnyH_ready (rs := [11]) (by kernel_rfl) (by simp) (AllReadyH.cons (o := _) rfl (fun K hK => ?_) AllReadyH.nil)
      try go_simp
      (refine (unhide HN _ (unhide H4).1).mono ?_; rintro e w5 ⟨rfl, hE5⟩; rw [← (unhide HR).1]; have H5 := hide (And.intro ((unhide H4).1.trans hE5) ((unhide H4).2.ext hE5)); have hS : True := trivial; clear hHeld hE5 H4)
      refine hK.out _ _ ?_ (fun hHeld => ?_)
      · exact hS
      clear hK K
      try simp only [Act.put, List.setIfInBounds_toArray, List.set_cons_zero, List.set_cons_succ, List.getElem_toArray, List.getElem_cons_succ, List.getElem_cons_zero]
      refine wpAnyH_ready (rs := [12]) (by kernel_rfl) (by simp) (AllReadyH.cons (o := _) rfl (fun K hK => ?_) AllReadyH.nil)
      (refine step_storeB (ty := 23) (t := 23) (x := .tmp 2) (y := .tmp 21) rfl rfl digest_wide rfl rfl (unhide H5).2 rfl (by simpa using (unhide HR).2) (bytes_one _) ?_; intro w7 hb7 hc7 hz7; have H7 := hide (And.intro hb7 (Chg.trans' (unhide H5).1 hc7 (fun _ _ h => h) (fun i hi e => by omega))); have hS : True := trivial; clear hHeld hb7 hc7 hz7)
      refine hK.out _ _ ?_ (fun hHeld => ?_)
      · exact hS
      clear hK K
      try simp only [Act.put, List.getElem_toArray, List.getElem_cons_succ, List.getElem_cons_zero]
      refine wpAnyH_done (by kernel_rfl) ?_ _
      go_wp2
      refine bodyPost_ret (v := .agg (res.map u8v).toArray) (results_blk digest_wide rfl (unhide H7).1 (by simpa using (unhide HR).2) rfl) rfl ⟨rfl, ?_⟩
      exact (unhide H7).2
set_option maxRecDepth 100000 in
set_option maxHeartbeats 4000000 in
theorem rroot_any (N : Nat) : ∀ (ds : List (List UInt8)) (v : Value) (w : World),  ds.length ≤ N → ds.length ≤ 100000 → Digs w v ds →
    Calls Tryd.prog 94 #[v] w fun e w' => e = .returned (.agg ((rootS ds).map u8v).toArray) ∧ Ext w w' := by
  induction N with
  | zero =>
    intro ds v w  hN _ hD
    obtain rfl : ds = [] := List.eq_nil_of_length_eq_zero (by omega)
    obtain ⟨A, c, rfl, _, _⟩ := hD.form
    have HG := hide (fun (W : World) (hE : Ext w W) => rdigest_any 1 [] (.slice none 0 0) W  (Parts.nil W) (by simp) (fun p hp => by cases hp))
    have HR := hide (And.intro (show digestS 1 [] = rootS [] from rfl) (rootS_length []))
    obtain ⟨res, hres⟩ : ∃ x, rootS [] = x := ⟨_, rfl⟩
    rw [hres] at HR ⊢
    clear hres hD
    go_enter Tryd.func94, Tryd.ntmps94
    go_wp2_with (first
      | (go_at_call 95; refine (unhide HG _ ((Ext.refl w).alloc _)).mono ?_; rintro e w5 ⟨rfl, hE5⟩; rw [(unhide HR).1]; have H5 := hide (And.intro (((Ext.refl w).alloc _).trans hE5) ((Blk.new w 23 (Array.replicate 16 (.int .u8 0))).ext hE5)); clear hE5)
      | (refine wpList_storeB (ty := 23) (t := 23) (x := .tmp 2) (y := .tmp 7) rfl rfl digest_wide rfl rfl (unhide H5).2 rfl (by simpa using (unhide HR).2) (bytes_one _) ?_; intro w7 hb7 hc7 hz7; have H7 := hide (And.intro hb7 hc7); clear hb7 hc7 hz7))
    refine bodyPost_ret (v := .agg (res.map u8v).toArray) (results_blk digest_wide rfl (unhide H7).1 (by simpa using (unhide HR).2) rfl) rfl ⟨rfl, ?_⟩
    exact (unhide H5).1.trans' (unhide H7).2 (fun _ _ h => h) (fun i hi e => by omega)
  | succ N ih =>
    intro ds v w  hN h5 hD
    rcases (by omega : ds.length = 0 ∨ ds.length = 1 ∨ 1 < ds.length) with h | h | h
    · obtain rfl : ds = [] := List.eq_nil_of_length_eq_zero h
      obtain ⟨A, c, rfl, _, _⟩ := hD.form
      have HG := hide (fun (W : World) (hE : Ext w W) => rdigest_any 1 [] (.slice none 0 0) W  (Parts.nil W) (by simp) (fun p hp => by cases hp))
      have HR := hide (And.intro (show digestS 1 [] = rootS [] from rfl) (rootS_length []))
      obtain ⟨res, hres⟩ : ∃ x, rootS [] = x := ⟨_, rfl⟩
      rw [hres] at HR ⊢
      clear hres hD ih
      go_enter Tryd.func94, Tryd.ntmps94
      go_wp2_with (first
        | (go_at_call 95; refine (unhide HG _ ((Ext.refl w).alloc _)).mono ?_; rintro e w5 ⟨rfl, hE5⟩; rw [(unhide HR).1]; have H5 := hide (And.intro (((Ext.refl w).alloc _).trans hE5) ((Blk.new w 23 (Array.replicate 16 (.int .u8 0))).ext hE5)); clear hE5)
        | (refine wpList_storeB (ty := 23) (t := 23) (x := .tmp 2) (y := .tmp 7) rfl rfl digest_wide rfl rfl (unhide H5).2 rfl (by simpa using (unhide HR).2) (bytes_one _) ?_; intro w7 hb7 hc7 hz7; have H7 := hide (And.intro hb7 hc7); clear hb7 hc7 hz7))
      refine bodyPost_ret (v := .agg (res.map u8v).toArray) (results_blk digest_wide rfl (unhide H7).1 (by simpa using (unhide HR).2) rfl) rfl ⟨rfl, ?_⟩
      exact (unhide H5).1.trans' (unhide H7).2 (fun _ _ h => h) (fun i hi e => by omega)
    · obtain ⟨d, rfl⟩ : ∃ d, ds = [d] := by
        match ds, h with
        | [d], _ => exact ⟨d, rfl⟩
      have hd : d.length = 16 := hD.1 d (by simp)
      obtain ⟨b, o, c, rfl, hb, hR⟩ := hD.one
      have HG := hide (fun (W : World) (hE : Ext w W) => rleaf_any d W  hd)
      have HR := hide (And.intro (rootS_one d) (rootS_length [d]))
      obtain ⟨res, hres⟩ : ∃ x, rootS [d] = x := ⟨_, rfl⟩
      rw [hres] at HR ⊢
      obtain ⟨cs, hcs⟩ : ∃ x, d.map u8v = x := ⟨_, rfl⟩
      have hcl : cs.length = 16 := by rw [← hcs]; simpa using hd
      rw [hcs] at HG hR
      have HA := hide (rangeAt_ext hR ((Ext.refl w).alloc (.cells (Array.replicate 16 (.int .u8 0)) 23)))
      clear hres hD ih hcs hR
      go_enter Tryd.func94, Tryd.ntmps94
      go_wp2_with (first
        | (refine wpList_loadMG (by rfl) (ty := 23) (x := .tmp 12) rfl digest_wide rfl (unhide HA) hcl ?_)
        | (go_at_call 109; refine (unhide HG _ ((Ext.refl w).alloc _)).mono ?_; rintro e w5 ⟨rfl, hE5⟩; rw [← (unhide HR).1]; have H5 := hide (And.intro (((Ext.refl w).alloc _).trans hE5) ((Blk.new w 23 (Array.replicate 16 (.int .u8 0))).ext hE5)); clear hE5)
        | (refine wpList_storeB (ty := 23) (t := 23) (x := .tmp 2) (y := .tmp 14) rfl rfl digest_wide rfl rfl (unhide H5).2 rfl (by simpa using (unhide HR).2) (bytes_one _) ?_; intro w7 hb7 hc7 hz7; have H7 := hide (And.intro hb7 hc7); clear hb7 hc7 hz7))
      refine bodyPost_ret (v := .agg (res.map u8v).toArray) (results_blk digest_wide rfl (unhide H7).1 (by simpa using (unhide HR).2) rfl) rfl ⟨rfl, ?_⟩
      exact (unhide H5).1.trans' (unhide H7).2 (fun _ _ h => h) (fun i hi e => by omega)
    · have hb := splitS_bounds ds.length h
      have HSp := hide (fun W => rsplit_any ds.length W h (by omega))
      obtain ⟨b, o, c, rfl, hc1, hc2, hbl, hL, hRt⟩ := hD.parts h hb.1 hb.2
      have e16 : 16 = 16 := rfl
      have hll : (ds.take (splitS ds.length)).length = splitS ds.length := by rw [List.length_take]; omega
      have hrl : (ds.drop (splitS ds.length)).length = ds.length - splitS ds.length := by rw [List.length_drop]
      have HA := hide (fun (W : World) (hE : Ext w W) => ih (ds.take (splitS ds.length)) (.slice (some ⟨b, o, none⟩) (splitS ds.length) c) W  (by omega) (by omega) ((hL c (by omega) (by omega)).ext hE))
      have HB := hide (fun (W : World) (hE : Ext w W) => ih (ds.drop (splitS ds.length)) (.slice (some ⟨b, o + splitS ds.length * 16, none⟩) (ds.length - splitS ds.length) (c - splitS ds.length)) W  (by omega) (by omega) ((hRt (c - splitS ds.length) (by omega) (by omega)).ext hE))
      have HN := hide (fun (W : World) (hE : Ext w W) => rnode_any (rootS (ds.take (splitS ds.length))) (rootS (ds.drop (splitS ds.length))) W  (rootS_length _) (rootS_length _))
      have HR := hide (And.intro (rootS_two ds h) (rootS_length ds))
      obtain ⟨res, hres⟩ : ∃ x, rootS ds = x := ⟨_, rfl⟩
      rw [hres] at HR ⊢
      generalize splitS ds.length = k at *
      generalize rootS (ds.take k) = ra at *
      generalize rootS (ds.drop k) = rb at *
      generalize ds.length = n at *
      unfold maxLen at hc2
      have hk1 : k ≤ n := by omega
      have hk2 : k ≤ c := by omega
      have hk3 : ¬ n = k := by omega
      have hk4 : ¬ c = k := by omega
      clear hres hD ih hL hRt hll hrl
      go_enter Tryd.func94, Tryd.ntmps94
      go_upto_region 6 with (go_at_call 110; refine (unhide HSp _).mono ?_; rintro e w1 ⟨rfl, rfl⟩)
      refine wp_region_held_drew (S := fun _ => True) (by kernel_rfl) trivial (fun hHeld => ?_)
      refine wpAnyH_take (i := 0) (oi := _) (v := ?_) rfl (by kernel_rfl) (by kernel_rfl) (by kernel_rfl) (fun _ _ _ h => h) (Or.inl ⟨by rfl, fun wz hSz => ?_⟩) (by assumption) ?_
      rotate_left
      · (first | (go_simp; done) | (go_simp; with_reducible rfl))
      try simp only [Act.put, List.setIfInBounds_toArray, List.set_cons_zero, List.set_cons_succ, List.getElem_toArray, List.getElem_cons_zero]
      refine wpAnyH_take (i := 1) (oi := _) (v := ?_) rfl (by kernel_rfl) (by kernel_rfl) (by kernel_rfl) (fun _ _ _ h => h) (Or.inl ⟨by rfl, fun wz hSz => ?_⟩) (by assumption) ?_
      rotate_left
      · (first | (go_simp; done) | (go_simp; with_reducible rfl))
      try simp only [Act.put, List.setIfInBounds_toArray, List.set_cons_zero, List.set_cons_succ, List.getElem_toArray, List.getElem_cons_succ, List.getElem_cons_zero]
      refine wpAnyH_take (i := 2) (oi := _) (v := ?_) rfl (by kernel_rfl) (by kernel_rfl) (by kernel_rfl) (fun _ _ _ h => h) (Or.inl ⟨by rfl, fun wz hSz => ?_⟩) (by assumption) ?_
      rotate_left
      · (first | (go_simp; done) | (go_simp; with_reducible rfl))
      try simp only [Act.put, List.setIfInBounds_toArray, List.set_cons_zero, List.set_cons_succ, List.getElem_toArray, List.getElem_cons_succ, List.getElem_cons_zero]
      refine wpAnyH_take (i := 4) (oi := _) (v := ?_) rfl (by kernel_rfl) (by kernel_rfl) (by kernel_rfl) (fun _ _ _ h => h) (Or.inl ⟨by rfl, fun wz hSz => ?_⟩) (by assumption) ?_
      rotate_left
      · (first | (go_simp; done) | (go_simp; with_reducible rfl))
      try simp only [Act.put, List.setIfInBounds_toArray, List.set_cons_zero, List.set_cons_succ, List.getElem_toArray, List.getElem_cons_succ, List.getElem_cons_zero]
      refine wpAnyH_take (i := 5) (oi := _) (v := ?_) rfl (by kernel_rfl) (by kernel_rfl) (by kernel_rfl) (fun _ _ _ h => h) (Or.inl ⟨by rfl, fun wz hSz => ?_⟩) (by assumption) ?_
      rotate_left
      · (first | (go_simp; done) | (go_simp; with_reducible rfl))
      try simp only [Act.put, List.setIfInBounds_toArray, List.set_cons_zero, List.set_cons_succ, List.getElem_toArray, List.getElem_cons_succ, List.getElem_cons_zero]
      refine wpAnyH_take (i := 6) (oi := _) (v := ?_) rfl (by kernel_rfl) (by kernel_rfl) (by kernel_rfl) (fun _ _ _ h => h) (Or.inl ⟨by rfl, fun wz hSz => ?_⟩) (by assumption) ?_
      rotate_left
      · (first | (go_simp; done) | (go_simp; with_reducible rfl))
      try simp only [Act.put, List.setIfInBounds_toArray, List.set_cons_zero, List.set_cons_succ, List.getElem_toArray, List.getElem_cons_succ, List.getElem_cons_zero]
      refine wpAnyH_ready (rs := [3]) (by kernel_rfl) (by simp) (AllReadyH.cons (o := _) rfl (fun K hK => ?_) AllReadyH.nil)
      try go_simp
      (refine (unhide HA _ (((Ext.refl w).alloc _).drew)).mono ?_; rintro e w3 ⟨rfl, hE3⟩; have H3 := hide (And.intro ((((Ext.refl w).alloc _).drew).trans hE3) (((Blk.new w 23 (Array.replicate 16 (.int .u8 0))).drew).ext hE3)); have hS : True := trivial; clear hHeld hE3)
      refine hK.out _ _ ?_ (fun hHeld => ?_)
      · exact hS
      clear hK K
      try simp only [Act.put, List.setIfInBounds_toArray, List.set_cons_zero, List.set_cons_succ, List.getElem_toArray, List.getElem_cons_succ, List.getElem_cons_zero]
      refine wpAnyH_ready (rs := [7]) (by kernel_rfl) (by simp) (AllReadyH.cons (o := _) rfl (fun K hK => ?_) AllReadyH.nil)
      try go_simp
      (refine (unhide HB _ (unhide H3).1).mono ?_; rintro e w4 ⟨rfl, hE4⟩; have H4 := hide (And.intro ((unhide H3).1.trans hE4) ((unhide H3).2.ext hE4)); have hS : True := trivial; clear hHeld hE4 H3)
      refine hK.out _ _ ?_ (fun hHeld => ?_)
      · exact hS
      clear hK K
      try simp only [Act.put, List.setIfInBounds_toArray, List.set_cons_zero, List.set_cons_succ, List.getElem_toArray, List.getElem_cons_succ, List.getElem_cons_zero]
      refine wpAnyH_ready (rs := [8]) (by kernel_rfl) (by simp) (AllReadyH.cons (o := _) rfl (fun K hK => ?_) AllReadyH.nil)
      try go_simp
      (refine (unhide HN _ (unhide H4).1).mono ?_; rintro e w5 ⟨rfl, hE5⟩; rw [← (unhide HR).1]; have H5 := hide (And.intro ((unhide H4).1.trans hE5) ((unhide H4).2.ext hE5)); have hS : True := trivial; clear hHeld hE5 H4)
      refine hK.out _ _ ?_ (fun hHeld => ?_)
      · exact hS
      clear hK K
      try simp only [Act.put, List.setIfInBounds_toArray, List.set_cons_zero, List.set_cons_succ, List.getElem_toArray, List.getElem_cons_succ, List.getElem_cons_zero]
      refine wpAnyH_ready (rs := [9]) (by kernel_rfl) (by simp) (AllReadyH.cons (o := _) rfl (fun K hK => ?_) AllReadyH.nil)
      (refine step_storeB (ty := 23) (t := 23) (x := .tmp 2) (y := .tmp 26) rfl rfl digest_wide rfl rfl (unhide H5).2 rfl (by simpa using (unhide HR).2) (bytes_one _) ?_; intro w7 hb7 hc7 hz7; have H7 := hide (And.intro hb7 (Chg.trans' (unhide H5).1 hc7 (fun _ _ h => h) (fun i hi e => by omega))); have hS : True := trivial; clear hHeld hb7 hc7 hz7)
      refine hK.out _ _ ?_ (fun hHeld => ?_)
      · exact hS
      clear hK K
      try simp only [Act.put, List.getElem_toArray, List.getElem_cons_succ, List.getElem_cons_zero]
      refine wpAnyH_done (by kernel_rfl) ?_ _
      go_wp2
      refine bodyPost_ret (v := .agg (res.map u8v).toArray) (results_blk digest_wide rfl (unhide H7).1 (by simpa using (unhide HR).2) rfl) rfl ⟨rfl, ?_⟩
      exact (unhide H7).2

end Go.Proofs.YtcjlkjcadaaleaaDoor

/-
  The abstract machine: specifications of the functions of the lower layers, out of their contracts.
-/
namespace Go.Proofs.YtcjlkjcadaaleaaDoor.Pv
open Go.RowKit

theorem u8w_v : u8w = u8v := rfl
theorem rl_bytes {C : Ctx} {k : Nat} {bs : List UInt8} {cs : Array Value} (h : RL C [.bs k bs] cs.toList) : bs.length = k ∧ cs = (bs.map u8v).toArray := by
  obtain ⟨h1, h2⟩ := h.bs1
  exact ⟨h1, by apply Array.ext'; simpa [u8w_v] using h2⟩
theorem rv_dig {C : Ctx} {k : Nat} {bs : List UInt8} {v : Value} (h : RV C (.w (.agg [.bs k bs])) v) : bs.length = k ∧ v = .agg (bs.map u8v).toArray := by
  cases h with
  | w h => cases h with
    | agg h =>
      obtain ⟨h1, h2⟩ := rl_bytes h
      exact ⟨h1, by rw [h2]⟩
theorem rv_of_dig {C : Ctx} {bs : List UInt8} {k : Nat} (h : bs.length = k) : RV C (.w (.agg [.bs k bs])) (.agg (bs.map u8v).toArray) :=
  .w (.agg (by simpa [u8w_v] using RL.cons (R.bs (C := C) h) RL.nil))
/-! ### Parts, one by one -/
def varN : Nat → (Nat → List PC) → (List (List UInt8) → M) → M
  | 0, _, k => k []
  | n + 1, f, k => varN n f fun l => (match f n with
    | [c] => bytesM (pv1 c) fun b => k (l ++ [b])
    | _ => .fail)
def varM (v : PV) (k : List (List UInt8) → M) : M := match v with
  | .w (.one (.ow x ver n off len)) => .obj x fun g vr ob => guardT g (match Nat.beq ver vr, Nat.beq n 1, Nat.beq off 0, ob with
    | true, true, true, .arr _ m tot f => (match Nat.beq n m, Nat.beq len tot with
      | true, true => varN len f k
      | _, _ => .fail)
    | _, _, _, _ => .fail)
  | .w (.one (.lit (.slice none 0 0))) => k []
  | _ => .fail
section
variable {A : Amb} {s : St} {a : Act} {w : World} {env : Env} {F : Option Bool → PV → Wr → Prop}
theorem varN_ok (h : GamE A s a w env) {vs : List Value} {f : Nat → List PC} : ∀ {n : Nat} {k : List (List UInt8) → M}, n ≤ vs.length → (∀ i, i < n → RL (ctxOf A w env) (f i) ((vs.drop (i * 1)).take 1)) → (varN n f k).ok none s F →
    ∃ ps, ps.length = n ∧ (∀ (i : Nat) (p : List UInt8), ps[i]? = some p → ∃ u, vs[i]? = some u ∧ Reads w 1 u p.length (p.map u8v)) ∧ (k ps).ok none s F
  | 0, k, _, _, hk => ⟨[], rfl, fun i p hp => by simp at hp, hk⟩
  | n + 1, k, hn, hr, hk => by
    obtain ⟨ps, h1, h2, hk⟩ := varN_ok h (n := n) (by omega) (fun i hi => hr i (by omega)) hk
    split at hk
    · rename_i c hfc
      have h3 := hr n (by omega)
      rw [hfc] at h3
      have hv : (vs.drop (n * 1)).take 1 = [vs[n]] := by
        apply List.ext_getElem?
        intro q
        rw [List.getElem?_take, List.getElem?_drop, Nat.mul_one]
        cases q with
        | zero => rw [if_pos (by omega), Nat.add_zero, List.getElem?_eq_getElem (by omega)]; rfl
        | succ q => rw [if_neg (by omega)]; simp
      rw [hv] at h3
      obtain ⟨l, h4, hk⟩ := bytesM_ok h (.w (.one h3.single)) hk
      refine ⟨ps ++ [l], by simp [h1], fun i p hp => ?_, hk⟩
      rcases Nat.lt_or_ge i n with hlt | hge
      · rw [List.getElem?_append_left (by omega)] at hp
        exact h2 i p hp
      · rw [List.getElem?_append_right (by omega)] at hp
        have hi : i = n := by
          rcases Nat.eq_or_lt_of_le hge with e | e
          · exact e.symm
          · rw [List.getElem?_eq_none (by simp; omega)] at hp; cases hp
        subst hi
        rw [h1, Nat.sub_self] at hp
        cases hp
        exact ⟨vs[i], List.getElem?_eq_getElem _, h4⟩
    · exact hk.elim
theorem varM_ok (h : GamE A s a w env) {v : PV} {val : Value} (hv : RV (ctxOf A w env) v val) {k : List (List UInt8) → M} (hk : (varM v k).ok none s F) : ∃ ps, Parts w val ps ∧ (k ps).ok none s F := by
  unfold varM at hk
  split at hk
  · rename_i x ver n off len
    obtain ⟨g, vr, ob, hfo, hk⟩ := hk
    have hk2 := guardT_ok hk
    clear hk
    obtain ⟨hg, hk⟩ := hk2
    obtain ⟨hd, hev, hob⟩ := obj_at h hfo hg
    cases hb : Nat.beq ver vr <;> cases hb2 : Nat.beq n 1 <;> cases hb3 : Nat.beq off 0 <;> cases ob <;> simp only [hb, hb2, hb3] at hk <;> try exact hk.elim
    rename_i e m tot f
    obtain rfl := beqT hb
    obtain rfl := beqT hb2
    obtain rfl := beqT hb3
    cases hb4 : Nat.beq 1 m <;> cases hb5 : Nat.beq len tot <;> simp only [hb4, hb5] at hk <;> try exact hk.elim
    obtain rfl := beqT hb4
    obtain rfl := beqT hb5
    obtain ⟨A0, n0, c0, rfl, hle0, rfl⟩ := hv.ow_inv hev
    obtain ⟨vs, hown, hel⟩ := hob
    have hrd := Reads.of_own hown
    have hn0 : n0 = len := by
      obtain ⟨_, A1, c1, e1, _⟩ := hrd
      cases e1; rfl
    subst hn0
    have hsl := reads_slice (off := 0) (m := n0) (by omega) hrd
    rw [Nat.zero_mul, List.drop_zero, List.take_of_length_le (by rw [hown.1]; omega)] at hsl
    obtain ⟨ps, h1, h2, hk⟩ := varN_ok h (vs := vs) (by rw [hown.1]; omega) hel hk
    exact ⟨ps, ⟨vs, by rw [hown.1, h1]; omega, by rw [h1, Nat.zero_mul]; exact hsl, h2⟩, hk⟩
  · have := hv.lit_inv
    subst this
    exact ⟨[], Parts.nil w, hk⟩
  · exact hk.elim
/-! ### Rows of digests -/
def digAt : List PC → List UInt8
  | [.bs _ l] => l
  | _ => []
def isDig : List PC → Bool
  | [.bs n _] => Nat.beq n 16
  | _ => false
def digF (l : List (List UInt8)) : Nat → List PC := fun i => [.bs 16 (l.getD i [])]
def rowD (len : Nat) (f : Nat → List PC) : List (List UInt8) := (List.range len).map fun i => digAt (f i)
def IsDRow (len : Nat) (f : Nat → List PC) : Prop := ∀ i, i < len → isDig (f i) = true
theorem rowD_length (n : Nat) (f : Nat → List PC) : (rowD n f).length = n := by simp [rowD]
@[simp] theorem isDRow_digF (n : Nat) (l : List (List UInt8)) : IsDRow n (digF l) := fun _ _ => rfl
@[simp] theorem rowD_digF (l : List (List UInt8)) : rowD l.length (digF l) = l := by
  apply List.ext_getElem (rowD_length _ _)
  intro i h1 h2
  simp only [rowD, List.getElem_map, List.getElem_range, digF, digAt]
  rw [List.getD_eq_getElem?_getD, List.getElem?_eq_getElem h2]
  rfl
theorem drow_cells {C : Ctx} {len : Nat} {f : Nat → List PC} {vs : List Value} (hl : vs.length = len * 16) (h : ∀ i, i < len → RL C (f i) ((vs.drop (i * 16)).take 16)) (hb : IsDRow len f) : vs = dcells (rowD len f) ∧ D16 (rowD len f) := by
  have key : ∀ i, i < len → (vs.drop (i * 16)).take 16 = (digAt (f i)).map u8v ∧ (digAt (f i)).length = 16 := by
    intro i hi
    have h1 := h i hi
    have h2 := hb i hi
    generalize f i = c at h1 h2
    unfold isDig at h2
    split at h2
    · obtain ⟨h3, h4⟩ := h1.bs1
      rw [beqT h2] at h3
      exact ⟨h4, h3⟩
    · cases h2
  have hD : D16 (rowD len f) := by
    intro d hd
    obtain ⟨i, hi, rfl⟩ := List.mem_map.1 hd
    exact (key i (List.mem_range.1 hi)).2
  refine ⟨?_, hD⟩
  have : ∀ n, n ≤ len → vs.take (n * 16) = dcells (rowD n f) := by
    intro n
    induction n with
    | zero => intro _; simp [rowD, dcells]
    | succ n ih =>
      intro hn
      have e1 : rowD (n + 1) f = rowD n f ++ [digAt (f n)] := by simp [rowD, List.range_succ]
      rw [e1, dcells, List.flatMap_append]
      have e2 : vs.take ((n + 1) * 16) = vs.take (n * 16) ++ (vs.drop (n * 16)).take 16 := by
        rw [show (n + 1) * 16 = n * 16 + 16 from by omega, List.take_add]
      rw [e2, ih (by omega), (key n (by omega)).1]
      simp [dcells]
  have h1 := this len (Nat.le_refl _)
  rwa [← hl, List.take_length] at h1
def digsM (v : PV) (k : List (List UInt8) → M) : M := match v with
  | .w (.one (.sl n len f)) => (match Nat.beq n 16 with
    | true => .need (IsDRow len f) (k (rowD len f))
    | false => .fail)
  | .w (.one (.ow x ver n off len)) => .obj x fun g vr ob => guardT g (match Nat.beq ver vr, Nat.beq n 16, Nat.beq off 0, ob with
    | true, true, true, .arr _ m tot f => (match Nat.beq n m with
      | true => .need (len ≤ tot ∧ IsDRow len f) (k (rowD len f))
      | false => .fail)
    | _, _, _, _ => .fail)
  | .w (.one (.lit (.slice none 0 0))) => k []
  | _ => .fail
theorem digsM_ok (h : GamE A s a w env) {v : PV} {val : Value} (hv : RV (ctxOf A w env) v val) {k : List (List UInt8) → M} (hk : (digsM v k).ok none s F) : ∃ l, Digs w val l ∧ (k l).ok none s F := by
  unfold digsM at hk
  split at hk
  · rename_i n len f
    cases hb : Nat.beq n 16 <;> rw [hb] at hk
    · exact hk.elim
    obtain rfl := beqT hb
    obtain ⟨hrow, hk⟩ := hk
    cases hv.inv with
    | sl hr hbb he =>
      obtain ⟨e1, e2⟩ := drow_cells hr.1 he hrow
      refine ⟨_, ⟨e2, ?_⟩, hk⟩
      rw [← e1, rowD_length]
      exact hr
  · rename_i x ver n off len
    obtain ⟨g, vr, ob, hfo, hk⟩ := hk
    have hk2 := guardT_ok hk
    clear hk
    obtain ⟨hg, hk⟩ := hk2
    obtain ⟨hd, hev, hob⟩ := obj_at h hfo hg
    cases hb : Nat.beq ver vr <;> cases hb2 : Nat.beq n 16 <;> cases hb3 : Nat.beq off 0 <;> cases ob <;> simp only [hb, hb2, hb3] at hk <;> try exact hk.elim
    rename_i e m tot f
    obtain rfl := beqT hb
    obtain rfl := beqT hb2
    obtain rfl := beqT hb3
    cases hb4 : Nat.beq 16 m <;> rw [hb4] at hk
    · exact hk.elim
    obtain rfl := beqT hb4
    obtain ⟨⟨hle, hrow⟩, hk⟩ := hk
    obtain ⟨A0, n0, c0, rfl, hle0, rfl⟩ := hv.ow_inv hev
    obtain ⟨vs, hown, hel⟩ := hob
    have hrd := Reads.of_own hown
    have hn0 : n0 = tot := by
      obtain ⟨_, A1, c1, e1, _⟩ := hrd
      cases e1; rfl
    subst hn0
    have hsl := reads_slice (off := 0) (m := len) (by omega) hrd
    obtain ⟨e1, e2⟩ := drow_cells (C := ctxOf A w env) (len := len) (f := f) (vs := (vs.drop (0 * 16)).take (len * 16)) hsl.1 (fun i hi => by rw [window_window vs hi, Nat.zero_add]; exact hel i (by omega)) hrow
    refine ⟨_, ⟨e2, ?_⟩, hk⟩
    rw [← e1, rowD_length]
    exact hsl
  · have := hv.lit_inv
    subst this
    exact ⟨[], ⟨D16.nil, Reads.nil w 16⟩, hk⟩
  · exact hk.elim
end

/-! ### The functions -/
def i64P (n : Int) : Prop := -9223372036854775808 ≤ n ∧ n < 9223372036854775808
def spInt : Spec := fun nm xs => match xs with
  | [.w (.one (.lit (.int .i64 n)))] => .need (i64P n) (.new nm (.arr 5 1 (wInt n).length (byF (wInt n))) fun v => .ret (pv1 (.ow nm v 1 0 (wInt n).length)))
  | _ => .fail
def spBytes : Spec := fun nm xs => match xs with
  | [.w (.one (.lit (.string b)))] => .need (b.size ≤ 1000000000) (.new nm (.arr 5 1 (wBytes b.data.toList).length (byF (wBytes b.data.toList))) fun v => .ret (pv1 (.ow nm v 1 0 (wBytes b.data.toList).length)))
  | _ => .fail
def spDigest : Spec := fun _ xs => match xs with
  | [.w (.one (.lit (.int .i64 tag))), ps] => varM ps fun pl => .need (pl.length ≤ 1000 ∧ ∀ p ∈ pl, p.length ≤ 10000) (.ret (.w (.agg [.bs 16 (digestS tag pl)])))
  | _ => .fail
def spDerive : Spec := fun _ xs => match xs with
  | [k, .w (.one (.lit (.string b))), ps] => bytesM k fun kb => varM ps fun pl => .need (kb.length ≤ 10000 ∧ b.size ≤ 10000 ∧ pl.length ≤ 90 ∧ ∀ p ∈ pl, p.length ≤ 10000) (.ret (.w (.agg [.bs 16 (deriveS kb b.data.toList pl)])))
  | _ => .fail
def spMac : Spec := fun _ xs => match xs with
  | [k, b] => bytesM k fun kb => bytesM b fun bb => .need (kb.length ≤ 1000000 ∧ bb.length ≤ 1000000) (.ret (.w (.agg [.bs 16 (mac kb bb)])))
  | _ => .fail
def spSeal (lim : Nat) : Spec := fun _ xs => match xs with
  | [.w (.agg [.bs 16 k]), .w (.one (.lit (.int .i64 n))), .w (.one (.lit (.string b)))] => .need (i64P n ∧ b.size ≤ lim) (.ret (.w (.agg [.lit (.int .i64 n), .lit (.string (strOf (applyS k n b.data.toList))), .bs 16 (tagS k n (applyS k n b.data.toList))])))
  | _ => .fail
def opened (k : List UInt8) (n : Int) (c : ByteArray) (t : List UInt8) : Bool := tagS k n c.data.toList == t
def spOpen (lim : Nat) : Spec := fun _ xs => match xs with
  | [.w (.agg [.bs 16 k]), .w (.agg [.lit (.int .i64 n), .lit (.string c), .bs 16 t])] => .need (i64P n ∧ c.size ≤ lim) (.ret (.tup [.one (.lit (.string (bif opened k n c t then strOf (applyS k n c.data.toList) else { data := #[] }))), .one (.lit (.int .i64 (bif opened k n c t then 0 else 8)))]))
  | _ => .fail
def spRoot : Spec := fun _ xs => match xs with
  | [v] => digsM v fun ds => .need (ds.length ≤ 100000) (.ret (.w (.agg [.bs 16 (rootS ds)])))
  | _ => .fail
theorem rv_box {C : Ctx} {n : Int} {c : ByteArray} {t : List UInt8} {v : Value} (h : RV C (.w (.agg [.lit (.int .i64 n), .lit (.string c), .bs 16 t])) v) : t.length = 16 ∧ v = .agg (boxV n c t) := by
  cases h with
  | w h => cases h with
    | @agg _ cs h =>
      generalize hq : cs.toList = q at h
      cases h with
      | cons h1 h => cases h with
        | cons h2 h =>
          cases h1; cases h2
          obtain ⟨h3, h4⟩ := h.bs1
          refine ⟨h3, ?_⟩
          congr 1
          apply Array.ext'
          rw [hq, h4]
          rfl
theorem rv_of_box {C : Ctx} {n : Int} {c : ByteArray} {t : List UInt8} (h : t.length = 16) : RV C (.w (.agg [.lit (.int .i64 n), .lit (.string c), .bs 16 t])) (.agg (boxV n c t)) :=
  .w (.agg (by
    have := RL.cons (C := C) (R.lit (v := .int .i64 n) rfl) (RL.cons (R.lit (v := .string c) rfl) (RL.cons (R.bs h) RL.nil))
    simpa [boxV, u8w_v] using this))
set_option maxRecDepth 100000 in
theorem int_ok : SpecOk Tryd.prog ShaMem 19 spInt := by
  refine ⟨call_enters Tryd.func19 (by kernel_rfl) rfl, fun A s a w env nm pvs vs F h hI hv hk => ?_⟩
  unfold spInt at hk
  split at hk
  rotate_left
  · exact hk.elim
  rename_i n
  obtain ⟨hn, hk⟩ := hk
  match vs, hv with
  | [v], ⟨h1, _⟩ =>
    obtain rfl := RV.lit_inv (show RV _ _ _ from h1)
    refine (wint_any n w hn.1 hn.2).mono ?_
    rintro e w' ⟨A1, c, rfl, ho, hE⟩
    obtain ⟨env', h3, h4⟩ := h.new_own nm 5 1 (wInt n).length (f := byF (wInt n)) hE ho (fun C i hi => byF_cells C (wInt n) i hi)
    exact ⟨_, _, _, env', rfl, hk, h3, h4⟩
set_option maxRecDepth 100000 in
theorem rint_ok : SpecOk Tryd.prog ShaMem 52 spInt := by
  refine ⟨call_enters Tryd.func52 (by kernel_rfl) rfl, fun A s a w env nm pvs vs F h hI hv hk => ?_⟩
  unfold spInt at hk
  split at hk
  rotate_left
  · exact hk.elim
  rename_i n
  obtain ⟨hn, hk⟩ := hk
  match vs, hv with
  | [v], ⟨h1, _⟩ =>
    obtain rfl := RV.lit_inv (show RV _ _ _ from h1)
    refine (rint_any n w hn.1 hn.2).mono ?_
    rintro e w' ⟨A1, c, rfl, ho, hE⟩
    obtain ⟨env', h3, h4⟩ := h.new_own nm 5 1 (wInt n).length (f := byF (wInt n)) hE ho (fun C i hi => byF_cells C (wInt n) i hi)
    exact ⟨_, _, _, env', rfl, hk, h3, h4⟩
set_option maxRecDepth 100000 in
theorem bytes_ok : SpecOk Tryd.prog ShaMem 20 spBytes := by
  refine ⟨call_enters Tryd.func20 (by kernel_rfl) rfl, fun A s a w env nm pvs vs F h hI hv hk => ?_⟩
  unfold spBytes at hk
  split at hk
  rotate_left
  · exact hk.elim
  rename_i b
  obtain ⟨hn, hk⟩ := hk
  match vs, hv with
  | [v], ⟨h1, _⟩ =>
    obtain rfl := RV.lit_inv (show RV _ _ _ from h1)
    refine (wbytes_any b w hn).mono ?_
    rintro e w' ⟨A1, c, rfl, ho, hE⟩
    obtain ⟨env', h3, h4⟩ := h.new_own nm 5 1 (wBytes b.data.toList).length (f := byF (wBytes b.data.toList)) hE ho (fun C i hi => byF_cells C _ i hi)
    exact ⟨_, _, _, env', rfl, hk, h3, h4⟩
set_option maxRecDepth 100000 in
theorem rbytes_ok : SpecOk Tryd.prog ShaMem 64 spBytes := by
  refine ⟨call_enters Tryd.func64 (by kernel_rfl) rfl, fun A s a w env nm pvs vs F h hI hv hk => ?_⟩
  unfold spBytes at hk
  split at hk
  rotate_left
  · exact hk.elim
  rename_i b
  obtain ⟨hn, hk⟩ := hk
  match vs, hv with
  | [v], ⟨h1, _⟩ =>
    obtain rfl := RV.lit_inv (show RV _ _ _ from h1)
    refine (rbytes_any b w hn).mono ?_
    rintro e w' ⟨A1, c, rfl, ho, hE⟩
    obtain ⟨env', h3, h4⟩ := h.new_own nm 5 1 (wBytes b.data.toList).length (f := byF (wBytes b.data.toList)) hE ho (fun C i hi => byF_cells C _ i hi)
    exact ⟨_, _, _, env', rfl, hk, h3, h4⟩
set_option maxRecDepth 100000 in
theorem digest_ok : SpecOk Tryd.prog ShaMem 75 spDigest := by
  refine ⟨call_enters Tryd.func75 (by kernel_rfl) rfl, fun A s a w env nm pvs vs F h hI hv hk => ?_⟩
  unfold spDigest at hk
  split at hk
  rotate_left
  · exact hk.elim
  rename_i tag ps
  match vs, hv with
  | [v, pv], ⟨h1, h2, _⟩ =>
    obtain rfl := RV.lit_inv (show RV _ _ _ from h1)
    obtain ⟨pl, hp, hk⟩ := varM_ok h h2 hk
    obtain ⟨⟨c1, c2⟩, hk⟩ := hk
    refine (digest_any tag pl pv w hI hp c1 c2).mono ?_
    rintro e w' ⟨rfl, hE⟩
    exact ⟨_, [], _, env, rfl, hk, h.ext hE, rv_of_dig (digestS_length _ _)⟩
set_option maxRecDepth 100000 in
theorem rdigest_ok : SpecOk Tryd.prog ShaMem 95 spDigest := by
  refine ⟨call_enters Tryd.func95 (by kernel_rfl) rfl, fun A s a w env nm pvs vs F h hI hv hk => ?_⟩
  unfold spDigest at hk
  split at hk
  rotate_left
  · exact hk.elim
  rename_i tag ps
  match vs, hv with
  | [v, pv], ⟨h1, h2, _⟩ =>
    obtain rfl := RV.lit_inv (show RV _ _ _ from h1)
    obtain ⟨pl, hp, hk⟩ := varM_ok h h2 hk
    obtain ⟨⟨c1, c2⟩, hk⟩ := hk
    refine (rdigest_any tag pl pv w  hp c1 c2).mono ?_
    rintro e w' ⟨rfl, hE⟩
    exact ⟨_, [], _, env, rfl, hk, h.ext hE, rv_of_dig (digestS_length _ _)⟩
set_option maxRecDepth 100000 in
theorem derive_ok : SpecOk Tryd.prog ShaMem 17 spDerive := by
  refine ⟨call_enters Tryd.func17 (by kernel_rfl) rfl, fun A s a w env nm pvs vs F h hI hv hk => ?_⟩
  unfold spDerive at hk
  split at hk
  rotate_left
  · exact hk.elim
  rename_i k b ps
  match vs, hv with
  | [kv, v, pv], ⟨h0, h1, h2, _⟩ =>
    obtain rfl := RV.lit_inv (show RV _ _ _ from h1)
    obtain ⟨kb, hkb, hk⟩ := bytesM_ok h h0 hk
    obtain ⟨pl, hp, hk⟩ := varM_ok h h2 hk
    obtain ⟨⟨c0, c1, c2, c3⟩, hk⟩ := hk
    refine (derive_any kb kv b pl pv w hI hkb c0 c1 hp c2 c3).mono ?_
    rintro e w' ⟨rfl, hE⟩
    exact ⟨_, [], _, env, rfl, hk, h.ext hE, rv_of_dig (deriveS_length _ _ _)⟩
set_option maxRecDepth 100000 in
theorem rderive_ok : SpecOk Tryd.prog ShaMem 50 spDerive := by
  refine ⟨call_enters Tryd.func50 (by kernel_rfl) rfl, fun A s a w env nm pvs vs F h hI hv hk => ?_⟩
  unfold spDerive at hk
  split at hk
  rotate_left
  · exact hk.elim
  rename_i k b ps
  match vs, hv with
  | [kv, v, pv], ⟨h0, h1, h2, _⟩ =>
    obtain rfl := RV.lit_inv (show RV _ _ _ from h1)
    obtain ⟨kb, hkb, hk⟩ := bytesM_ok h h0 hk
    obtain ⟨pl, hp, hk⟩ := varM_ok h h2 hk
    obtain ⟨⟨c0, c1, c2, c3⟩, hk⟩ := hk
    refine (rderive_any kb kv b pl pv w  hkb c0 c1 hp c2 c3).mono ?_
    rintro e w' ⟨rfl, hE⟩
    exact ⟨_, [], _, env, rfl, hk, h.ext hE, rv_of_dig (deriveS_length _ _ _)⟩
set_option maxRecDepth 100000 in
theorem mac_ok : SpecOk Tryd.prog ShaMem 18 spMac := by
  refine ⟨call_enters Tryd.func18 (by kernel_rfl) rfl, fun A s a w env nm pvs vs F h hI hv hk => ?_⟩
  unfold spMac at hk
  split at hk
  rotate_left
  · exact hk.elim
  rename_i k b
  match vs, hv with
  | [kv, bv], ⟨h0, h1, _⟩ =>
    obtain ⟨kb, hkb, hk⟩ := bytesM_ok h h0 hk
    obtain ⟨bb, hbb, hk⟩ := bytesM_ok h h1 hk
    obtain ⟨⟨c0, c1⟩, hk⟩ := hk
    refine (mac_any kb bb kv bv w hI hkb hbb c0 c1).mono ?_
    rintro e w' ⟨rfl, hE⟩
    exact ⟨_, [], _, env, rfl, hk, h.ext hE, rv_of_dig (mac_length _ _)⟩
set_option maxRecDepth 100000 in
theorem rmac_ok : SpecOk Tryd.prog ShaMem 84 spMac := by
  refine ⟨call_enters Tryd.func84 (by kernel_rfl) rfl, fun A s a w env nm pvs vs F h hI hv hk => ?_⟩
  unfold spMac at hk
  split at hk
  rotate_left
  · exact hk.elim
  rename_i k b
  match vs, hv with
  | [kv, bv], ⟨h0, h1, _⟩ =>
    obtain ⟨kb, hkb, hk⟩ := bytesM_ok h h0 hk
    obtain ⟨bb, hbb, hk⟩ := bytesM_ok h h1 hk
    obtain ⟨⟨c0, c1⟩, hk⟩ := hk
    refine (rmac_any kb bb kv bv w  hkb hbb c0 c1).mono ?_
    rintro e w' ⟨rfl, hE⟩
    exact ⟨_, [], _, env, rfl, hk, h.ext hE, rv_of_dig (mac_length _ _)⟩
set_option maxRecDepth 100000 in
theorem seal_ok : SpecOk Tryd.prog ShaMem 15 (spSeal 100000) := by
  refine ⟨call_enters Tryd.func15 (by kernel_rfl) rfl, fun A s a w env nm pvs vs F h hI hv hk => ?_⟩
  unfold spSeal at hk
  split at hk
  rotate_left
  · exact hk.elim
  rename_i k n b
  obtain ⟨⟨⟨c0, c1⟩, c2⟩, hk⟩ := hk
  match vs, hv with
  | [kv, nv, v], ⟨h0, h1, h2, _⟩ =>
    obtain rfl := RV.lit_inv (show RV _ _ _ from h1)
    obtain rfl := RV.lit_inv (show RV _ _ _ from h2)
    obtain ⟨hkl, rfl⟩ := rv_dig h0
    refine (seal_any k n b w hI hkl c0 c1 c2).mono ?_
    rintro e w' ⟨rfl, hE⟩
    exact ⟨_, [], _, env, rfl, hk, h.ext hE, rv_of_box (tagS_length _ _ _)⟩
set_option maxRecDepth 100000 in
theorem rseal_ok : SpecOk Tryd.prog ShaMem 49 (spSeal 10000) := by
  refine ⟨call_enters Tryd.func49 (by kernel_rfl) rfl, fun A s a w env nm pvs vs F h hI hv hk => ?_⟩
  unfold spSeal at hk
  split at hk
  rotate_left
  · exact hk.elim
  rename_i k n b
  obtain ⟨⟨⟨c0, c1⟩, c2⟩, hk⟩ := hk
  match vs, hv with
  | [kv, nv, v], ⟨h0, h1, h2, _⟩ =>
    obtain rfl := RV.lit_inv (show RV _ _ _ from h1)
    obtain rfl := RV.lit_inv (show RV _ _ _ from h2)
    obtain ⟨hkl, rfl⟩ := rv_dig h0
    refine (rseal_any k n b w  hkl c0 c1 c2).mono ?_
    rintro e w' ⟨rfl, hE⟩
    exact ⟨_, [], _, env, rfl, hk, h.ext hE, rv_of_box (tagS_length _ _ _)⟩
set_option maxRecDepth 100000 in
theorem open_ok : SpecOk Tryd.prog ShaMem 16 (spOpen 100000) := by
  refine ⟨call_enters Tryd.func16 (by kernel_rfl) rfl, fun A s a w env nm pvs vs F h hI hv hk => ?_⟩
  unfold spOpen at hk
  split at hk
  rotate_left
  · exact hk.elim
  rename_i k n c t
  obtain ⟨⟨⟨c0, c1⟩, c2⟩, hk⟩ := hk
  match vs, hv with
  | [kv, v], ⟨h0, h1, _⟩ =>
    obtain ⟨hkl, rfl⟩ := rv_dig h0
    obtain ⟨htl, rfl⟩ := rv_box h1
    by_cases ht : tagS k n c.data.toList = t
    · refine (open_yes k n c t w hI hkl htl c0 c1 c2 ht).mono ?_
      rintro e w' ⟨rfl, hE⟩
      refine ⟨_, [], _, env, rfl, hk, h.ext hE, .tup rfl (fun i x hx => ?_)⟩
      have ho : opened k n c t = true := by unfold opened; rw [ht]; simp
      rw [ho] at hx
      match i, hx with
      | 0, hx => cases hx; exact ⟨_, rfl, .one (.lit rfl)⟩
      | 1, hx => cases hx; exact ⟨_, rfl, .one (.lit rfl)⟩
      | i + 2, hx => cases hx
    · refine (open_no k n c t w hI hkl htl c0 c1 c2 ht).mono ?_
      rintro e w' ⟨rfl, hE⟩
      refine ⟨_, [], _, env, rfl, hk, h.ext hE, .tup rfl (fun i x hx => ?_)⟩
      have ho : opened k n c t = false := by unfold opened; simpa using ht
      rw [ho] at hx
      match i, hx with
      | 0, hx => cases hx; exact ⟨_, rfl, .one (.lit rfl)⟩
      | 1, hx => cases hx; exact ⟨_, rfl, .one (.lit rfl)⟩
      | i + 2, hx => cases hx
set_option maxRecDepth 100000 in
theorem ropen_ok : SpecOk Tryd.prog ShaMem 53 (spOpen 10000) := by
  refine ⟨call_enters Tryd.func53 (by kernel_rfl) rfl, fun A s a w env nm pvs vs F h hI hv hk => ?_⟩
  unfold spOpen at hk
  split at hk
  rotate_left
  · exact hk.elim
  rename_i k n c t
  obtain ⟨⟨⟨c0, c1⟩, c2⟩, hk⟩ := hk
  match vs, hv with
  | [kv, v], ⟨h0, h1, _⟩ =>
    obtain ⟨hkl, rfl⟩ := rv_dig h0
    obtain ⟨htl, rfl⟩ := rv_box h1
    by_cases ht : tagS k n c.data.toList = t
    · refine (ropen_yes k n c t w  hkl htl c0 c1 c2 ht).mono ?_
      rintro e w' ⟨rfl, hE⟩
      refine ⟨_, [], _, env, rfl, hk, h.ext hE, .tup rfl (fun i x hx => ?_)⟩
      have ho : opened k n c t = true := by unfold opened; rw [ht]; simp
      rw [ho] at hx
      match i, hx with
      | 0, hx => cases hx; exact ⟨_, rfl, .one (.lit rfl)⟩
      | 1, hx => cases hx; exact ⟨_, rfl, .one (.lit rfl)⟩
      | i + 2, hx => cases hx
    · refine (ropen_no k n c t w  hkl htl c0 c1 c2 ht).mono ?_
      rintro e w' ⟨rfl, hE⟩
      refine ⟨_, [], _, env, rfl, hk, h.ext hE, .tup rfl (fun i x hx => ?_)⟩
      have ho : opened k n c t = false := by unfold opened; simpa using ht
      rw [ho] at hx
      match i, hx with
      | 0, hx => cases hx; exact ⟨_, rfl, .one (.lit rfl)⟩
      | 1, hx => cases hx; exact ⟨_, rfl, .one (.lit rfl)⟩
      | i + 2, hx => cases hx
set_option maxRecDepth 100000 in
theorem root_ok : SpecOk Tryd.prog ShaMem 76 spRoot := by
  refine ⟨call_enters Tryd.func76 (by kernel_rfl) rfl, fun A s a w env nm pvs vs F h hI hv hk => ?_⟩
  unfold spRoot at hk
  split at hk
  rotate_left
  · exact hk.elim
  rename_i dv
  match vs, hv with
  | [v], ⟨h1, _⟩ =>
    obtain ⟨ds, hd, hk⟩ := digsM_ok h h1 hk
    obtain ⟨c0, hk⟩ := hk
    refine (root_any ds.length ds v w hI (Nat.le_refl _) c0 hd).mono ?_
    rintro e w' ⟨rfl, hE⟩
    exact ⟨_, [], _, env, rfl, hk, h.ext hE, rv_of_dig (rootS_length _)⟩
set_option maxRecDepth 100000 in
theorem rroot_ok : SpecOk Tryd.prog ShaMem 94 spRoot := by
  refine ⟨call_enters Tryd.func94 (by kernel_rfl) rfl, fun A s a w env nm pvs vs F h hI hv hk => ?_⟩
  unfold spRoot at hk
  split at hk
  rotate_left
  · exact hk.elim
  rename_i dv
  match vs, hv with
  | [v], ⟨h1, _⟩ =>
    obtain ⟨ds, hd, hk⟩ := digsM_ok h h1 hk
    obtain ⟨c0, hk⟩ := hk
    refine (rroot_any ds.length ds v w  (Nat.le_refl _) c0 hd).mono ?_
    rintro e w' ⟨rfl, hE⟩
    exact ⟨_, [], _, env, rfl, hk, h.ext hE, rv_of_dig (rootS_length _)⟩

end Go.Proofs.YtcjlkjcadaaleaaDoor.Pv

/-
  The abstract machine: functions that hand out a row of their own, into which the caller may write. Plain: no function of the program is named here.
-/
namespace Go.Proofs.YtcjlkjcadaaleaaDoor.Pv
open Go.RowKit

theorem flat_rl {C C' : Ctx} : ∀ {l : List PC} {xs : List Value}, RL C l xs → l.all (coldPC true) = true → RL C' l xs
  | [], _, h, _ => by cases h; exact .nil
  | c :: l, xs, h, hc => by
    rw [List.all_cons, Bool.and_eq_true] at hc
    cases h with
    | cons h3 h4 =>
      refine .cons ?_ (flat_rl h4 hc.2)
      have hc1 := hc.1
      cases h3 <;> first | exact .lit (by assumption) | exact .bs (by assumption) | (cases hc1; done)
/-- A function's contract: it returns a row of its own, of flat cells. -/
def FunRow (P : Program) (I : World → Prop) (f : Nat) (args : List PV) (e n len : Nat) (f' : Nat → List PC) : Prop :=
  ∀ (w : World) (ok0 : Nat → Prop) (vs : List Value), I w → Vals { w, ok := ok0, env := fun _ => none } args vs →
    Calls P f vs.toArray w fun r w' => ∃ val xs, r = .returned val ∧ Ext w w' ∧ w'.ownsRow w.heap.size e n val len xs ∧ ∀ (C : Ctx) i, i < len → RL C (f' i) ((xs.drop (i * n)).take n)
def RowTo (P : Program) (fn : Func) (e n len : Nat) (f' : Nat → List PC) (s : St) : Prop :=
  ∃ x ver g f, (retM P fn.results).ok none s (fun _ v' wr => v' = pv1 (.ow x ver n 0 len) ∧ wr = []) ∧ find s.o x = some (g, ver, .arr e n len f) ∧ gT g ∧ ∀ i, i < len → f i = f' i ∧ (f' i).all (coldPC true) = true
def RQR (P : Program) (A : Amb) (fn : Func) (e n len : Nat) (f' : Nat → List PC) : Exit → Act → World → Prop := fun x a w => (x = .normal ∨ x = .ret) ∧ ∃ s, RowTo P fn e n len f' s ∧ Gam A s a w
theorem rowTo_of {P : Program} {fn : Func} {e n len x ver : Nat} {g : Option Bool} {f f' : Nat → List PC} {s : St} {out : Out} (h : (retM P fn.results).exec none s [] [] [] [] = some out) (hc : All out.conds) (hw : out.wr = []) (hx : out.val = pv1 (.ow x ver n 0 len)) (hf : find s.o x = some (g, ver, .arr e n len f)) (hg : gT g) (hff : ∀ i, i < len → f i = f' i ∧ (f' i).all (coldPC true) = true) : RowTo P fn e n len f' s := by
  rw [exec_nil] at h
  exact ⟨x, ver, g, f, M.ok_of_run _ none s out _ h (fun p hp => hc.mem p hp) ⟨hx, hw⟩, hf, hg, hff⟩
theorem funRow_of {P : Program} {I : World → Prop} {f : Nat} {fn : Func} {c : Code} {args : List PV} {e n len : Nat} {f' : Nat → List PC} (hf : P.funcs[f]? = some fn) (hb : fn.body = some c) (hnb : Nat.ble args.length fn.ntmps = true) (hI : ∀ w w', Ext w w' → I w → I w')
    (hT : ∀ A : Amb, A.S = Non → A.nt = fn.ntmps → (∀ w, Chg A.S A.w0 w → I w) → Tri P A ⟨slots 0 args, []⟩ c (RQR P A fn e n len f')) : FunRow P I f args e n len f' := by
  intro w ok0 vs hIw hv
  have hn := Nat.le_of_ble_eq_true hnb
  have hlen := hv.length
  have hg : Gam ⟨w, Non, ok0, fn.ntmps⟩ ⟨slots 0 args, []⟩ { tmps := vs.toArray ++ Array.replicate (fn.ntmps - vs.toArray.size) undef, defers := [] } w := by
    refine ⟨fun _ => none, { chg := Chg.refl _ _, size := ?_, dom := fun x _ => rfl, objs := fun x g ver o h => (by cases h), live := fun x ver hd b h => (by cases h), inj := fun x y v1 h1 v2 h2 b h => (by cases h), tmps := fun t g pv h hgt => ?_, defers := rfl }⟩
    · simp; omega
    · obtain ⟨k, h1, h2⟩ := find_slots h
      obtain ⟨v, h3, h4⟩ := hv.at h2
      rw [Nat.zero_add] at h1
      subst h1
      have hk : t < vs.length := (List.getElem?_eq_some_iff.1 h3).1
      refine ⟨v, ?_, ?_⟩
      · rw [Array.getElem?_append_left (by simpa using hk)]
        simpa using h3
      · refine h4.le ⟨Nat.le_refl _, fun b _ hb => ⟨⟨.inl hb, fun _ _ _ h => by cases h⟩, rfl⟩, fun _ _ _ h => by cases h⟩
  refine calls_of_wp hf hb (wp_mono (hT ⟨w, Non, ok0, fn.ntmps⟩ rfl rfl (fun w' hc => hI w w' hc hIw) _ w hg) (fun x a' w' he => ?_))
  obtain ⟨h1, s, ⟨x0, ver, g, f0, h2, hfo, hgt, hff⟩, h4⟩ := he
  obtain ⟨env, hE⟩ := h4
  obtain ⟨v', val, h5, h6, h7, _⟩ := retM_ok hE h2
  subst h7
  obtain ⟨hd, hev, hob⟩ := obj_at hE hfo hgt
  obtain ⟨A0, n0, c0, rfl, hle0, rfl⟩ := h6.ow_inv hev
  obtain ⟨xs, hown, hel⟩ := hob
  have hn0 : n0 = len := by
    obtain ⟨_, A1, c1, e1, _⟩ := Reads.of_own hown
    cases e1; rfl
  subst hn0
  have hA : A0.map (fun p => p.add (0 * n)) = A0 := by
    cases A0 with
    | none => rfl
    | some ad => simp [Addr.add]
  have hown2 : w'.ownsRow w.heap.size e n (.slice A0 n0 c0) n0 xs := ⟨hown.1, hown.2.imp id (fun ⟨g, cap, cur, h1, _, h3⟩ => ⟨g, cap, cur, h1, by
    have := (hE.live x0 ver _ g hev (by rw [h1]; rfl)).2
    exact this.resolve_right (fun h => h), h3⟩)⟩
  have this : a'.defers = [] ∧ ∃ v, (results fn a'.tmps).run P w' = .ok v w' ∧ ∃ val xs, Ending.returned v = .returned val ∧ Ext w w' ∧ w'.ownsRow w.heap.size e n val n0 xs ∧ ∀ (C : Ctx) i, i < n0 → RL C (f' i) ((xs.drop (i * n)).take n) := by
    refine ⟨hE.defers, _, h5, _, xs, rfl, hE.chg, ?_, fun C i hi => ?_⟩
    · first | exact hown2 | (simp only [Nat.zero_mul, Nat.sub_zero] at hA ⊢; rw [hA]; exact hown2)
    · have h8 := hel i hi
      rw [(hff i hi).1] at h8
      exact flat_rl h8 (hff i hi).2
  rcases h1 with rfl | rfl <;> exact this
/-- The specification of such a function. -/
def rowSpec (g : List PV → Option (Prop × Nat × Nat × Nat × (Nat → List PC))) : Spec := fun nm xs => expVs xs fun ys => match g ys with
  | some (p, e, n, len, f) => .need p (.new nm (.arr e n len f) fun v => .ret (pv1 (.ow nm v n 0 len)))
  | none => .fail
theorem rowSpec_ok {P : Program} {I : World → Prop} {f : Nat} {g : List PV → Option (Prop × Nat × Nat × Nat × (Nat → List PC))} (hent : ∀ args w, (callFunc f args).run P w = .ok (.enter f args) w) (hg : ∀ xs p e n len f', g xs = some (p, e, n, len, f') → p → FunRow P I f xs e n len f') : SpecOk P I f (rowSpec g) := by
  refine ⟨hent, fun A s a w env nm pvs vs F h hI hv hk => ?_⟩
  unfold rowSpec at hk
  obtain ⟨ys, h1, hk⟩ := expVs_ok h hv hk
  cases hq : g ys with
  | none => rw [hq] at hk; exact hk.elim
  | some q =>
    obtain ⟨p, e, n, len, f'⟩ := q
    rw [hq] at hk
    obtain ⟨hp, hk⟩ := hk
    refine (hg ys p e n len f' hq hp w (fun _ => True) vs hI h1).mono ?_
    rintro r w' ⟨val, xs, rfl, hE, ho, hr⟩
    obtain ⟨env', h3, h4⟩ := h.new_own nm e n len (f := f') hE ho hr
    exact ⟨_, _, _, env', rfl, hk, h3, h4⟩

@[simp] theorem polB_true (b : Bool) : polB true b = b := rfl
@[simp] theorem polB_false (b : Bool) : polB false b = !b := rfl
@[simp] theorem all_nil_ : All [] = True := rfl
@[simp] theorem all_cons_ (p : Prop) (l : List Prop) : All (p :: l) = (p ∧ All l) := rfl
@[simp] theorem hP_none (p : Prop) : hP none p = p := rfl
@[simp] theorem hP_some (b : Bool) (p : Prop) : hP (some b) p = (b = true → p) := rfl

end Go.Proofs.YtcjlkjcadaaleaaDoor.Pv

/-
  Package page by the abstract machine: keys, tags, well-formed memories.
-/
namespace Go.Proofs.YtcjlkjcadaaleaaDoor.Pv
open Go.RowKit

theorem specs_of {P : Program} {I : World → Prop} {l : List (Nat × Spec)} (h : ∀ p ∈ l, SpecOk P I p.1 p.2) : SpecsOk P I (find l) := by
  intro f sp hf
  induction l with
  | nil => cases hf
  | cons p l ih =>
    by_cases hp : p.1 = f
    · obtain ⟨f', sp'⟩ := p
      subst hp
      rw [find_cons_eq] at hf
      cases hf
      exact h _ List.mem_cons_self
    · obtain ⟨f', sp'⟩ := p
      rw [find_cons_ne _ _ hp] at hf
      exact ih (fun q hq => h q (List.mem_cons_of_mem _ hq)) hf
/-- The functions of the lower layers. -/
def lowL : List (Nat × Spec) := [(19, spInt), (52, spInt), (20, spBytes), (64, spBytes), (75, spDigest), (95, spDigest),
  (17, spDerive), (50, spDerive), (18, spMac), (84, spMac), (15, spSeal 100000), (49, spSeal 10000), (16, spOpen 100000), (53, spOpen 10000),
  (76, spRoot), (94, spRoot)]
theorem low_ok : ∀ p ∈ lowL, SpecOk Tryd.prog ShaMem p.1 p.2 := by
  intro p hp
  simp only [lowL, List.mem_cons, List.not_mem_nil, or_false] at hp
  rcases hp with rfl | rfl | rfl | rfl | rfl | rfl | rfl | rfl | rfl | rfl | rfl | rfl | rfl | rfl | rfl | rfl
  · exact int_ok
  · exact rint_ok
  · exact bytes_ok
  · exact rbytes_ok
  · exact digest_ok
  · exact rdigest_ok
  · exact derive_ok
  · exact rderive_ok
  · exact mac_ok
  · exact rmac_ok
  · exact seal_ok
  · exact rseal_ok
  · exact open_ok
  · exact ropen_ok
  · exact root_ok
  · exact rroot_ok
@[simp] theorem guard_box : Tryd.prog.eqGuardType Tryd.prog.depth 27 = false := by kernel_rfl
theorem mixed_ : Tryd.prog.follows .mixedOrders = true := by kernel_rfl
theorem lowM : Mach Tryd.prog ShaMem (find lowL) := ⟨specs_of low_ok, mixed_⟩
theorem sha_ext : ∀ w w', Ext w w' → ShaMem w → ShaMem w' := fun _ _ h hi => hi.ext h

def labPage : ByteArray := { data := #[112, 97, 103, 101] }
def labMem : ByteArray := { data := #[109, 101, 109, 111, 114, 121] }
def pageKeyS (key : List UInt8) (i : Int) : List UInt8 := deriveS key labPage.data.toList [wInt i]
def memTagS (key root : List UInt8) : List UInt8 := mac (deriveS key labMem.data.toList []) root
set_option maxRecDepth 100000 in
theorem pageKey_fun (key : List UInt8) (i : Int) (hk : key.length = 16) (hi : i64P i) : FunOk Tryd.prog ShaMem 66 true [.w (.agg [.bs 16 key]), pvI i] (.w (.agg [.bs 16 (pageKeyS key i)])) := by
  have M := lowM
  have hl := wInt_length i
  refine funOk_of Tryd.func66 rfl rfl sha_ext (fun A hS hn hI => ?_)
  refine tri_reg M hI hn (outs := ?_) (s' := ?_) ?_ ?_ ?_ ?_
  rotate_left 2
  · rfl
  · kernel_rfl
  · simp
  refine tri_reg M hI hn (outs := ?_) (s' := ?_) ?_ ?_ ?_ ?_
  rotate_left 2
  · rfl
  · kernel_rfl
  · simp [hi, hk, ByteArray.size]
    omega
  refine tri_ret (fun a w hg => ⟨.inr rfl, _, ?_, hg⟩)
  refine retTo_cold (out := ?_) ?_ ?_ ?_ ?_ ?_
  rotate_left 1
  · rfl
  · simp
  · rfl
  · rfl
  simp [pageKeyS, labPage, rowB_byF]

set_option maxRecDepth 100000 in
theorem rpageKey_fun (key : List UInt8) (i : Int) (hk : key.length = 16) (hi : i64P i) : FunOk Tryd.prog ShaMem 68 true [.w (.agg [.bs 16 key]), pvI i] (.w (.agg [.bs 16 (pageKeyS key i)])) := by
  have M := lowM
  have hl := wInt_length i
  refine funOk_of Tryd.func68 rfl rfl sha_ext (fun A hS hn hI => ?_)
  refine tri_reg M hI hn (outs := ?_) (s' := ?_) ?_ ?_ ?_ ?_
  rotate_left 2
  · rfl
  · kernel_rfl
  · simp
  refine tri_reg M hI hn (outs := ?_) (s' := ?_) ?_ ?_ ?_ ?_
  rotate_left 2
  · rfl
  · kernel_rfl
  · simp [hi, hk, ByteArray.size]
    omega
  refine tri_ret (fun a w hg => ⟨.inr rfl, _, ?_, hg⟩)
  refine retTo_cold (out := ?_) ?_ ?_ ?_ ?_ ?_
  rotate_left 1
  · rfl
  · simp
  · rfl
  · rfl
  simp [pageKeyS, labPage, rowB_byF]
set_option maxRecDepth 100000 in
theorem tag_fun (key root : List UInt8) (hk : key.length = 16) (hr : root.length = 16) : FunOk Tryd.prog ShaMem 67 true [.w (.agg [.bs 16 key]), .w (.agg [.bs 16 root])] (.w (.agg [.bs 16 (memTagS key root)])) := by
  have M := lowM
  have hl := deriveS_length key labMem.data.toList []
  refine funOk_of Tryd.func67 rfl rfl sha_ext (fun A hS hn hI => ?_)
  refine tri_reg M hI hn (outs := ?_) (s' := ?_) ?_ ?_ ?_ ?_
  rotate_left 2
  · rfl
  · kernel_rfl
  · simp
  refine tri_reg M hI hn (outs := ?_) (s' := ?_) ?_ ?_ ?_ ?_
  rotate_left 2
  · rfl
  · kernel_rfl
  · simp [hk, ByteArray.size]
  refine tri_reg M hI hn (outs := ?_) (s' := ?_) ?_ ?_ ?_ ?_
  rotate_left 2
  · rfl
  · kernel_rfl
  · simp [hr, deriveS_length]
  refine tri_ret (fun a w hg => ⟨.inr rfl, _, ?_, hg⟩)
  refine retTo_cold (out := ?_) ?_ ?_ ?_ ?_ ?_
  rotate_left 1
  · rfl
  · simp
  · rfl
  · rfl
  simp [memTagS, labMem]
set_option maxRecDepth 100000 in
theorem rtag_fun (key root : List UInt8) (hk : key.length = 16) (hr : root.length = 16) : FunOk Tryd.prog ShaMem 70 true [.w (.agg [.bs 16 key]), .w (.agg [.bs 16 root])] (.w (.agg [.bs 16 (memTagS key root)])) := by
  have M := lowM
  have hl := deriveS_length key labMem.data.toList []
  refine funOk_of Tryd.func70 rfl rfl sha_ext (fun A hS hn hI => ?_)
  refine tri_reg M hI hn (outs := ?_) (s' := ?_) ?_ ?_ ?_ ?_
  rotate_left 2
  · rfl
  · kernel_rfl
  · simp
  refine tri_reg M hI hn (outs := ?_) (s' := ?_) ?_ ?_ ?_ ?_
  rotate_left 2
  · rfl
  · kernel_rfl
  · simp [hk, ByteArray.size]
  refine tri_reg M hI hn (outs := ?_) (s' := ?_) ?_ ?_ ?_ ?_
  rotate_left 2
  · rfl
  · kernel_rfl
  · simp [hr, deriveS_length]
  refine tri_ret (fun a w hg => ⟨.inr rfl, _, ?_, hg⟩)
  refine retTo_cold (out := ?_) ?_ ?_ ?_ ?_ ?_
  rotate_left 1
  · rfl
  · simp
  · rfl
  · rfl
  simp [memTagS, labMem]

/-! ### Boxes and counts -/
structure BoxS where
  nonce : Int
  cipher : ByteArray
  tag : List UInt8
  deriving Inhabited
def boxPC (b : BoxS) : List PC := [.lit (.int .i64 b.nonce), .lit (.string b.cipher), .bs 16 b.tag]
def boxF (l : List BoxS) : Nat → List PC := fun i => boxPC (l.getD i default)
def boxOf : List PC → BoxS
  | [.lit (.int _ n), .lit (.string c), .bs _ t] => ⟨n, c, t⟩
  | _ => default
def isBox : List PC → Bool
  | [.lit (.int .i64 _), .lit (.string _), .bs n _] => Nat.beq n 16
  | _ => false
def rowBox (n : Nat) (f : Nat → List PC) : List BoxS := (List.range n).map fun i => boxOf (f i)
def IsBoxRow (n : Nat) (f : Nat → List PC) : Prop := ∀ i, i < n → isBox (f i) = true
theorem isBox_ok {l : List PC} (h : isBox l = true) : l = boxPC (boxOf l) := by
  unfold isBox at h
  split at h
  · rw [beqT h]; rfl
  · cases h
theorem getD_map_range {α : Type} [Inhabited α] (n i : Nat) (g : Nat → α) (h : i < n) (d : α) : ((List.range n).map g).getD i d = g i := by
  rw [List.getD_eq_getElem?_getD, List.getElem?_map, List.getElem?_range h]; rfl
@[simp] theorem rowBox_length (n : Nat) (f : Nat → List PC) : (rowBox n f).length = n := by simp [rowBox]
theorem boxF_row {n : Nat} {f : Nat → List PC} (h : IsBoxRow n f) : ∀ i, i < n → f i = boxF (rowBox n f) i := fun i hi => by
  unfold boxF rowBox
  rw [getD_map_range n i _ hi]
  exact isBox_ok (h i hi)
@[simp] theorem isBoxRow_boxF (n : Nat) (l : List BoxS) : IsBoxRow n (boxF l) := fun _ _ => rfl
@[simp] theorem rowBox_boxF (l : List BoxS) : rowBox l.length (boxF l) = l := by
  apply List.ext_getElem (by simp)
  intro i h1 h2
  simp only [rowBox, List.getElem_map, List.getElem_range, boxF, boxPC, boxOf]
  rw [List.getD_eq_getElem?_getD, List.getElem?_eq_getElem h2]
  rfl
def intF (l : List Int) : Nat → List PC := fun i => [.lit (.int .i64 (l.getD i 0))]
def intOf : List PC → Int
  | [.lit (.int _ n)] => n
  | _ => 0
def isInt : List PC → Bool
  | [.lit (.int .i64 _)] => true
  | _ => false
def rowInt (n : Nat) (f : Nat → List PC) : List Int := (List.range n).map fun i => intOf (f i)
def IsIntRow (n : Nat) (f : Nat → List PC) : Prop := ∀ i, i < n → isInt (f i) = true
theorem isInt_ok {l : List PC} (h : isInt l = true) : l = [.lit (.int .i64 (intOf l))] := by
  unfold isInt at h
  split at h
  · rfl
  · cases h
@[simp] theorem rowInt_length (n : Nat) (f : Nat → List PC) : (rowInt n f).length = n := by simp [rowInt]
theorem intF_row {n : Nat} {f : Nat → List PC} (h : IsIntRow n f) : ∀ i, i < n → f i = intF (rowInt n f) i := fun i hi => by
  unfold intF rowInt
  rw [getD_map_range n i _ hi]
  exact isInt_ok (h i hi)
@[simp] theorem isIntRow_intF (n : Nat) (l : List Int) : IsIntRow n (intF l) := fun _ _ => rfl
@[simp] theorem rowInt_intF (l : List Int) : rowInt l.length (intF l) = l := by
  apply List.ext_getElem (by simp)
  intro i h1 h2
  simp only [rowInt, List.getElem_map, List.getElem_range, intF, intOf]
  rw [List.getD_eq_getElem?_getD, List.getElem?_eq_getElem h2]
  rfl
theorem R.sl_ext {C : Ctx} {n len : Nat} {f f' : Nat → List PC} {xs : List Value} (h : R C (.sl n len f) xs) (he : ∀ i, i < len → f i = f' i) : R C (.sl n len f') xs := by
  cases h with
  | sl h1 h2 h3 => exact .sl h1 h2 (fun i hi => by rw [← he i hi]; exact h3 i hi)
theorem FunOk.args {P : Program} {I : World → Prop} {f : Nat} {new : Bool} {args args' : List PV} {res : PV} (h : FunOk P I f new args' res) (hv : ∀ C vs, Vals C args vs → Vals C args' vs) : FunOk P I f new args res :=
  fun w ok0 vs hI hV => h w ok0 vs hI (hv _ vs hV)
/-- A memory. -/
structure MemS where
  pages : List BoxS
  counts : List Int
  total : Int
  tag : List UInt8
  deriving Inhabited
def memL (m : MemS) : List PC := [.sl 18 m.pages.length (boxF m.pages), .sl 1 m.counts.length (intF m.counts), .lit (.int .i64 m.total), .bs 16 m.tag]
def memPV (m : MemS) : PV := .w (.agg (memL m))
def formedS (m : MemS) : Bool := m.pages.length == m.counts.length && decide (m.pages.length ≤ 16)
def leafS (m : MemS) (i : Nat) : List UInt8 := digestS 14 [wInt i, wInt (m.counts.getD i 0), wInt (m.pages.getD i default).nonce, wBytes (m.pages.getD i default).cipher.data.toList, (m.pages.getD i default).tag]
def memRootS (m : MemS) : List UInt8 := if formedS m = true then digestS 15 [wInt m.total, rootS ((List.range m.pages.length).map (leafS m))] else List.replicate 16 0
structure MemOk (m : MemS) : Prop where
  box : ∀ b ∈ m.pages, i64P b.nonce ∧ b.cipher.size ≤ 5000 ∧ b.tag.length = 16
  cnt : ∀ c ∈ m.counts, i64P c
  tot : i64P m.total
  tagl : m.tag.length = 16
  len : m.pages.length ≤ 1000000 ∧ m.counts.length ≤ 1000000
def asMem : PV → Option (Prop × MemS)
  | .w (.agg [.sl 18 n f, .sl 1 m g, .lit (.int .i64 tot), .bs 16 tag]) => some (IsBoxRow n f ∧ IsIntRow m g, ⟨rowBox n f, rowInt m g, tot, tag⟩)
  | _ => none
theorem asMem_ok {C : Ctx} {v : PV} {p : Prop} {m : MemS} {x : Value} (h : asMem v = some (p, m)) (hp : p) (hv : RV C v x) : RV C (memPV m) x := by
  unfold asMem at h
  split at h
  · rename_i n f k g tot tag
    cases h
    cases hv with
    | w hv => cases hv with
      | agg hv =>
        generalize hq : Array.toList _ = q at hv
        cases hv with
        | cons h1 hv => cases hv with
          | cons h2 hv =>
            refine .w (.agg ?_)
            rw [hq]
            refine .cons ?_ (.cons ?_ hv)
            · simp only [rowBox_length]
              exact h1.sl_ext (boxF_row hp.1)
            · simp only [rowInt_length]
              exact h2.sl_ext (intF_row hp.2)
  · cases h
theorem formed_eq (m : MemS) : formedS m = (bif ((m.pages.length : Int) == (m.counts.length : Int)) then decide ((m.pages.length : Int) ≤ 16) else false) := by
  unfold formedS
  rw [Bool.eq_iff_iff]
  simp only [Bool.and_eq_true, beq_iff_eq, decide_eq_true_eq, Bool.cond_false_right]
  omega
set_option maxRecDepth 100000 in
theorem wf_fun (m : MemS) : FunOk Tryd.prog ShaMem 74 true [memPV m] (pvB (formedS m)) := by
  have M := lowM
  refine funOk_of Tryd.func74 rfl rfl sha_ext (fun A hS hn hI => ?_)
  refine tri_reg M hI hn (outs := ?_) (s' := ?_) ?_ ?_ ?_ ?_
  rotate_left 2
  · rfl
  · kernel_rfl
  · simp
  refine tri_reg M hI hn (outs := ?_) (s' := ?_) ?_ ?_ ?_ ?_
  rotate_left 2
  · rfl
  · kernel_rfl
  · simp
  refine tri_ret (fun a w hg => ⟨.inr rfl, _, ?_, hg⟩)
  refine retTo_cold (out := ?_) ?_ ?_ ?_ ?_ ?_
  rotate_left 1
  · rfl
  · simp
  · rfl
  · rfl
  rw [formed_eq]
set_option maxRecDepth 100000 in
theorem rwf_fun (m : MemS) : FunOk Tryd.prog ShaMem 92 true [memPV m] (pvB (formedS m)) := by
  have M := lowM
  refine funOk_of Tryd.func92 rfl rfl sha_ext (fun A hS hn hI => ?_)
  refine tri_reg M hI hn (outs := ?_) (s' := ?_) ?_ ?_ ?_ ?_
  rotate_left 2
  · rfl
  · kernel_rfl
  · simp
  refine tri_reg M hI hn (outs := ?_) (s' := ?_) ?_ ?_ ?_ ?_
  rotate_left 2
  · rfl
  · kernel_rfl
  · simp
  refine tri_ret (fun a w hg => ⟨.inr rfl, _, ?_, hg⟩)
  refine retTo_cold (out := ?_) ?_ ?_ ?_ ?_ ?_
  rotate_left 1
  · rfl
  · simp
  · rfl
  · rfl
  rw [formed_eq]

end Go.Proofs.YtcjlkjcadaaleaaDoor.Pv

/-
  Package page by the abstract machine: roots.
-/
namespace Go.Proofs.YtcjlkjcadaaleaaDoor.Pv
open Go.RowKit

theorem vals_dig {C : Ctx} {n : Nat} {k : List UInt8} {l : List PV} {vs : List Value} (h : Vals C (.w (.agg [.bs n k]) :: l) vs) : k.length = n := by
  match vs, h with
  | v :: vs, ⟨h, _⟩ => exact (rv_dig h).1
theorem vals_tail {C : Ctx} {v : PV} {l : List PV} {vs : List Value} (h : Vals C (v :: l) vs) : ∃ vs', Vals C l vs' := by
  match vs, h with
  | _ :: vs, ⟨_, h⟩ => exact ⟨vs, h⟩
def memSpec (pre : MemS → Prop) (res : MemS → PV) : Spec := funSpec true fun xs => match xs with
  | [v] => (match asMem v with
    | some (p, m) => some (p ∧ pre m, res m)
    | none => none)
  | _ => none
theorem memSpec_ok {f : Nat} {pre : MemS → Prop} {res : MemS → PV} (hent : ∀ args w, (callFunc f args).run Tryd.prog w = .ok (.enter f args) w) (h : ∀ m, pre m → FunOk Tryd.prog ShaMem f true [memPV m] (res m)) : SpecOk Tryd.prog ShaMem f (memSpec pre res) := by
  refine funSpec_ok hent (fun xs p r hg hp => ?_)
  split at hg
  · rename_i v
    cases hq : asMem v with
    | none => rw [hq] at hg; cases hg
    | some q =>
      obtain ⟨p0, m⟩ := q
      rw [hq] at hg
      cases hg
      exact (h m hp.2).args fun C vs hv => by
        match vs, hv with
        | [x], ⟨h1, _⟩ => exact ⟨asMem_ok hq hp.1 h1, trivial⟩
  · cases hg
def keySpec : Spec := funSpec true fun xs => match xs with
  | [.w (.agg [.bs 16 k]), .w (.one (.lit (.int .i64 i)))] => some (i64P i, .w (.agg [.bs 16 (pageKeyS k i)]))
  | _ => none
def tagSpec : Spec := funSpec true fun xs => match xs with
  | [.w (.agg [.bs 16 k]), .w (.agg [.bs 16 r])] => some (True, .w (.agg [.bs 16 (memTagS k r)]))
  | _ => none
theorem keySpec_ok {f : Nat} (hent : ∀ args w, (callFunc f args).run Tryd.prog w = .ok (.enter f args) w) (h : ∀ (key : List UInt8) (i : Int), key.length = 16 → i64P i → FunOk Tryd.prog ShaMem f true [.w (.agg [.bs 16 key]), pvI i] (.w (.agg [.bs 16 (pageKeyS key i)]))) : SpecOk Tryd.prog ShaMem f keySpec := by
  refine funSpec_ok hent (fun xs p r hg hp => ?_)
  split at hg
  · cases hg
    exact fun w ok0 vs hI hv => h _ _ (vals_dig hv) hp w ok0 vs hI hv
  · cases hg
theorem tagSpec_ok {f : Nat} (hent : ∀ args w, (callFunc f args).run Tryd.prog w = .ok (.enter f args) w) (h : ∀ (key r : List UInt8), key.length = 16 → r.length = 16 → FunOk Tryd.prog ShaMem f true [.w (.agg [.bs 16 key]), .w (.agg [.bs 16 r])] (.w (.agg [.bs 16 (memTagS key r)]))) : SpecOk Tryd.prog ShaMem f tagSpec := by
  refine funSpec_ok hent (fun xs p r hg hp => ?_)
  split at hg
  · cases hg
    exact fun w ok0 vs hI hv => h _ _ (vals_dig hv) (vals_dig (vals_tail hv).choose_spec) w ok0 vs hI hv
  · cases hg
def pgL1 : List (Nat × Spec) := (74, memSpec (fun _ => True) fun m => pvB (formedS m)) :: (92, memSpec (fun _ => True) fun m => pvB (formedS m)) ::
  (66, keySpec) :: (68, keySpec) :: (67, tagSpec) :: (70, tagSpec) :: lowL
theorem pg1_ok : ∀ p ∈ pgL1, SpecOk Tryd.prog ShaMem p.1 p.2 := by
  intro p hp
  simp only [pgL1, List.mem_cons] at hp
  rcases hp with rfl | rfl | rfl | rfl | rfl | rfl | hp
  · exact memSpec_ok (call_enters Tryd.func74 (by kernel_rfl) rfl) (fun m _ => wf_fun m)
  · exact memSpec_ok (call_enters Tryd.func92 (by kernel_rfl) rfl) (fun m _ => rwf_fun m)
  · exact keySpec_ok (call_enters Tryd.func66 (by kernel_rfl) rfl) pageKey_fun
  · exact keySpec_ok (call_enters Tryd.func68 (by kernel_rfl) rfl) rpageKey_fun
  · exact tagSpec_ok (call_enters Tryd.func67 (by kernel_rfl) rfl) tag_fun
  · exact tagSpec_ok (call_enters Tryd.func70 (by kernel_rfl) rfl) rtag_fun
  · exact low_ok p hp
theorem pg1M : Mach Tryd.prog ShaMem (find pgL1) := ⟨specs_of pg1_ok, mixed_⟩

theorem wrap_nat (k : Nat) (h : k < 4611686018427387904) : IntKind.i64.wrap ((k : Int) + 1) = ((k + 1 : Nat) : Int) := by
  rw [IntKind.wrap_i64]; omega
def leafF (m : MemS) : Nat → List PC := fun i => [.bs 16 (leafS m i)]
def rootSt (m : MemS) (k : Nat) : St := ⟨[(1, none, pv1 (.pt 0 0 0)), (2, none, pv1 (.pt 1 0 0)), (3, none, pv1 (.ow 7020 0 16 0 k)), (12, none, pv1 (.sl 18 m.pages.length (boxF m.pages))), (13, none, pvI m.pages.length), (14, none, pvI k)],
  [(0, none, 0, .box 60 (memL m)), (1, none, 0, .box 23 [.bs 16 (List.replicate 16 0)]), (7020, none, 0, .arr 23 16 k (leafF m))]⟩
theorem getD_mem {α : Type} {l : List α} {i : Nat} (h : i < l.length) (d : α) : l.getD i d ∈ l := by
  rw [List.getD_eq_getElem?_getD, List.getElem?_eq_getElem h]; exact List.getElem_mem h
theorem rowD_leaf (m : MemS) (n : Nat) : rowD n (leafF m) = (List.range n).map (leafS m) := rfl
set_option maxRecDepth 100000 in
set_option maxHeartbeats 1000000 in
theorem root_fun (m : MemS) (hm : MemOk m) : FunOk Tryd.prog ShaMem 42 true [memPV m] (.w (.agg [.bs 16 (memRootS m)])) := by
  have M := pg1M
  refine funOk_of Tryd.func42 rfl rfl sha_ext (fun A hS hn hI => ?_)
  refine tri_reg M hI hn (outs := ?_) (s' := ?_) ?_ ?_ ?_ ?_
  rotate_left 2
  · rfl
  · kernel_rfl
  · simp
  refine tri_seq ?_
  refine tri_reg M hI hn (outs := ?_) (s' := ?_) ?_ ?_ ?_ ?_
  rotate_left 2
  · rfl
  · kernel_rfl
  · simp
  refine tri_cond (b := ?_) ?_ (fun hc => ?_) (fun hc => ?_)
  rotate_left 1
  · rfl
  · refine tri_reg M hI hn (outs := ?_) (s' := ?_) ?_ ?_ ?_ ?_
    rotate_left 2
    · rfl
    · kernel_rfl
    · simp
    refine tri_ret (fun a w hg => ⟨.inr rfl, _, ?_, hg⟩)
    refine retTo_cold (out := ?_) ?_ ?_ ?_ ?_ ?_
    rotate_left 1
    · rfl
    · simp
    · rfl
    · rfl
    have hf : formedS m = false := by simpa using hc
    simp [memRootS, hf]
  · have hf : formedS m = true := by simpa using hc
    have hlen : m.pages.length = m.counts.length ∧ m.pages.length ≤ 16 := by
      unfold formedS at hf
      rw [Bool.and_eq_true, beq_iff_eq, decide_eq_true_eq] at hf
      exact hf
    refine tri_skip ?_
    change Tri _ _ _ _ _
    refine tri_reg M hI hn (outs := ?_) (s' := ?_) ?_ ?_ ?_ ?_
    rotate_left 2
    · rfl
    · kernel_rfl
    · simp
    refine tri_seq ?_
    refine tri_reg M hI hn (outs := ?_) (s' := ?_) ?_ ?_ ?_ ?_
    rotate_left 2
    · rfl
    · kernel_rfl
    · simp
    refine tri_conv (s' := rootSt m 0) (fun a w hg => ((hg.nilRow (x := 7020) (e := 23) (n := 16) (t := 3) (by rfl) (by rfl)).reset (kT := [1, 2, 3, 12, 13, 14]) (kO := [0, 1, 7020]) (by rfl) (by simp)).same ?_ ?_) ?_
    · exact .cons rfl (.cons rfl (.cons rfl (.cons rfl (.cons rfl (.cons rfl .nil)))))
    · exact .cons (.box rfl) (.cons (.box rfl) (.cons (.arr rfl (fun i hi => by omega)) .nil))
    refine tri_block ?_
    refine tri_loop m.pages.length (fun k s => s = rootSt m k) 0 rfl (by omega) (fun k s hJ hk => ?_)
    subst hJ
    refine tri_reg M hI hn (outs := ?_) (s' := ?_) ?_ ?_ ?_ ?_
    rotate_left 2
    · rfl
    · kernel_rfl
    · simp
    refine tri_seq ?_
    refine tri_cond (b := ?_) ?_ (fun hc => ?_) (fun hc => ?_)
    rotate_left 1
    · rfl
    · have hk2 : k < m.pages.length := by simpa using hc
      have hb := hm.box _ (getD_mem hk2 default)
      have hct := hm.cnt _ (getD_mem (show k < m.counts.length by omega) 0)
      have hl1 := wInt_length (k : Int)
      have hl2 := wInt_length (m.counts.getD k 0)
      have hl3 := wInt_length (m.pages.getD k default).nonce
      have hl4 := wBytes_length (m.pages.getD k default).cipher.data.toList
      have hl5 : (m.pages.getD k default).cipher.data.toList.length = (m.pages.getD k default).cipher.size := Array.length_toList
      simp only [List.getD_eq_getElem?_getD] at hb hct hl2 hl3 hl4 hl5
      have hbt : Tryd.prog.types[23].bytes = 16 := by kernel_rfl
      refine tri_skip ?_
      change Tri _ _ _ _ _
      refine tri_seq ?_
      refine tri_block ?_
      refine tri_reg M hI hn (outs := ?_) (s' := ?_) ?_ ?_ ?_ ?_
      rotate_left 2
      · rfl
      · kernel_rfl
      · simp; omega
      refine tri_region M hI hn (outs := ?_) (s' := ?_) ?_ ?_ ?_ ?_
      rotate_left 2
      · rfl
      · kernel_rfl
      · simp [hct, hb]
        rw [hbt]
        refine ⟨by unfold i64P; omega, ?_, ?_, ?_, ?_⟩ <;> omega
      change Tri _ _ _ _ _
      refine tri_region M hI hn (outs := ?_) (s' := ?_) ?_ ?_ ?_ ?_
      rotate_left 2
      · rfl
      · kernel_rfl
      · simp
      intro a w hg
      refine ⟨k + 1, _, by omega, by omega, rfl, (hg.reset (kT := [1, 2, 3, 12, 13, 14]) (kO := [0, 1, 7020]) (by rfl) (by simp only [All, and_true, List.append_nil, List.all_eq_true, List.cons_append, List.nil_append]; exact appF_cold (fun i hi => one_cold rfl) (one_cold rfl))).same ?_ ?_⟩
      · exact .cons rfl (.cons rfl (.cons rfl (.cons rfl (.cons rfl (.cons (by rw [wrap_nat k (by omega)]) .nil)))))
      · refine .cons (.box rfl) (.cons (.box rfl) (.cons (.arr rfl (appF_ext (fun i _ => rfl) ?_)) .nil))
        simp [leafF, leafS, rowB_byF, PW.cells]
    · refine tri_exit ?_
      change Tri _ _ _ _ _
      have hk3 : k = m.pages.length := by
        have : ¬ k < m.pages.length := by simpa using hc
        omega
      have hl6 := wInt_length m.total
      have hl7 := rootS_length (rowD k (leafF m))
      have hl8 := rowD_length k (leafF m)
      have hl9 := hm.tot
      refine tri_reg M hI hn (outs := ?_) (s' := ?_) ?_ ?_ ?_ ?_
      rotate_left 2
      · rfl
      · kernel_rfl
      · simp
        exact ⟨fun _ _ => rfl, by omega⟩
      refine tri_reg M hI hn (outs := ?_) (s' := ?_) ?_ ?_ ?_ ?_
      rotate_left 2
      · rfl
      · kernel_rfl
      · simp
        exact ⟨hl9, by omega, by omega⟩
      refine tri_ret (fun a w hg => ⟨.inr rfl, _, ?_, hg⟩)
      refine retTo_cold (out := ?_) ?_ ?_ ?_ ?_ ?_
      rotate_left 1
      · rfl
      · simp
      · rfl
      · rfl
      simp [memRootS, hf, rowD_leaf, rowB_byF, hk3]

end Go.Proofs.YtcjlkjcadaaleaaDoor.Pv
