/-
  Several texts in one file: each has its own heading below.
-/
import Derived.Test.YtplkplegjoabgaaGreatDoorHzH
import Derived.Test.YtplkplegjoabgaaGreatDoorHzJ
import Derived.Deep.Cut
import Derived.Test.YtplkplegjoabgaaGreatDoorHzI


namespace Go.Proofs.YtplkplegjoabgaaGreatDoor
open Go.RowKit
def z16' : List UInt8 := List.replicate 16 0
def combV (n i : Nat) (leaf : List UInt8) (p : List (List UInt8)) : Value := .tuple #[.agg ((combineF n n i leaf p).1.map u8v).toArray, .bool (combineF n n i leaf p).2]
theorem combineF_fuel : ∀ (f g n i : Nat) (leaf : List UInt8) (p : List (List UInt8)), n ≤ f → n ≤ g → combineF f n i leaf p = combineF g n i leaf p
  | 0, 0, _, _, _, _, _, _ => rfl
  | 0, g + 1, n, i, leaf, p, h, _ => by rw [combineF, combineF, if_pos (by omega)]
  | f + 1, 0, n, i, leaf, p, _, h => by rw [combineF, combineF, if_pos (by omega)]
  | f + 1, g + 1, n, i, leaf, p, h1, h2 => by
    rw [combineF, combineF]
    by_cases h : n ≤ 1
    · rw [if_pos h, if_pos h]
    · have hb := splitS_bounds n (by omega)
      rw [if_neg h, if_neg h, combineF_fuel f g (splitS n) i leaf _ (by omega) (by omega), combineF_fuel f g (n - splitS n) _ leaf _ (by omega) (by omega)]
theorem comb_one (n i : Nat) (leaf : List UInt8) (p : List (List UInt8)) (h : n ≤ 1) : combineF n n i leaf p = (leafS leaf, p.isEmpty) := by
  rcases n with _ | n
  · rfl
  · rw [combineF, if_pos h]
theorem comb_nil (n i : Nat) (leaf : List UInt8) (h : 1 < n) : combineF n n i leaf [] = (List.replicate 16 0, false) := by
  obtain ⟨m, rfl⟩ : ∃ m, n = m + 1 := ⟨n - 1, by omega⟩
  rw [combineF, if_neg (by omega)]
  rfl
theorem comb_left (n i : Nat) (leaf : List UInt8) (p : List (List UInt8)) (q : List UInt8) (h : 1 < n) (hi : i < splitS n) : combineF n n i leaf (p ++ [q]) = (nodeS (combineF (splitS n) (splitS n) i leaf p).1 q, (combineF (splitS n) (splitS n) i leaf p).2) := by
  have hb := splitS_bounds n h
  obtain ⟨m, rfl⟩ : ∃ m, n = m + 1 := ⟨n - 1, by omega⟩
  rw [combineF, if_neg (by omega), List.getLast?_concat, List.dropLast_concat]
  simp only [if_pos hi]
  rw [combineF_fuel m (splitS (m + 1)) _ i leaf p (by omega) (Nat.le_refl _)]
theorem comb_right (n i : Nat) (leaf : List UInt8) (p : List (List UInt8)) (q : List UInt8) (h : 1 < n) (hi : ¬ i < splitS n) : combineF n n i leaf (p ++ [q]) = (nodeS q (combineF (n - splitS n) (n - splitS n) (i - splitS n) leaf p).1, (combineF (n - splitS n) (n - splitS n) (i - splitS n) leaf p).2) := by
  have hb := splitS_bounds n h
  obtain ⟨m, rfl⟩ : ∃ m, n = m + 1 := ⟨n - 1, by omega⟩
  rw [combineF, if_neg (by omega), List.getLast?_concat, List.dropLast_concat]
  simp only [if_neg hi]
  rw [combineF_fuel m (m + 1 - splitS (m + 1)) _ _ leaf p (by omega) (Nat.le_refl _)]
theorem comb_length (f n i : Nat) (leaf : List UInt8) (p : List (List UInt8)) : (combineF f n i leaf p).1.length = 16 := by
  cases f with
  | zero => exact leafS_length _
  | succ f =>
    rw [combineF]
    split
    · exact leafS_length _
    · split
      · rfl
      · split
        · exact nodeS_length _ _
        · exact nodeS_length _ _
def SC (w : World) (la : Array Value) (W : World) : Prop := Ext w W ∧ Blk W w.heap.size 23 la ∧ Blk W (w.heap.size + 1) 23 (Array.replicate 16 (.int .u8 0))
theorem SC.ext {w W W' : World} {la : Array Value} (h : SC w la W) (hE : Ext W W') : SC w la W' := ⟨h.1.trans hE, h.2.1.ext hE, h.2.2.ext hE⟩
theorem SC.start (w : World) (la : Array Value) : SC w la ((w.alloc (.cells la 23)).alloc (.cells (Array.replicate 16 (.int .u8 0)) 23)) := ⟨((Ext.refl w).alloc _).alloc _, (Blk.new w _ _).alloc _, Blk.new' _ _ _ (by simp)⟩
def Cut8 (w : World) (la : Array Value) (g : Nat) (d : List UInt8) (W : World) : Prop := Blk W g 23 (d.map u8v).toArray ∧ SC w la W ∧ w.heap.size + 1 < g
theorem Digs.heads {w : World} {v : Value} {ds : List (List UInt8)} (h : Digs w v ds) (hn : 0 < ds.length) : ∃ b o c, v = .slice (some ⟨b, o, none⟩) ds.length c ∧ ds.length ≤ c ∧ c ≤ maxLen ∧ b < w.heap.size ∧ (∀ m, m ≤ ds.length → Digs w (.slice (some ⟨b, o, none⟩) m c) (ds.take m)) ∧ ∀ k (hk : k < ds.length), w.rangeAt b (o + k * 16) (ds[k].map u8v) := by
  obtain ⟨b, o, c, rfl, h1, h2, hb, _⟩ := h.at (k := 0) hn
  refine ⟨b, o, c, rfl, h1, h2, hb, fun m hm => ?_, fun k hk => ?_⟩
  · rcases Nat.eq_zero_or_pos m with rfl | h0
    · rw [List.take_zero]
      exact ⟨D16.nil, rfl, _, c, rfl, Nat.zero_le _, h2, fun h => absurd h (by simp)⟩
    · obtain ⟨b', o', c2, e, hD⟩ := h.sub 0 m c (by omega) h0 (by omega) h2
      cases e
      rw [take_eq, Nat.zero_mul, Nat.add_zero] at hD
      exact hD
  · obtain ⟨b', o', c', e, _, _, _, hr⟩ := h.at hk
    cases e
    exact hr
set_option maxRecDepth 100000 in
set_option maxHeartbeats 4000000 in
theorem comb_any (N : Nat) : ∀ (n i : Nat) (leaf : List UInt8) (p : List (List UInt8)) (pv : Value) (w : World), n ≤ N → i < n → n ≤ 1000 → leaf.length = 16 → Digs w pv p →
    Calls Tryz.prog 84 #[.int .i64 (n : Int), .int .i64 (i : Int), .agg (leaf.map u8v).toArray, pv] w fun e w' => e = .returned (combV n i leaf p) ∧ Ext w w' := by
  induction N with
  | zero => intro n i leaf p pv w h1 h2; omega
  | succ N ih =>
    intro n i leaf p pv w hN hi h5 hl hD
    obtain ⟨la, hla⟩ : ∃ x, (leaf.map u8v).toArray = x := ⟨_, rfl⟩
    have HSZ := hide (show la.size = 16 from by rw [← hla]; simpa using hl)
    by_cases h1 : n = 1
    · subst h1
      obtain ⟨A, c, rfl, _, _⟩ := hD.form
      have HLf := hide (fun W => rleaf_any leaf W hl)
      have HR := hide (show combV 1 i leaf p = .tuple #[.agg ((leafS leaf).map u8v).toArray, .bool p.isEmpty] ∧ (leafS leaf).length = 16 from ⟨by unfold combV; rw [comb_one 1 i leaf p (by omega)], leafS_length _⟩)
      obtain ⟨lf, hlf⟩ : ∃ x, leafS leaf = x := ⟨_, rfl⟩
      rw [hlf] at HLf HR
      rw [(unhide HR).1]
      rw [hla] at HLf ⊢
      have hb2 : ((p.length : Int) == 0) = p.isEmpty := by cases p <;> simp; omega
      have HB2 := hide hb2
      clear hD ih hla hlf hb2 hl hi
      by_cases hp : p.length = 0
      · obtain rfl : p = [] := List.eq_nil_of_length_eq_zero hp
        clear hp
        go_enter Tryz.func84, Tryz.ntmps84
        go_wp2_with (first
          | (refine wpList_loadB (ty := 23) (t := 23) (x := .tmp 6) rfl rfl digest_wide rfl (cs := la) ((Blk.new w _ _).alloc _) (unhide HSZ) ?_)
          | (go_at_call 73; refine (unhide HLf _).mono ?_; rintro e w5 ⟨rfl, hE5⟩; have H5 := hide (And.intro ((((Ext.refl w).alloc _).alloc _).trans hE5) ((Blk.new' (w.alloc (.cells la 23)) 23 (Array.replicate 16 (.int .u8 0)) (g := w.heap.size + 1) (by simp)).ext hE5)); clear hE5)
          | (refine wpList_storeB (ty := 23) (t := 23) (x := .tmp 8) (y := .tmp 19) rfl rfl digest_wide rfl rfl (unhide H5).2 rfl (by simpa using (unhide HR).2) (bytes_one _) ?_; intro w7 hb7 hc7 hz7; have H7 := hide (And.intro hb7 hc7); clear hb7 hc7 hz7))
        refine bodyPost_ret (v := .tuple #[.agg (lf.map u8v).toArray, _]) (results_two digest_wide rfl (unhide H7).1 (by simpa using (unhide HR).2) rfl rfl) rfl ⟨rfl, ?_⟩
        exact (unhide H5).1.trans' (unhide H7).2 (fun _ _ h => h) (fun i hi e => by omega)
      · have hpe : p.isEmpty = false := by cases p <;> simp_all
        rw [hpe]
        have hp0 : ((p.length : Int) == 0) = false := beq_eq_false_iff_ne.2 (by omega)
        have hp1 : ¬ (p.length : Int) = 0 := by omega
        clear hpe hp
        go_enter Tryz.func84, Tryz.ntmps84
        go_wp2_with (first
          | (refine wpList_loadB (ty := 23) (t := 23) (x := .tmp 6) rfl rfl digest_wide rfl (cs := la) ((Blk.new w _ _).alloc _) (unhide HSZ) ?_)
          | (go_at_call 73; refine (unhide HLf _).mono ?_; rintro e w5 ⟨rfl, hE5⟩; have H5 := hide (And.intro ((((Ext.refl w).alloc _).alloc _).trans hE5) ((Blk.new' (w.alloc (.cells la 23)) 23 (Array.replicate 16 (.int .u8 0)) (g := w.heap.size + 1) (by simp)).ext hE5)); clear hE5)
          | (refine wpList_storeB (ty := 23) (t := 23) (x := .tmp 8) (y := .tmp 19) rfl rfl digest_wide rfl rfl (unhide H5).2 rfl (by simpa using (unhide HR).2) (bytes_one _) ?_; intro w7 hb7 hc7 hz7; have H7 := hide (And.intro hb7 hc7); clear hb7 hc7 hz7))
        refine bodyPost_ret (v := .tuple #[.agg (lf.map u8v).toArray, _]) (results_two digest_wide rfl (unhide H7).1 (by simpa using (unhide HR).2) rfl rfl) rfl ⟨rfl, ?_⟩
        exact (unhide H5).1.trans' (unhide H7).2 (fun _ _ h => h) (fun i hi e => by omega)
    · have hb := splitS_bounds n (by omega)
      have hnI : ¬ (n : Int) = 1 := by omega
      rcases List.eq_nil_or_concat p with rfl | ⟨p, q, rfl⟩
      · obtain ⟨A, c, rfl, _, _⟩ := hD.form
        have HR := hide (show combV n i leaf [] = .tuple #[.agg (z16'.map u8v).toArray, .bool false] from by unfold combV; rw [comb_nil n i leaf (by omega)]; rfl)
        rw [unhide HR, hla]
        clear hD ih hla hb
        go_enter Tryz.func84, Tryz.ntmps84
        go_wp2
        refine bodyPost_ret (v := .tuple #[.agg (z16'.map u8v).toArray, .bool false]) (results_two digest_wide rfl (Blk.new' _ _ _ (by simp)) rfl rfl rfl) rfl ⟨rfl, ?_⟩
        exact ((Ext.refl w).alloc _).alloc _
      · rw [List.concat_eq_append] at hD ⊢
        obtain ⟨b, o, c, rfl, hc1, hc2, hbl, hT, hR⟩ := hD.heads (by simp)
        have hq := hR p.length (by simp)
        have ht := hT p.length (by simp)
        rw [List.getElem_concat_length rfl] at hq
        rw [List.take_left' rfl] at ht
        have hq16 : q.length = 16 := hD.1 q (by simp)
        have hpl : (p ++ [q]).length = p.length + 1 := by simp
        rw [hpl] at hc1 ⊢
        have hpI : ¬ ((p.length : Int) + 1 = 0) := by omega
        have hpI2 : (p.length : Int) < (p.length : Int) + 1 := by omega
        unfold maxLen at hc2
        have HSp := hide (fun W => rsplit_any n W (by omega) (by omega))
        have HQ := hide (show (q.map u8v).length = 16 ∧ w.rangeAt b (o + p.length * 16) (q.map u8v) from ⟨by simpa using hq16, hq⟩)
        have hpc : p.length ≤ c := by omega
        clear hT hR hq hD hpl
        by_cases hk : i < splitS n
        · have HC := hide (fun W (hE : Ext w W) => ih (splitS n) i leaf p (.slice (some ⟨b, o, none⟩) p.length c) W (by omega) hk (by omega) hl (ht.ext hE))
          have HR := hide (comb_left n i leaf p q (by omega) hk)
          have hld := comb_length (splitS n) (splitS n) i leaf p
          obtain ⟨d, hd⟩ : ∃ d, (combineF (splitS n) (splitS n) i leaf p).1 = d := ⟨_, rfl⟩
          obtain ⟨ok, hok⟩ : ∃ d, (combineF (splitS n) (splitS n) i leaf p).2 = d := ⟨_, rfl⟩
          have HCV := hide (show combV (splitS n) i leaf p = .tuple #[.agg (d.map u8v).toArray, .bool ok] from by unfold combV; rw [hd, hok])
          rw [hd] at hld
          have HN := hide (fun W => rnode_any d q W hld hq16)
          have HV := hide (show combV n i leaf (p ++ [q]) = .tuple #[.agg ((nodeS d q).map u8v).toArray, .bool ok] ∧ (nodeS d q).length = 16 from ⟨by unfold combV; rw [unhide HR, hd, hok], nodeS_length _ _⟩)
          have HLd := hide hld
          obtain ⟨nd, hnd⟩ : ∃ x, nodeS d q = x := ⟨_, rfl⟩
          rw [hnd] at HV HN
          rw [(unhide HV).1]
          rw [hla] at HC ⊢
          have hkI : (i : Int) < ((splitS n : Nat) : Int) := by omega
          generalize splitS n = k at *
          clear hla hl hld hd hok HR hq16 hnd ht ih
          go_enter Tryz.func84, Tryz.ntmps84
          go_upto_region 8 with (go_at_call 74; refine (unhide HSp _).mono ?_; rintro e wz ⟨rfl, rfl⟩)
          go_cut [12, 13] (fun s t wx => ∃ g, s = .pointer (some ⟨g, 0, none⟩) ∧ t = .bool ok ∧ Hid (Cut8 w la g d wx))
          case first =>
            refine wp_region_held_drew (S := SC w la) (by kernel_rfl) ((SC.start w la).ext (Ext.refl _).drew) (fun hHeld => ?_)
            refine wpAnyH_take (i := 0) (oi := _) (v := ?_) rfl (by kernel_rfl) (by kernel_rfl) (by kernel_rfl) (fun _ _ _ h => h) (Or.inl ⟨by rfl, fun wz hSz => ?_⟩) (by assumption) ?_
            rotate_left
            · (first | (go_simp; done) | (go_simp; with_reducible rfl))
            try simp only [Act.put, List.setIfInBounds_toArray, List.set_cons_zero, List.set_cons_succ, List.getElem_toArray, List.getElem_cons_zero]
            refine wpAnyH_take (i := 1) (oi := _) (v := ?_) rfl (by kernel_rfl) (by kernel_rfl) (by kernel_rfl) (fun _ _ _ h => h) (Or.inl ⟨by rfl, fun wz hSz => ?_⟩) (by assumption) ?_
            rotate_left
            · (first | (go_simp; done) | (go_simp; with_reducible rfl))
            try simp only [Act.put, List.setIfInBounds_toArray, List.set_cons_zero, List.set_cons_succ, List.getElem_toArray, List.getElem_cons_succ, List.getElem_cons_zero]
            refine wpAnyH_take (i := 2) (oi := _) (v := _) rfl (by kernel_rfl) (by kernel_rfl) (by kernel_rfl) (fun _ _ _ h => h) (ylb digest_wide rfl (by rfl) rfl (unhide HSZ) (fun w' hw => hw.2.1)) (by assumption) ?_
            try simp only [Act.put, List.setIfInBounds_toArray, List.set_cons_zero, List.set_cons_succ, List.getElem_toArray, List.getElem_cons_succ, List.getElem_cons_zero]
            refine wpAnyH_take (i := 3) (oi := _) (v := ?_) rfl (by kernel_rfl) (by kernel_rfl) (by kernel_rfl) (fun _ _ _ h => h) (Or.inl ⟨by rfl, fun wz hSz => ?_⟩) (by assumption) ?_
            rotate_left
            · (first | (go_simp; done) | (go_simp; with_reducible rfl))
            try simp only [Act.put, List.setIfInBounds_toArray, List.set_cons_zero, List.set_cons_succ, List.getElem_toArray, List.getElem_cons_succ, List.getElem_cons_zero]
            refine wpAnyH_take (i := 4) (oi := _) (v := ?_) rfl (by kernel_rfl) (by kernel_rfl) (by kernel_rfl) (fun _ _ _ h => h) (Or.inl ⟨by rfl, fun wz hSz => ?_⟩) (by assumption) ?_
            rotate_left
            · (first | (go_simp; done) | (go_simp; with_reducible rfl))
            try simp only [Act.put, List.setIfInBounds_toArray, List.set_cons_zero, List.set_cons_succ, List.getElem_toArray, List.getElem_cons_succ, List.getElem_cons_zero]
            refine wpAnyH_take (i := 5) (oi := _) (v := ?_) rfl (by kernel_rfl) (by kernel_rfl) (by kernel_rfl) (fun _ _ _ h => h) (Or.inl ⟨by rfl, fun wz hSz => ?_⟩) (by assumption) ?_
            rotate_left
            · (first | (go_simp; done) | (go_simp; with_reducible rfl))
            try simp only [Act.put, List.setIfInBounds_toArray, List.set_cons_zero, List.set_cons_succ, List.getElem_toArray, List.getElem_cons_succ, List.getElem_cons_zero]
            refine wpAnyH_ready (rs := [6, 10]) (by kernel_rfl) (by simp) (AllReadyH.cons (o := _) rfl (fun K hK => ?_) (AllReadyH.cons (o := _) rfl (fun K hK => ?_) AllReadyH.nil))
            · try go_simp
              refine (unhide HC _ hHeld.1).mono ?_
              rintro e w3 ⟨rfl, hE3⟩
              rw [unhide HCV]
              have hS := hHeld.ext hE3
              clear hHeld hE3
              refine hK.out _ _ ?_ (fun hHeld => ?_)
              · exact hS
              clear hK K
              try simp only [Act.put, List.setIfInBounds_toArray, List.set_cons_zero, List.set_cons_succ, List.getElem_toArray, List.getElem_cons_succ, List.getElem_cons_zero]
              refine wpAnyH_take (i := 7) (oi := _) (v := ?_) rfl (by kernel_rfl) (by kernel_rfl) (by kernel_rfl) (fun _ _ _ h => h) (Or.inl ⟨by rfl, fun wz hSz => ?_⟩) (by assumption) ?_
              rotate_left
              · (first | (go_simp; done) | (go_simp; with_reducible rfl))
              try simp only [Act.put, List.setIfInBounds_toArray, List.set_cons_zero, List.set_cons_succ, List.getElem_toArray, List.getElem_cons_succ, List.getElem_cons_zero]
              refine wpAnyH_take (i := 8) (oi := _) (v := ?_) rfl (by kernel_rfl) (by kernel_rfl) (by kernel_rfl) (fun _ _ _ h => h) (Or.inl ⟨by rfl, fun wz hSz => ?_⟩) (by assumption) ?_
              rotate_left
              · (first | (go_simp; done) | (go_simp; with_reducible rfl))
              try simp only [Act.put, List.setIfInBounds_toArray, List.set_cons_zero, List.set_cons_succ, List.getElem_toArray, List.getElem_cons_succ, List.getElem_cons_zero]
              refine wpAnyH_take (i := 9) (oi := _) (v := ?_) rfl (by kernel_rfl) (by kernel_rfl) (by kernel_rfl) (fun _ _ _ h => h) (Or.inl ⟨by rfl, fun wz hSz => ?_⟩) (by assumption) ?_
              rotate_left
              · (first | (go_simp; done) | (go_simp; with_reducible rfl))
              try simp only [Act.put, List.setIfInBounds_toArray, List.set_cons_zero, List.set_cons_succ, List.getElem_toArray, List.getElem_cons_succ, List.getElem_cons_zero]
              have HS3 := hide hHeld
              refine wpAnyH_ready (rs := [10]) (by kernel_rfl) (by simp) (AllReadyH.cons (o := _) rfl (fun K hK => ?_) AllReadyH.nil)
              try go_simp
              (have hS := SC.ext hHeld ((Ext.refl _).alloc (.cells (Array.replicate 16 (.int .u8 0)) 23)); clear hHeld)
              refine hK.out _ _ ?_ (fun hHeld => ?_)
              · exact hS
              clear hK K
              try simp only [Act.put, List.setIfInBounds_toArray, List.set_cons_zero, List.set_cons_succ, List.getElem_toArray, List.getElem_cons_succ, List.getElem_cons_zero]
              refine wpAnyH_ready (rs := [11]) (by kernel_rfl) (by simp) (AllReadyH.cons (o := _) rfl (fun K hK => ?_) AllReadyH.nil)
              (refine step_storeB (ty := 23) (t := 23) (x := .tmp 12) (y := .tmp 43) rfl rfl digest_wide rfl rfl (Blk.new w3 _ _) rfl (by simpa using unhide HLd) (bytes_one _) ?_; intro w7 hb7 hc7 hz7; have hS : SC w la w7 := (unhide HS3).ext (made_ext1 hc7); have H7 := hide (show Cut8 w la w3.heap.size d w7 from ⟨hb7, hS, (unhide HS3).2.2.lt⟩); clear hb7 hc7 hz7 hHeld)
              refine hK.out _ _ ?_ (fun hHeld => ?_)
              · exact hS
              clear hK K
              try simp only [Act.put, List.getElem_toArray, List.getElem_cons_succ, List.getElem_cons_zero]
              refine wpAnyH_take (i := 12) (oi := _) (v := ?_) rfl (by kernel_rfl) (by kernel_rfl) (by kernel_rfl) (fun _ _ _ h => h) (Or.inl ⟨by rfl, fun wz hSz => ?_⟩) (by assumption) ?_
              rotate_left
              · (first | (go_simp; done) | (go_simp; with_reducible rfl))
              try simp only [Act.put, List.setIfInBounds_toArray, List.set_cons_zero, List.set_cons_succ, List.getElem_toArray, List.getElem_cons_succ, List.getElem_cons_zero]
              refine wpAnyH_done (by kernel_rfl) ?_ _
              go_wp2_with fail
              go_meet
              exact ⟨_, rfl, rfl, H7⟩
            · go_simp
              clear hHeld
              refine hK.out _ _ ?_ (fun hHeld => ?_)
              · exact ((SC.start w la).ext ((Ext.refl _).alloc _)).ext (Ext.refl _).drew
              clear hK K
              try simp only [Act.put, List.setIfInBounds_toArray, List.set_cons_zero, List.set_cons_succ, List.getElem_toArray, List.getElem_cons_succ, List.getElem_cons_zero]
              have HB := hide (show SC w la ((w.alloc (.cells la 23)).alloc (.cells (Array.replicate 16 (.int .u8 0)) 23)) ∧ Blk ((((w.alloc (.cells la 23)).alloc (.cells (Array.replicate 16 (.int .u8 0)) 23)).alloc (.cells (Array.replicate 16 (.int .u8 0)) 23)).drew) (w.heap.size + 1 + 1) 23 (Array.replicate 16 (.int .u8 0)) from ⟨SC.start w la, (Blk.new' _ _ _ (by simp)).drew⟩)
              refine wpAnyH_ready (rs := [6]) (by kernel_rfl) (by simp) (AllReadyH.cons (o := _) rfl (fun K hK => ?_) AllReadyH.nil)
              try go_simp
              (refine (unhide HC _ hHeld.1).mono ?_; rintro e w3 ⟨rfl, hE3⟩; rw [unhide HCV]; have hS := hHeld.ext hE3; have H3 := hide (And.intro ((unhide HB).2.ext hE3) ((((Ext.refl _).alloc _).drew).trans hE3)); clear hHeld hE3)
              refine hK.out _ _ ?_ (fun hHeld => ?_)
              · exact hS
              clear hK K
              try simp only [Act.put, List.setIfInBounds_toArray, List.set_cons_zero, List.set_cons_succ, List.getElem_toArray, List.getElem_cons_succ, List.getElem_cons_zero]
              refine wpAnyH_take (i := 7) (oi := _) (v := ?_) rfl (by kernel_rfl) (by kernel_rfl) (by kernel_rfl) (fun _ _ _ h => h) (Or.inl ⟨by rfl, fun wz hSz => ?_⟩) (by assumption) ?_
              rotate_left
              · (first | (go_simp; done) | (go_simp; with_reducible rfl))
              try simp only [Act.put, List.setIfInBounds_toArray, List.set_cons_zero, List.set_cons_succ, List.getElem_toArray, List.getElem_cons_succ, List.getElem_cons_zero]
              refine wpAnyH_take (i := 8) (oi := _) (v := ?_) rfl (by kernel_rfl) (by kernel_rfl) (by kernel_rfl) (fun _ _ _ h => h) (Or.inl ⟨by rfl, fun wz hSz => ?_⟩) (by assumption) ?_
              rotate_left
              · (first | (go_simp; done) | (go_simp; with_reducible rfl))
              try simp only [Act.put, List.setIfInBounds_toArray, List.set_cons_zero, List.set_cons_succ, List.getElem_toArray, List.getElem_cons_succ, List.getElem_cons_zero]
              refine wpAnyH_take (i := 9) (oi := _) (v := ?_) rfl (by kernel_rfl) (by kernel_rfl) (by kernel_rfl) (fun _ _ _ h => h) (Or.inl ⟨by rfl, fun wz hSz => ?_⟩) (by assumption) ?_
              rotate_left
              · (first | (go_simp; done) | (go_simp; with_reducible rfl))
              try simp only [Act.put, List.setIfInBounds_toArray, List.set_cons_zero, List.set_cons_succ, List.getElem_toArray, List.getElem_cons_succ, List.getElem_cons_zero]
              refine wpAnyH_ready (rs := [11]) (by kernel_rfl) (by simp) (AllReadyH.cons (o := _) rfl (fun K hK => ?_) AllReadyH.nil)
              (refine step_storeB (ty := 23) (t := 23) (x := .tmp 12) (y := .tmp 43) rfl rfl digest_wide rfl rfl (unhide H3).1 rfl (by simpa using unhide HLd) (bytes_one _) ?_; intro w7 hb7 hc7 hz7; have hS : SC w la w7 := (unhide HB).1.ext (Chg.trans' (unhide H3).2 hc7 (fun _ _ h => h) (fun i hi e => by simp at hi; omega)); have H7 := hide (show Cut8 w la (w.heap.size + 1 + 1) d w7 from ⟨hb7, hS, by omega⟩); clear hb7 hc7 hz7 hHeld)
              refine hK.out _ _ ?_ (fun hHeld => ?_)
              · exact hS
              clear hK K
              try simp only [Act.put, List.getElem_toArray, List.getElem_cons_succ, List.getElem_cons_zero]
              refine wpAnyH_take (i := 12) (oi := _) (v := ?_) rfl (by kernel_rfl) (by kernel_rfl) (by kernel_rfl) (fun _ _ _ h => h) (Or.inl ⟨by rfl, fun wz hSz => ?_⟩) (by assumption) ?_
              rotate_left
              · (first | (go_simp; done) | (go_simp; with_reducible rfl))
              try simp only [Act.put, List.setIfInBounds_toArray, List.set_cons_zero, List.set_cons_succ, List.getElem_toArray, List.getElem_cons_succ, List.getElem_cons_zero]
              refine wpAnyH_done (by kernel_rfl) ?_ _
              go_wp2_with fail
              go_meet
              exact ⟨_, rfl, rfl, H7⟩
          case rest =>
            obtain ⟨g, rfl, rfl, HC8⟩ := hcut
            go_upto_region 9 with fail
            refine wp_region_key 7 (Ext wc) (by kernel_rfl) ((Ext.refl _).drew) (fun hHeld => ?_)
            refine wpAnyK_take (i := 0) (oi := _) (v := _) rfl (by kernel_rfl) (by kernel_rfl) (by kernel_rfl) (by kernel_rfl) (by kernel_rfl) (fun _ _ _ h => h) (ylb digest_wide rfl (by rfl) rfl (by simpa using unhide HLd) (fun w' hw => (unhide HC8).1.ext hw)) (by assumption) ?_
            try simp only [Act.put, List.setIfInBounds_toArray, List.set_cons_zero, List.set_cons_succ, List.getElem_toArray, List.getElem_cons_zero]
            refine wpAnyK_takeF (i := 1) (oi := _) (v := ?_) rfl (by kernel_rfl) (by kernel_rfl) (by kernel_rfl) (by kernel_rfl) (fun _ _ _ h => h) (Or.inl ⟨by rfl, fun wz _ => ?_⟩) (by assumption) ?_
            rotate_left
            · (first | (go_simp; done) | (go_simp; with_reducible rfl))
            try simp only [Act.put, List.setIfInBounds_toArray, List.set_cons_zero, List.set_cons_succ, List.getElem_toArray, List.getElem_cons_succ, List.getElem_cons_zero]
            refine wpAnyK_takeF (i := 2) (oi := _) (v := ?_) rfl (by kernel_rfl) (by kernel_rfl) (by kernel_rfl) (by kernel_rfl) (fun _ _ _ h => h) (Or.inl ⟨by rfl, fun wz _ => ?_⟩) (by assumption) ?_
            rotate_left
            · (first | (go_simp; done) | (go_simp; with_reducible rfl))
            try simp only [Act.put, List.setIfInBounds_toArray, List.set_cons_zero, List.set_cons_succ, List.getElem_toArray, List.getElem_cons_succ, List.getElem_cons_zero]
            refine wpAnyK_takeF (i := 3) (oi := _) (v := ?_) rfl (by kernel_rfl) (by kernel_rfl) (by kernel_rfl) (by kernel_rfl) (fun _ _ _ h => h) (Or.inl ⟨by rfl, fun wz _ => ?_⟩) (by assumption) ?_
            rotate_left
            · (first | (go_simp; done) | (go_simp; with_reducible rfl))
            try simp only [Act.put, List.setIfInBounds_toArray, List.set_cons_zero, List.set_cons_succ, List.getElem_toArray, List.getElem_cons_succ, List.getElem_cons_zero]
            refine wpAnyK_take (i := 4) (oi := _) (v := _) rfl (by kernel_rfl) (by kernel_rfl) (by kernel_rfl) (by kernel_rfl) (by kernel_rfl) (fun _ _ _ h => h) (ylm digest_wide rfl (by rfl) rfl (unhide HQ).1 (fun w' hw => rangeAt_ext (unhide HQ).2 ((unhide HC8).2.1.1.trans hw))) (by assumption) ?_
            try simp only [Act.put, List.setIfInBounds_toArray, List.set_cons_zero, List.set_cons_succ, List.getElem_toArray, List.getElem_cons_succ, List.getElem_cons_zero]
            refine wpAnyK_takeF (i := 6) (oi := _) (v := ?_) rfl (by kernel_rfl) (by kernel_rfl) (by kernel_rfl) (by kernel_rfl) (fun _ _ _ h => h) (Or.inl ⟨by rfl, fun wz _ => ?_⟩) (by assumption) ?_
            rotate_left
            · (first | (go_simp; done) | (go_simp; with_reducible rfl))
            try simp only [Act.put, List.setIfInBounds_toArray, List.set_cons_zero, List.set_cons_succ, List.getElem_toArray, List.getElem_cons_succ, List.getElem_cons_zero]
            refine wpAnyK_ready (rs := [5]) (by kernel_rfl) (by simp) (AllReadyK.cons (o := _) rfl (fun K hK => ?_) AllReadyK.nil)
            try go_simp
            (refine (unhide HN _).mono ?_; rintro e w9 ⟨rfl, hE9⟩; have hS := hHeld.trans hE9; have H9 := hide hS; clear hHeld hE9)
            refine hK.out _ _ ?_ (fun hHeld => ?_)
            · exact hS
            clear hK K
            try simp only [Act.put, List.setIfInBounds_toArray, List.set_cons_zero, List.set_cons_succ, List.getElem_toArray, List.getElem_cons_succ, List.getElem_cons_zero]
            refine wpAnyK_ready (rs := [7]) (by kernel_rfl) (by simp) (AllReadyK.key (o := _) (by kernel_rfl) rfl (fun K hK => ?_))
            (refine step_storeB (ty := 23) (t := 23) (x := .tmp 8) (y := .tmp 50) rfl rfl digest_wide rfl rfl ((unhide HC8).2.1.2.2.ext (unhide H9)) rfl (by simpa using (unhide HV).2) (bytes_one _) ?_; intro w7 hb7 hc7 hz7; have H7 := hide (And.intro hb7 (((unhide HC8).2.1.1.trans (unhide H9)).trans' hc7 (fun _ _ h => h) (fun i hi e => by omega))); clear hb7 hc7 hz7 hHeld)
            refine hK.out _ _ trivial (fun _ => ?_)
            clear hK K
            try simp only [Act.put, List.getElem_toArray, List.getElem_cons_succ, List.getElem_cons_zero]
            refine wpAnyK_ready (rs := [8]) (by kernel_rfl) (by simp) (AllReadyK.key (o := _) (by kernel_rfl) rfl (fun K hK => ?_))
            go_simp
            refine hK.out _ _ trivial (fun _ => ?_)
            clear hK K
            try simp only [Act.put, List.setIfInBounds_toArray, List.set_cons_zero, List.set_cons_succ, List.getElem_toArray, List.getElem_cons_succ, List.getElem_cons_zero]
            refine wpAnyK_done (by kernel_rfl) ?_ _
            go_wp2
            refine bodyPost_ret (v := .tuple #[.agg (nd.map u8v).toArray, .bool ok]) (results_two digest_wide rfl (unhide H7).1 (by simpa using (unhide HV).2) rfl rfl) rfl ⟨rfl, ?_⟩
            exact (unhide H7).2
        · have HC := hide (fun W (hE : Ext w W) (x y : Int) (hx : x = ((n - splitS n : Nat) : Int)) (hy : y = ((i - splitS n : Nat) : Int)) => (by subst hx hy; exact ih (n - splitS n) (i - splitS n) leaf p (.slice (some ⟨b, o, none⟩) p.length c) W (by omega) (by omega) (by omega) hl (ht.ext hE) : Calls Tryz.prog 84 #[.int .i64 x, .int .i64 y, .agg (leaf.map u8v).toArray, .slice (some ⟨b, o, none⟩) p.length c] W fun e w' => e = .returned (combV (n - splitS n) (i - splitS n) leaf p) ∧ Ext W w'))
          have HR := hide (comb_right n i leaf p q (by omega) hk)
          have hld := comb_length (n - splitS n) (n - splitS n) (i - splitS n) leaf p
          obtain ⟨d, hd⟩ : ∃ d, (combineF (n - splitS n) (n - splitS n) (i - splitS n) leaf p).1 = d := ⟨_, rfl⟩
          obtain ⟨ok, hok⟩ : ∃ d, (combineF (n - splitS n) (n - splitS n) (i - splitS n) leaf p).2 = d := ⟨_, rfl⟩
          have HCV := hide (show combV (n - splitS n) (i - splitS n) leaf p = .tuple #[.agg (d.map u8v).toArray, .bool ok] from by unfold combV; rw [hd, hok])
          rw [hd] at hld
          have HN := hide (fun W => rnode_any q d W hq16 hld)
          have HV := hide (show combV n i leaf (p ++ [q]) = .tuple #[.agg ((nodeS q d).map u8v).toArray, .bool ok] ∧ (nodeS q d).length = 16 from ⟨by unfold combV; rw [unhide HR, hd, hok], nodeS_length _ _⟩)
          have HLd := hide hld
          obtain ⟨nd, hnd⟩ : ∃ x, nodeS q d = x := ⟨_, rfl⟩
          rw [hnd] at HV HN
          rw [(unhide HV).1]
          rw [hla] at HC ⊢
          have hkI : ¬ (i : Int) < ((splitS n : Nat) : Int) := by omega
          generalize splitS n = k at *
          clear hla hl hld hd hok HR hq16 hnd ht ih
          go_enter Tryz.func84, Tryz.ntmps84
          go_upto_region 10 with (go_at_call 74; refine (unhide HSp _).mono ?_; rintro e wz ⟨rfl, rfl⟩)
          go_cut [14, 15] (fun s t wx => ∃ g, s = .pointer (some ⟨g, 0, none⟩) ∧ t = .bool ok ∧ Hid (Cut8 w la g d wx))
          case first =>
            refine wp_region_held_drew (S := SC w la) (by kernel_rfl) ((SC.start w la).ext (Ext.refl _).drew) (fun hHeld => ?_)
            refine wpAnyH_take (i := 0) (oi := _) (v := ?_) rfl (by kernel_rfl) (by kernel_rfl) (by kernel_rfl) (fun _ _ _ h => h) (Or.inl ⟨by rfl, fun wz hSz => ?_⟩) (by assumption) ?_
            rotate_left
            · (first | (go_simp; done) | (go_simp; with_reducible rfl))
            try simp only [Act.put, List.setIfInBounds_toArray, List.set_cons_zero, List.set_cons_succ, List.getElem_toArray, List.getElem_cons_zero]
            refine wpAnyH_take (i := 1) (oi := _) (v := ?_) rfl (by kernel_rfl) (by kernel_rfl) (by kernel_rfl) (fun _ _ _ h => h) (Or.inl ⟨by rfl, fun wz hSz => ?_⟩) (by assumption) ?_
            rotate_left
            · (first | (go_simp; done) | (go_simp; with_reducible rfl))
            try simp only [Act.put, List.setIfInBounds_toArray, List.set_cons_zero, List.set_cons_succ, List.getElem_toArray, List.getElem_cons_succ, List.getElem_cons_zero]
            refine wpAnyH_take (i := 2) (oi := _) (v := ?_) rfl (by kernel_rfl) (by kernel_rfl) (by kernel_rfl) (fun _ _ _ h => h) (Or.inl ⟨by rfl, fun wz hSz => ?_⟩) (by assumption) ?_
            rotate_left
            · (first | (go_simp; done) | (go_simp; with_reducible rfl))
            try simp only [Act.put, List.setIfInBounds_toArray, List.set_cons_zero, List.set_cons_succ, List.getElem_toArray, List.getElem_cons_succ, List.getElem_cons_zero]
            refine wpAnyH_take (i := 3) (oi := _) (v := ?_) rfl (by kernel_rfl) (by kernel_rfl) (by kernel_rfl) (fun _ _ _ h => h) (Or.inl ⟨by rfl, fun wz hSz => ?_⟩) (by assumption) ?_
            rotate_left
            · (first | (go_simp; done) | (go_simp; with_reducible rfl))
            try simp only [Act.put, List.setIfInBounds_toArray, List.set_cons_zero, List.set_cons_succ, List.getElem_toArray, List.getElem_cons_succ, List.getElem_cons_zero]
            refine wpAnyH_take (i := 4) (oi := _) (v := ?_) rfl (by kernel_rfl) (by kernel_rfl) (by kernel_rfl) (fun _ _ _ h => h) (Or.inl ⟨by rfl, fun wz hSz => ?_⟩) (by assumption) ?_
            rotate_left
            · (first | (go_simp; done) | (go_simp; with_reducible rfl))
            try simp only [Act.put, List.setIfInBounds_toArray, List.set_cons_zero, List.set_cons_succ, List.getElem_toArray, List.getElem_cons_succ, List.getElem_cons_zero]
            refine wpAnyH_take (i := 5) (oi := _) (v := ?_) rfl (by kernel_rfl) (by kernel_rfl) (by kernel_rfl) (fun _ _ _ h => h) (Or.inl ⟨by rfl, fun wz hSz => ?_⟩) (by assumption) ?_
            rotate_left
            · (first | (go_simp; done) | (go_simp; with_reducible rfl))
            try simp only [Act.put, List.setIfInBounds_toArray, List.set_cons_zero, List.set_cons_succ, List.getElem_toArray, List.getElem_cons_succ, List.getElem_cons_zero]
            refine wpAnyH_take (i := 6) (oi := _) (v := _) rfl (by kernel_rfl) (by kernel_rfl) (by kernel_rfl) (fun _ _ _ h => h) (ylb digest_wide rfl (by rfl) rfl (unhide HSZ) (fun w' hw => hw.2.1)) (by assumption) ?_
            try simp only [Act.put, List.setIfInBounds_toArray, List.set_cons_zero, List.set_cons_succ, List.getElem_toArray, List.getElem_cons_succ, List.getElem_cons_zero]
            refine wpAnyH_take (i := 7) (oi := _) (v := ?_) rfl (by kernel_rfl) (by kernel_rfl) (by kernel_rfl) (fun _ _ _ h => h) (Or.inl ⟨by rfl, fun wz hSz => ?_⟩) (by assumption) ?_
            rotate_left
            · (first | (go_simp; done) | (go_simp; with_reducible rfl))
            try simp only [Act.put, List.setIfInBounds_toArray, List.set_cons_zero, List.set_cons_succ, List.getElem_toArray, List.getElem_cons_succ, List.getElem_cons_zero]
            refine wpAnyH_take (i := 8) (oi := _) (v := ?_) rfl (by kernel_rfl) (by kernel_rfl) (by kernel_rfl) (fun _ _ _ h => h) (Or.inl ⟨by rfl, fun wz hSz => ?_⟩) (by assumption) ?_
            rotate_left
            · (first | (go_simp; done) | (go_simp; with_reducible rfl))
            try simp only [Act.put, List.setIfInBounds_toArray, List.set_cons_zero, List.set_cons_succ, List.getElem_toArray, List.getElem_cons_succ, List.getElem_cons_zero]
            refine wpAnyH_take (i := 9) (oi := _) (v := ?_) rfl (by kernel_rfl) (by kernel_rfl) (by kernel_rfl) (fun _ _ _ h => h) (Or.inl ⟨by rfl, fun wz hSz => ?_⟩) (by assumption) ?_
            rotate_left
            · (first | (go_simp; done) | (go_simp; with_reducible rfl))
            try simp only [Act.put, List.setIfInBounds_toArray, List.set_cons_zero, List.set_cons_succ, List.getElem_toArray, List.getElem_cons_succ, List.getElem_cons_zero]
            refine wpAnyH_ready (rs := [10, 14]) (by kernel_rfl) (by simp) (AllReadyH.cons (o := _) rfl (fun K hK => ?_) (AllReadyH.cons (o := _) rfl (fun K hK => ?_) AllReadyH.nil))
            · try go_simp
              refine (unhide HC _ hHeld.1 _ _ ?_ ?_).mono ?_; (focus (rw [IntKind.wrap_i64]; omega)); (focus (rw [IntKind.wrap_i64]; omega))
              rintro e w3 ⟨rfl, hE3⟩
              rw [unhide HCV]
              have hS := hHeld.ext hE3
              clear hHeld hE3
              refine hK.out _ _ ?_ (fun hHeld => ?_)
              · exact hS
              clear hK K
              try simp only [Act.put, List.setIfInBounds_toArray, List.set_cons_zero, List.set_cons_succ, List.getElem_toArray, List.getElem_cons_succ, List.getElem_cons_zero]
              refine wpAnyH_take (i := 11) (oi := _) (v := ?_) rfl (by kernel_rfl) (by kernel_rfl) (by kernel_rfl) (fun _ _ _ h => h) (Or.inl ⟨by rfl, fun wz hSz => ?_⟩) (by assumption) ?_
              rotate_left
              · (first | (go_simp; done) | (go_simp; with_reducible rfl))
              try simp only [Act.put, List.setIfInBounds_toArray, List.set_cons_zero, List.set_cons_succ, List.getElem_toArray, List.getElem_cons_succ, List.getElem_cons_zero]
              refine wpAnyH_take (i := 12) (oi := _) (v := ?_) rfl (by kernel_rfl) (by kernel_rfl) (by kernel_rfl) (fun _ _ _ h => h) (Or.inl ⟨by rfl, fun wz hSz => ?_⟩) (by assumption) ?_
              rotate_left
              · (first | (go_simp; done) | (go_simp; with_reducible rfl))
              try simp only [Act.put, List.setIfInBounds_toArray, List.set_cons_zero, List.set_cons_succ, List.getElem_toArray, List.getElem_cons_succ, List.getElem_cons_zero]
              refine wpAnyH_take (i := 13) (oi := _) (v := ?_) rfl (by kernel_rfl) (by kernel_rfl) (by kernel_rfl) (fun _ _ _ h => h) (Or.inl ⟨by rfl, fun wz hSz => ?_⟩) (by assumption) ?_
              rotate_left
              · (first | (go_simp; done) | (go_simp; with_reducible rfl))
              try simp only [Act.put, List.setIfInBounds_toArray, List.set_cons_zero, List.set_cons_succ, List.getElem_toArray, List.getElem_cons_succ, List.getElem_cons_zero]
              have HS3 := hide hHeld
              refine wpAnyH_ready (rs := [14]) (by kernel_rfl) (by simp) (AllReadyH.cons (o := _) rfl (fun K hK => ?_) AllReadyH.nil)
              try go_simp
              (have hS := SC.ext hHeld ((Ext.refl _).alloc (.cells (Array.replicate 16 (.int .u8 0)) 23)); clear hHeld)
              refine hK.out _ _ ?_ (fun hHeld => ?_)
              · exact hS
              clear hK K
              try simp only [Act.put, List.setIfInBounds_toArray, List.set_cons_zero, List.set_cons_succ, List.getElem_toArray, List.getElem_cons_succ, List.getElem_cons_zero]
              refine wpAnyH_ready (rs := [15]) (by kernel_rfl) (by simp) (AllReadyH.cons (o := _) rfl (fun K hK => ?_) AllReadyH.nil)
              (refine step_storeB (ty := 23) (t := 23) (x := .tmp 14) (y := .tmp 64) rfl rfl digest_wide rfl rfl (Blk.new w3 _ _) rfl (by simpa using unhide HLd) (bytes_one _) ?_; intro w7 hb7 hc7 hz7; have hS : SC w la w7 := (unhide HS3).ext (made_ext1 hc7); have H7 := hide (show Cut8 w la w3.heap.size d w7 from ⟨hb7, hS, (unhide HS3).2.2.lt⟩); clear hb7 hc7 hz7 hHeld)
              refine hK.out _ _ ?_ (fun hHeld => ?_)
              · exact hS
              clear hK K
              try simp only [Act.put, List.getElem_toArray, List.getElem_cons_succ, List.getElem_cons_zero]
              refine wpAnyH_take (i := 16) (oi := _) (v := ?_) rfl (by kernel_rfl) (by kernel_rfl) (by kernel_rfl) (fun _ _ _ h => h) (Or.inl ⟨by rfl, fun wz hSz => ?_⟩) (by assumption) ?_
              rotate_left
              · (first | (go_simp; done) | (go_simp; with_reducible rfl))
              try simp only [Act.put, List.setIfInBounds_toArray, List.set_cons_zero, List.set_cons_succ, List.getElem_toArray, List.getElem_cons_succ, List.getElem_cons_zero]
              refine wpAnyH_done (by kernel_rfl) ?_ _
              go_wp2_with fail
              go_meet
              exact ⟨_, rfl, rfl, H7⟩
            · go_simp
              clear hHeld
              refine hK.out _ _ ?_ (fun hHeld => ?_)
              · exact ((SC.start w la).ext ((Ext.refl _).alloc _)).ext (Ext.refl _).drew
              clear hK K
              try simp only [Act.put, List.setIfInBounds_toArray, List.set_cons_zero, List.set_cons_succ, List.getElem_toArray, List.getElem_cons_succ, List.getElem_cons_zero]
              have HB := hide (show SC w la ((w.alloc (.cells la 23)).alloc (.cells (Array.replicate 16 (.int .u8 0)) 23)) ∧ Blk ((((w.alloc (.cells la 23)).alloc (.cells (Array.replicate 16 (.int .u8 0)) 23)).alloc (.cells (Array.replicate 16 (.int .u8 0)) 23)).drew) (w.heap.size + 1 + 1) 23 (Array.replicate 16 (.int .u8 0)) from ⟨SC.start w la, (Blk.new' _ _ _ (by simp)).drew⟩)
              refine wpAnyH_ready (rs := [10]) (by kernel_rfl) (by simp) (AllReadyH.cons (o := _) rfl (fun K hK => ?_) AllReadyH.nil)
              try go_simp
              (refine (unhide HC _ hHeld.1 _ _ ?_ ?_).mono ?_; (focus (rw [IntKind.wrap_i64]; omega)); (focus (rw [IntKind.wrap_i64]; omega)); rintro e w3 ⟨rfl, hE3⟩; rw [unhide HCV]; have hS := hHeld.ext hE3; have H3 := hide (And.intro ((unhide HB).2.ext hE3) ((((Ext.refl _).alloc _).drew).trans hE3)); clear hHeld hE3)
              refine hK.out _ _ ?_ (fun hHeld => ?_)
              · exact hS
              clear hK K
              try simp only [Act.put, List.setIfInBounds_toArray, List.set_cons_zero, List.set_cons_succ, List.getElem_toArray, List.getElem_cons_succ, List.getElem_cons_zero]
              refine wpAnyH_take (i := 11) (oi := _) (v := ?_) rfl (by kernel_rfl) (by kernel_rfl) (by kernel_rfl) (fun _ _ _ h => h) (Or.inl ⟨by rfl, fun wz hSz => ?_⟩) (by assumption) ?_
              rotate_left
              · (first | (go_simp; done) | (go_simp; with_reducible rfl))
              try simp only [Act.put, List.setIfInBounds_toArray, List.set_cons_zero, List.set_cons_succ, List.getElem_toArray, List.getElem_cons_succ, List.getElem_cons_zero]
              refine wpAnyH_take (i := 12) (oi := _) (v := ?_) rfl (by kernel_rfl) (by kernel_rfl) (by kernel_rfl) (fun _ _ _ h => h) (Or.inl ⟨by rfl, fun wz hSz => ?_⟩) (by assumption) ?_
              rotate_left
              · (first | (go_simp; done) | (go_simp; with_reducible rfl))
              try simp only [Act.put, List.setIfInBounds_toArray, List.set_cons_zero, List.set_cons_succ, List.getElem_toArray, List.getElem_cons_succ, List.getElem_cons_zero]
              refine wpAnyH_take (i := 13) (oi := _) (v := ?_) rfl (by kernel_rfl) (by kernel_rfl) (by kernel_rfl) (fun _ _ _ h => h) (Or.inl ⟨by rfl, fun wz hSz => ?_⟩) (by assumption) ?_
              rotate_left
              · (first | (go_simp; done) | (go_simp; with_reducible rfl))
              try simp only [Act.put, List.setIfInBounds_toArray, List.set_cons_zero, List.set_cons_succ, List.getElem_toArray, List.getElem_cons_succ, List.getElem_cons_zero]
              refine wpAnyH_ready (rs := [15]) (by kernel_rfl) (by simp) (AllReadyH.cons (o := _) rfl (fun K hK => ?_) AllReadyH.nil)
              (refine step_storeB (ty := 23) (t := 23) (x := .tmp 14) (y := .tmp 64) rfl rfl digest_wide rfl rfl (unhide H3).1 rfl (by simpa using unhide HLd) (bytes_one _) ?_; intro w7 hb7 hc7 hz7; have hS : SC w la w7 := (unhide HB).1.ext (Chg.trans' (unhide H3).2 hc7 (fun _ _ h => h) (fun i hi e => by simp at hi; omega)); have H7 := hide (show Cut8 w la (w.heap.size + 1 + 1) d w7 from ⟨hb7, hS, by omega⟩); clear hb7 hc7 hz7 hHeld)
              refine hK.out _ _ ?_ (fun hHeld => ?_)
              · exact hS
              clear hK K
              try simp only [Act.put, List.getElem_toArray, List.getElem_cons_succ, List.getElem_cons_zero]
              refine wpAnyH_take (i := 16) (oi := _) (v := ?_) rfl (by kernel_rfl) (by kernel_rfl) (by kernel_rfl) (fun _ _ _ h => h) (Or.inl ⟨by rfl, fun wz hSz => ?_⟩) (by assumption) ?_
              rotate_left
              · (first | (go_simp; done) | (go_simp; with_reducible rfl))
              try simp only [Act.put, List.setIfInBounds_toArray, List.set_cons_zero, List.set_cons_succ, List.getElem_toArray, List.getElem_cons_succ, List.getElem_cons_zero]
              refine wpAnyH_done (by kernel_rfl) ?_ _
              go_wp2_with fail
              go_meet
              exact ⟨_, rfl, rfl, H7⟩
          case rest =>
            obtain ⟨g, rfl, rfl, HC8⟩ := hcut
            go_upto_region 11 with fail
            refine wp_region_key 7 (Ext wc) (by kernel_rfl) ((Ext.refl _).drew) (fun hHeld => ?_)
            refine wpAnyK_takeF (i := 0) (oi := _) (v := ?_) rfl (by kernel_rfl) (by kernel_rfl) (by kernel_rfl) (by kernel_rfl) (fun _ _ _ h => h) (Or.inl ⟨by rfl, fun wz _ => ?_⟩) (by assumption) ?_
            rotate_left
            · (first | (go_simp; done) | (go_simp; with_reducible rfl))
            try simp only [Act.put, List.setIfInBounds_toArray, List.set_cons_zero, List.set_cons_succ, List.getElem_toArray, List.getElem_cons_zero]
            refine wpAnyK_takeF (i := 1) (oi := _) (v := ?_) rfl (by kernel_rfl) (by kernel_rfl) (by kernel_rfl) (by kernel_rfl) (fun _ _ _ h => h) (Or.inl ⟨by rfl, fun wz _ => ?_⟩) (by assumption) ?_
            rotate_left
            · (first | (go_simp; done) | (go_simp; with_reducible rfl))
            try simp only [Act.put, List.setIfInBounds_toArray, List.set_cons_zero, List.set_cons_succ, List.getElem_toArray, List.getElem_cons_succ, List.getElem_cons_zero]
            refine wpAnyK_takeF (i := 2) (oi := _) (v := ?_) rfl (by kernel_rfl) (by kernel_rfl) (by kernel_rfl) (by kernel_rfl) (fun _ _ _ h => h) (Or.inl ⟨by rfl, fun wz _ => ?_⟩) (by assumption) ?_
            rotate_left
            · (first | (go_simp; done) | (go_simp; with_reducible rfl))
            try simp only [Act.put, List.setIfInBounds_toArray, List.set_cons_zero, List.set_cons_succ, List.getElem_toArray, List.getElem_cons_succ, List.getElem_cons_zero]
            refine wpAnyK_take (i := 3) (oi := _) (v := _) rfl (by kernel_rfl) (by kernel_rfl) (by kernel_rfl) (by kernel_rfl) (by kernel_rfl) (fun _ _ _ h => h) (ylm digest_wide rfl (by rfl) rfl (unhide HQ).1 (fun w' hw => rangeAt_ext (unhide HQ).2 ((unhide HC8).2.1.1.trans hw))) (by assumption) ?_
            try simp only [Act.put, List.setIfInBounds_toArray, List.set_cons_zero, List.set_cons_succ, List.getElem_toArray, List.getElem_cons_succ, List.getElem_cons_zero]
            refine wpAnyK_take (i := 4) (oi := _) (v := _) rfl (by kernel_rfl) (by kernel_rfl) (by kernel_rfl) (by kernel_rfl) (by kernel_rfl) (fun _ _ _ h => h) (ylb digest_wide rfl (by rfl) rfl (by simpa using unhide HLd) (fun w' hw => (unhide HC8).1.ext hw)) (by assumption) ?_
            try simp only [Act.put, List.setIfInBounds_toArray, List.set_cons_zero, List.set_cons_succ, List.getElem_toArray, List.getElem_cons_succ, List.getElem_cons_zero]
            refine wpAnyK_takeF (i := 6) (oi := _) (v := ?_) rfl (by kernel_rfl) (by kernel_rfl) (by kernel_rfl) (by kernel_rfl) (fun _ _ _ h => h) (Or.inl ⟨by rfl, fun wz _ => ?_⟩) (by assumption) ?_
            rotate_left
            · (first | (go_simp; done) | (go_simp; with_reducible rfl))
            try simp only [Act.put, List.setIfInBounds_toArray, List.set_cons_zero, List.set_cons_succ, List.getElem_toArray, List.getElem_cons_succ, List.getElem_cons_zero]
            refine wpAnyK_ready (rs := [5]) (by kernel_rfl) (by simp) (AllReadyK.cons (o := _) rfl (fun K hK => ?_) AllReadyK.nil)
            try go_simp
            (refine (unhide HN _).mono ?_; rintro e w9 ⟨rfl, hE9⟩; have hS := hHeld.trans hE9; have H9 := hide hS; clear hHeld hE9)
            refine hK.out _ _ ?_ (fun hHeld => ?_)
            · exact hS
            clear hK K
            try simp only [Act.put, List.setIfInBounds_toArray, List.set_cons_zero, List.set_cons_succ, List.getElem_toArray, List.getElem_cons_succ, List.getElem_cons_zero]
            refine wpAnyK_ready (rs := [7]) (by kernel_rfl) (by simp) (AllReadyK.key (o := _) (by kernel_rfl) rfl (fun K hK => ?_))
            (refine step_storeB (ty := 23) (t := 23) (x := .tmp 8) (y := .tmp 71) rfl rfl digest_wide rfl rfl ((unhide HC8).2.1.2.2.ext (unhide H9)) rfl (by simpa using (unhide HV).2) (bytes_one _) ?_; intro w7 hb7 hc7 hz7; have H7 := hide (And.intro hb7 (((unhide HC8).2.1.1.trans (unhide H9)).trans' hc7 (fun _ _ h => h) (fun i hi e => by omega))); clear hb7 hc7 hz7 hHeld)
            refine hK.out _ _ trivial (fun _ => ?_)
            clear hK K
            try simp only [Act.put, List.getElem_toArray, List.getElem_cons_succ, List.getElem_cons_zero]
            refine wpAnyK_ready (rs := [8]) (by kernel_rfl) (by simp) (AllReadyK.key (o := _) (by kernel_rfl) rfl (fun K hK => ?_))
            go_simp
            refine hK.out _ _ trivial (fun _ => ?_)
            clear hK K
            try simp only [Act.put, List.setIfInBounds_toArray, List.set_cons_zero, List.set_cons_succ, List.getElem_toArray, List.getElem_cons_succ, List.getElem_cons_zero]
            refine wpAnyK_done (by kernel_rfl) ?_ _
            go_wp2
            refine bodyPost_ret (v := .tuple #[.agg (nd.map u8v).toArray, .bool ok]) (results_two digest_wide rfl (unhide H7).1 (by simpa using (unhide HV).2) rfl rfl) rfl ⟨rfl, ?_⟩
            exact (unhide H7).2
end Go.Proofs.YtplkplegjoabgaaGreatDoor


namespace Go.Proofs.YtplkplegjoabgaaGreatDoor
open Go.RowKit
theorem wpList_loadBG {P : Program} {ops : Array Oper} {rest : List Oper} {o : Oper} {a : Act} {w : World} {Q : Exit → Act → World → Prop} (hgd : Region.wanted o (yielded ops a.tmps) = true) {ty : TypeId} {x : Operand} (ho : o.op = .load ty x) {n : Nat} (W : Wide P ty n)
    {g : Nat} (hx : a.eval x = .pointer (some ⟨g, 0, none⟩)) {t : TypeId} {cs : Array Value} (hB : Blk w g t cs) (hn : cs.size = n) (h : wpList P ops Q rest (a.put o.dst (.agg cs)) w) : wpList P ops Q (o :: rest) a w :=
  Go.BigFrame.wpList_want hgd fun _ hK => wp_loadB ho W hx hB hn (hK _ _ h)
set_option maxRecDepth 100000 in
set_option maxHeartbeats 4000000 in
theorem rmverify_in (root leaf : List UInt8) (n i : Nat) (ps : List (List UInt8)) (pv : Value) (w : World) (hr : root.length = 16) (hl : leaf.length = 16) (hn : n ≤ 1000) (hD : Digs w pv ps) (h : i < n) :
    Calls Tryz.prog 42 #[.agg (root.map u8v).toArray, .int .i64 (n : Int), .int .i64 (i : Int), .agg (leaf.map u8v).toArray, pv] w fun e w' => e = .returned (.bool (verifyS root n i leaf ps)) ∧ Ext w w' := by
  obtain ⟨A, c, rfl, _, _⟩ := hD.form
  have HC := hide (fun W (hE : Ext w W) => comb_any n n i leaf ps _ W (Nat.le_refl _) h hn hl (hD.ext hE))
  have hld := comb_length n n i leaf ps
  have HV := hide (combine_verify root n i leaf ps h)
  obtain ⟨d, hd⟩ : ∃ d, (combineF n n i leaf ps).1 = d := ⟨_, rfl⟩
  obtain ⟨ok, hok⟩ : ∃ d, (combineF n n i leaf ps).2 = d := ⟨_, rfl⟩
  have HCV := hide (show combV n i leaf ps = .tuple #[.agg (d.map u8v).toArray, .bool ok] from by unfold combV; rw [hd, hok])
  rw [hd] at hld
  rw [hd, hok] at HV
  obtain ⟨res, hres⟩ : ∃ b, verifyS root n i leaf ps = b := ⟨_, rfl⟩
  rw [hres] at HV ⊢
  have heq := fun W => eq16 hld hr W
  obtain ⟨ra, hra⟩ : ∃ x, (root.map u8v).toArray = x := ⟨_, rfl⟩
  obtain ⟨la, hla⟩ : ∃ x, (leaf.map u8v).toArray = x := ⟨_, rfl⟩
  obtain ⟨da, hda⟩ : ∃ x, (d.map u8v).toArray = x := ⟨_, rfl⟩
  rw [hda, hra] at heq
  rw [hla] at HC
  rw [hda] at HCV
  rw [hra, hla]
  have HSZ := hide (show ra.size = 16 ∧ la.size = 16 ∧ da.size = 16 ∧ da.all (·.oneCell') = true from by rw [← hra, ← hla, ← hda]; exact ⟨by simpa using hr, by simpa using hl, by simpa using hld, bytes_one _⟩)
  have hi0 : ¬ (i : Int) < 0 := by omega
  have hin : ¬ (n : Int) ≤ (i : Int) := by omega
  obtain ⟨q, hq⟩ : ∃ q, decide (d = root) = q := ⟨_, rfl⟩
  rw [hq] at heq HV
  generalize ps.length = m at *
  clear hD hres hra hla hda hd hok hq h hr hl hld
  go_enter Tryz.func42, Tryz.ntmps42
  cases ok
  · obtain rfl : res = false := by have := unhide HV; simpa using this.symm
    go_wp2_with (first
      | (refine wpList_loadB (ty := 23) (t := 23) (x := .tmp 8) rfl rfl digest_wide rfl (cs := la) (Blk.new' _ _ _ (by simp)) (unhide HSZ).2.1 ?_)
      | (go_at_call 84; refine (unhide HC _ (((Ext.refl w).alloc _).alloc _)).mono ?_; rintro e w5 ⟨rfl, hE5⟩; rw [unhide HCV]; have H5 := hide (And.intro ((((Ext.refl w).alloc _).alloc _).trans hE5) (((Blk.new w 23 ra).alloc _).ext hE5)); clear hE5)
      | (refine wpList_storeB (ty := 23) (t := 23) (x := .tmp 11) (y := .tmp 26) rfl rfl digest_wide rfl rfl (Blk.new w5 _ _) rfl (unhide HSZ).2.2.1 (unhide HSZ).2.2.2 ?_; intro w7 hb7 hc7 hz7; have H7 := hide (And.intro hb7 (made_ext1 hc7)); clear hb7 hc7 hz7)
      | (refine wpList_loadBG (by rfl) (ty := 23) (x := .tmp 11) rfl digest_wide rfl (unhide H7).1 (unhide HSZ).2.2.1 ?_)
      | (refine wpList_loadBG (by rfl) (ty := 23) (x := .tmp 5) rfl digest_wide rfl ((unhide H5).2.ext (unhide H7).2) (unhide HSZ).1 ?_))
    go_ret
    exact ⟨rfl, (unhide H5).1.trans (unhide H7).2⟩
  · obtain rfl : res = q := by have := unhide HV; simpa using this.symm
    go_wp2_with (first
      | (refine wpList_loadB (ty := 23) (t := 23) (x := .tmp 8) rfl rfl digest_wide rfl (cs := la) (Blk.new' _ _ _ (by simp)) (unhide HSZ).2.1 ?_)
      | (go_at_call 84; refine (unhide HC _ (((Ext.refl w).alloc _).alloc _)).mono ?_; rintro e w5 ⟨rfl, hE5⟩; rw [unhide HCV]; have H5 := hide (And.intro ((((Ext.refl w).alloc _).alloc _).trans hE5) (((Blk.new w 23 ra).alloc _).ext hE5)); clear hE5)
      | (refine wpList_storeB (ty := 23) (t := 23) (x := .tmp 11) (y := .tmp 26) rfl rfl digest_wide rfl rfl (Blk.new w5 _ _) rfl (unhide HSZ).2.2.1 (unhide HSZ).2.2.2 ?_; intro w7 hb7 hc7 hz7; have H7 := hide (And.intro hb7 (made_ext1 hc7)); clear hb7 hc7 hz7)
      | (refine wpList_loadBG (by rfl) (ty := 23) (x := .tmp 11) rfl digest_wide rfl (unhide H7).1 (unhide HSZ).2.2.1 ?_)
      | (refine wpList_loadBG (by rfl) (ty := 23) (x := .tmp 5) rfl digest_wide rfl ((unhide H5).2.ext (unhide H7).2) (unhide HSZ).1 ?_))
    go_ret
    exact ⟨rfl, (unhide H5).1.trans (unhide H7).2⟩
end Go.Proofs.YtplkplegjoabgaaGreatDoor


namespace Go.Proofs.YtplkplegjoabgaaGreatDoor
open Go.RowKit
set_option maxRecDepth 100000 in
set_option maxHeartbeats 4000000 in
theorem rtver_neg (ra ma : Array Value) (h index : Int) (cv pv : Value) (w : World) (hi : index < 0) :
    Calls Tryz.prog 17 #[.agg ra, .int .i64 h, .agg ma, .agg #[.int .i64 index, cv, pv]] w fun e w' => e = .returned (.bool false) ∧ Ext w w' := by
  have HS := hide (VI.start w ra ma index cv pv)
  have hd : decide (index < 0) = true := decide_eq_true hi
  have HF : Hid (∀ W, VI w ra ma index cv pv W → W.cell? ⟨w.heap.size + 1 + 1, 0, none⟩ = some (.int .i64 index)) := hide (fun W hW => hW.cells.1)
  clear hi
  go_enter Tryz.func17, Tryz.ntmps17
  go_upto_region 1 with fail
  refine wp_region_held_drew (S := fun W => VI w ra ma index cv pv W) (by kernel_rfl) ((unhide HS).to (Ext.refl _).drew) (fun hHeld => ?_)
  refine wpAnyH_take (i := 0) (oi := _) (v := ?_) rfl (by kernel_rfl) (by kernel_rfl) (by kernel_rfl) (fun _ _ _ h => h) (Or.inl ⟨by rfl, fun wz hSz => ?_⟩) (by assumption) ?_
  rotate_left
  · (first | (go_simp; done) | (go_simp; with_reducible rfl) | (obtain f1 := (unhide HF) wz hSz; clear hSz; first | (go_simp; done) | (go_simp; with_reducible rfl)))
  try simp only [Act.put, List.setIfInBounds_toArray, List.set_cons_zero, List.set_cons_succ, List.getElem_toArray, List.getElem_cons_zero]
  refine wpAnyH_take (i := 1) (oi := _) (v := ?_) rfl (by kernel_rfl) (by kernel_rfl) (by kernel_rfl) (fun _ _ _ h => h) (Or.inl ⟨by rfl, fun wz hSz => ?_⟩) (by assumption) ?_
  rotate_left
  · (first | (go_simp; done) | (go_simp; with_reducible rfl) | (obtain f1 := (unhide HF) wz hSz; clear hSz; first | (go_simp; done) | (go_simp; with_reducible rfl)))
  try simp only [Act.put, List.setIfInBounds_toArray, List.set_cons_zero, List.set_cons_succ, List.getElem_toArray, List.getElem_cons_succ, List.getElem_cons_zero]
  refine wpAnyH_take (i := 2) (oi := _) (v := ?_) rfl (by kernel_rfl) (by kernel_rfl) (by kernel_rfl) (fun _ _ _ h => h) (Or.inl ⟨by rfl, fun wz hSz => ?_⟩) (by assumption) ?_
  rotate_left
  · (first | (go_simp; done) | (go_simp; with_reducible rfl) | (obtain f1 := (unhide HF) wz hSz; clear hSz; first | (go_simp; done) | (go_simp; with_reducible rfl)))
  try simp only [Act.put, List.setIfInBounds_toArray, List.set_cons_zero, List.set_cons_succ, List.getElem_toArray, List.getElem_cons_succ, List.getElem_cons_zero]
  refine wpAnyH_take (i := 3) (oi := _) (v := ?_) rfl (by kernel_rfl) (by kernel_rfl) (by kernel_rfl) (fun _ _ _ h => h) (Or.inl ⟨by rfl, fun wz hSz => ?_⟩) (by assumption) ?_
  rotate_left
  · (first | (go_simp; done) | (go_simp; with_reducible rfl) | (obtain f1 := (unhide HF) wz hSz; clear hSz; first | (go_simp; done) | (go_simp; with_reducible rfl)))
  try simp only [Act.put, List.setIfInBounds_toArray, List.set_cons_zero, List.set_cons_succ, List.getElem_toArray, List.getElem_cons_succ, List.getElem_cons_zero]
  refine wpAnyH_take (i := 4) (oi := _) (v := undef) rfl (by kernel_rfl) (by kernel_rfl) (by kernel_rfl) (fun _ _ _ h => h) (Or.inr ⟨by rfl, rfl⟩) (by assumption) ?_
  try simp only [Act.put, List.setIfInBounds_toArray, List.set_cons_zero, List.set_cons_succ, List.getElem_toArray, List.getElem_cons_succ, List.getElem_cons_zero]
  refine wpAnyH_take (i := 5) (oi := _) (v := undef) rfl (by kernel_rfl) (by kernel_rfl) (by kernel_rfl) (fun _ _ _ h => h) (Or.inr ⟨by rfl, rfl⟩) (by assumption) ?_
  try simp only [Act.put, List.setIfInBounds_toArray, List.set_cons_zero, List.set_cons_succ, List.getElem_toArray, List.getElem_cons_succ, List.getElem_cons_zero]
  refine wpAnyH_take (i := 6) (oi := _) (v := undef) rfl (by kernel_rfl) (by kernel_rfl) (by kernel_rfl) (fun _ _ _ h => h) (Or.inr ⟨by rfl, rfl⟩) (by assumption) ?_
  try simp only [Act.put, List.setIfInBounds_toArray, List.set_cons_zero, List.set_cons_succ, List.getElem_toArray, List.getElem_cons_succ, List.getElem_cons_zero]
  refine wpAnyH_take (i := 7) (oi := _) (v := undef) rfl (by kernel_rfl) (by kernel_rfl) (by kernel_rfl) (fun _ _ _ h => h) (Or.inr ⟨by rfl, rfl⟩) (by assumption) ?_
  try simp only [Act.put, List.setIfInBounds_toArray, List.set_cons_zero, List.set_cons_succ, List.getElem_toArray, List.getElem_cons_succ, List.getElem_cons_zero]
  refine wpAnyH_take (i := 8) (oi := _) (v := undef) rfl (by kernel_rfl) (by kernel_rfl) (by kernel_rfl) (fun _ _ _ h => h) (Or.inr ⟨by rfl, rfl⟩) (by assumption) ?_
  try simp only [Act.put, List.setIfInBounds_toArray, List.set_cons_zero, List.set_cons_succ, List.getElem_toArray, List.getElem_cons_succ, List.getElem_cons_zero]
  refine wpAnyH_take (i := 9) (oi := _) (v := ?_) rfl (by kernel_rfl) (by kernel_rfl) (by kernel_rfl) (fun _ _ _ h => h) (Or.inl ⟨by rfl, fun wz hSz => ?_⟩) (by assumption) ?_
  rotate_left
  · (first | (go_simp; done) | (go_simp; with_reducible rfl) | (obtain f1 := (unhide HF) wz hSz; clear hSz; first | (go_simp; done) | (go_simp; with_reducible rfl)))
  try simp only [Act.put, List.setIfInBounds_toArray, List.set_cons_zero, List.set_cons_succ, List.getElem_toArray, List.getElem_cons_succ, List.getElem_cons_zero]
  refine wpAnyH_done (by kernel_rfl) ?_ _
  have H9 := hide hHeld.ext
  clear hHeld
  go_wp2
  go_ret
  exact ⟨rfl, unhide H9⟩
set_option maxRecDepth 100000 in
set_option maxHeartbeats 4000000 in
theorem rtver_height (ra ma : Array Value) (h index : Int) (cv pv : Value) (w : World) (hh : ¬ okH h) (h0 : 0 ≤ index) :
    Calls Tryz.prog 17 #[.agg ra, .int .i64 h, .agg ma, .agg #[.int .i64 index, cv, pv]] w fun e w' => e = .returned (.bool false) ∧ Ext w w' := by
  have HV := hide (fun W => many_no h W hh)
  have HS := hide (VI.start w ra ma index cv pv)
  have hd : decide (index < 0) = false := decide_eq_false (by omega)
  have hd2 : decide (0 ≤ index) = true := decide_eq_true h0
  have HF : Hid (∀ W, VI w ra ma index cv pv W → W.cell? ⟨w.heap.size + 1 + 1, 0, none⟩ = some (.int .i64 index)) := hide (fun W hW => hW.cells.1)
  clear hh
  go_enter Tryz.func17, Tryz.ntmps17
  go_upto_region 1 with fail
  refine wp_region_held_drew (S := fun W => VI w ra ma index cv pv W) (by kernel_rfl) ((unhide HS).to (Ext.refl _).drew) (fun hHeld => ?_)
  refine wpAnyH_take (i := 0) (oi := _) (v := ?_) rfl (by kernel_rfl) (by kernel_rfl) (by kernel_rfl) (fun _ _ _ h => h) (Or.inl ⟨by rfl, fun wz hSz => ?_⟩) (by assumption) ?_
  rotate_left
  · (first | (go_simp; done) | (go_simp; with_reducible rfl) | (obtain f1 := (unhide HF) wz hSz; clear hSz; first | (go_simp; done) | (go_simp; with_reducible rfl)))
  try simp only [Act.put, List.setIfInBounds_toArray, List.set_cons_zero, List.set_cons_succ, List.getElem_toArray, List.getElem_cons_zero]
  refine wpAnyH_take (i := 1) (oi := _) (v := ?_) rfl (by kernel_rfl) (by kernel_rfl) (by kernel_rfl) (fun _ _ _ h => h) (Or.inl ⟨by rfl, fun wz hSz => ?_⟩) (by assumption) ?_
  rotate_left
  · (first | (go_simp; done) | (go_simp; with_reducible rfl) | (obtain f1 := (unhide HF) wz hSz; clear hSz; first | (go_simp; done) | (go_simp; with_reducible rfl)))
  try simp only [Act.put, List.setIfInBounds_toArray, List.set_cons_zero, List.set_cons_succ, List.getElem_toArray, List.getElem_cons_succ, List.getElem_cons_zero]
  refine wpAnyH_take (i := 2) (oi := _) (v := ?_) rfl (by kernel_rfl) (by kernel_rfl) (by kernel_rfl) (fun _ _ _ h => h) (Or.inl ⟨by rfl, fun wz hSz => ?_⟩) (by assumption) ?_
  rotate_left
  · (first | (go_simp; done) | (go_simp; with_reducible rfl) | (obtain f1 := (unhide HF) wz hSz; clear hSz; first | (go_simp; done) | (go_simp; with_reducible rfl)))
  try simp only [Act.put, List.setIfInBounds_toArray, List.set_cons_zero, List.set_cons_succ, List.getElem_toArray, List.getElem_cons_succ, List.getElem_cons_zero]
  refine wpAnyH_take (i := 3) (oi := _) (v := ?_) rfl (by kernel_rfl) (by kernel_rfl) (by kernel_rfl) (fun _ _ _ h => h) (Or.inl ⟨by rfl, fun wz hSz => ?_⟩) (by assumption) ?_
  rotate_left
  · (first | (go_simp; done) | (go_simp; with_reducible rfl) | (obtain f1 := (unhide HF) wz hSz; clear hSz; first | (go_simp; done) | (go_simp; with_reducible rfl)))
  try simp only [Act.put, List.setIfInBounds_toArray, List.set_cons_zero, List.set_cons_succ, List.getElem_toArray, List.getElem_cons_succ, List.getElem_cons_zero]
  refine wpAnyH_take (i := 4) (oi := _) (v := ?_) rfl (by kernel_rfl) (by kernel_rfl) (by kernel_rfl) (fun _ _ _ h => h) (Or.inl ⟨by rfl, fun wz hSz => ?_⟩) (by assumption) ?_
  rotate_left
  · (first | (go_simp; done) | (go_simp; with_reducible rfl) | (obtain f1 := (unhide HF) wz hSz; clear hSz; first | (go_simp; done) | (go_simp; with_reducible rfl)))
  try simp only [Act.put, List.setIfInBounds_toArray, List.set_cons_zero, List.set_cons_succ, List.getElem_toArray, List.getElem_cons_succ, List.getElem_cons_zero]
  refine wpAnyH_take (i := 5) (oi := _) (v := ?_) rfl (by kernel_rfl) (by kernel_rfl) (by kernel_rfl) (fun _ _ _ h => h) (Or.inl ⟨by rfl, fun wz hSz => ?_⟩) (by assumption) ?_
  rotate_left
  · (first | (go_simp; done) | (go_simp; with_reducible rfl) | (obtain f1 := (unhide HF) wz hSz; clear hSz; first | (go_simp; done) | (go_simp; with_reducible rfl)))
  try simp only [Act.put, List.setIfInBounds_toArray, List.set_cons_zero, List.set_cons_succ, List.getElem_toArray, List.getElem_cons_succ, List.getElem_cons_zero]
  refine wpAnyH_take (i := 6) (oi := _) (v := ?_) rfl (by kernel_rfl) (by kernel_rfl) (by kernel_rfl) (fun _ _ _ h => h) (Or.inl ⟨by rfl, fun wz hSz => ?_⟩) (by assumption) ?_
  rotate_left
  · (first | (go_simp; done) | (go_simp; with_reducible rfl) | (obtain f1 := (unhide HF) wz hSz; clear hSz; first | (go_simp; done) | (go_simp; with_reducible rfl)))
  try simp only [Act.put, List.setIfInBounds_toArray, List.set_cons_zero, List.set_cons_succ, List.getElem_toArray, List.getElem_cons_succ, List.getElem_cons_zero]
  refine wpAnyH_ready (rs := [7]) (by kernel_rfl) (by simp) (AllReadyH.cons (o := _) rfl (fun K hK => ?_) AllReadyH.nil)
  try go_simp
  (refine (unhide HV _).mono ?_; rintro e w3 ⟨rfl, rfl⟩; have hS := hHeld; clear hHeld)
  refine hK.out _ _ ?_ (fun hHeld => ?_)
  · exact hS
  clear hK K
  try simp only [Act.put, List.setIfInBounds_toArray, List.set_cons_zero, List.set_cons_succ, List.getElem_toArray, List.getElem_cons_succ, List.getElem_cons_zero]
  refine wpAnyH_take (i := 8) (oi := _) (v := ?_) rfl (by kernel_rfl) (by kernel_rfl) (by kernel_rfl) (fun _ _ _ h => h) (Or.inl ⟨by rfl, fun wz hSz => ?_⟩) (by assumption) ?_
  rotate_left
  · (first | (go_simp; done) | (go_simp; with_reducible rfl) | (obtain f1 := (unhide HF) wz hSz; clear hSz; first | (go_simp; done) | (go_simp; with_reducible rfl)))
  try simp only [Act.put, List.setIfInBounds_toArray, List.set_cons_zero, List.set_cons_succ, List.getElem_toArray, List.getElem_cons_succ, List.getElem_cons_zero]
  refine wpAnyH_take (i := 9) (oi := _) (v := ?_) rfl (by kernel_rfl) (by kernel_rfl) (by kernel_rfl) (fun _ _ _ h => h) (Or.inl ⟨by rfl, fun wz hSz => ?_⟩) (by assumption) ?_
  rotate_left
  · (first | (go_simp; done) | (go_simp; with_reducible rfl) | (obtain f1 := (unhide HF) wz hSz; clear hSz; first | (go_simp; done) | (go_simp; with_reducible rfl)))
  try simp only [Act.put, List.setIfInBounds_toArray, List.set_cons_zero, List.set_cons_succ, List.getElem_toArray, List.getElem_cons_succ, List.getElem_cons_zero]
  refine wpAnyH_done (by kernel_rfl) ?_ _
  have H9 := hide hHeld.ext
  clear hHeld
  go_wp2
  go_ret
  exact ⟨rfl, unhide H9⟩
set_option maxRecDepth 100000 in
set_option maxHeartbeats 4000000 in
theorem rtver_big (ra ma : Array Value) (h n : Nat) (hn : n = 2 ^ h) (hh : h ≤ 4) (index : Int) (cv pv : Value) (w : World) (hi : (n : Int) ≤ index) :
    Calls Tryz.prog 17 #[.agg ra, .int .i64 (h : Int), .agg ma, .agg #[.int .i64 index, cv, pv]] w fun e w' => e = .returned (.bool false) ∧ Ext w w' := by
  have HV := hide (fun W => many_yes h n hn hh W)
  have HS := hide (VI.start w ra ma index cv pv)
  have hd : decide (index < 0) = false := decide_eq_false (by omega)
  have hd2 : decide ((n : Int) ≤ index) = true := decide_eq_true hi
  have HF : Hid (∀ W, VI w ra ma index cv pv W → W.cell? ⟨w.heap.size + 1 + 1, 0, none⟩ = some (.int .i64 index)) := hide (fun W hW => hW.cells.1)
  clear hn hi
  go_enter Tryz.func17, Tryz.ntmps17
  go_upto_region 1 with fail
  refine wp_region_held_drew (S := fun W => VI w ra ma index cv pv W) (by kernel_rfl) ((unhide HS).to (Ext.refl _).drew) (fun hHeld => ?_)
  refine wpAnyH_take (i := 0) (oi := _) (v := ?_) rfl (by kernel_rfl) (by kernel_rfl) (by kernel_rfl) (fun _ _ _ h => h) (Or.inl ⟨by rfl, fun wz hSz => ?_⟩) (by assumption) ?_
  rotate_left
  · (first | (go_simp; done) | (go_simp; with_reducible rfl) | (obtain f1 := (unhide HF) wz hSz; clear hSz; first | (go_simp; done) | (go_simp; with_reducible rfl)))
  try simp only [Act.put, List.setIfInBounds_toArray, List.set_cons_zero, List.set_cons_succ, List.getElem_toArray, List.getElem_cons_zero]
  refine wpAnyH_take (i := 1) (oi := _) (v := ?_) rfl (by kernel_rfl) (by kernel_rfl) (by kernel_rfl) (fun _ _ _ h => h) (Or.inl ⟨by rfl, fun wz hSz => ?_⟩) (by assumption) ?_
  rotate_left
  · (first | (go_simp; done) | (go_simp; with_reducible rfl) | (obtain f1 := (unhide HF) wz hSz; clear hSz; first | (go_simp; done) | (go_simp; with_reducible rfl)))
  try simp only [Act.put, List.setIfInBounds_toArray, List.set_cons_zero, List.set_cons_succ, List.getElem_toArray, List.getElem_cons_succ, List.getElem_cons_zero]
  refine wpAnyH_take (i := 2) (oi := _) (v := ?_) rfl (by kernel_rfl) (by kernel_rfl) (by kernel_rfl) (fun _ _ _ h => h) (Or.inl ⟨by rfl, fun wz hSz => ?_⟩) (by assumption) ?_
  rotate_left
  · (first | (go_simp; done) | (go_simp; with_reducible rfl) | (obtain f1 := (unhide HF) wz hSz; clear hSz; first | (go_simp; done) | (go_simp; with_reducible rfl)))
  try simp only [Act.put, List.setIfInBounds_toArray, List.set_cons_zero, List.set_cons_succ, List.getElem_toArray, List.getElem_cons_succ, List.getElem_cons_zero]
  refine wpAnyH_take (i := 3) (oi := _) (v := ?_) rfl (by kernel_rfl) (by kernel_rfl) (by kernel_rfl) (fun _ _ _ h => h) (Or.inl ⟨by rfl, fun wz hSz => ?_⟩) (by assumption) ?_
  rotate_left
  · (first | (go_simp; done) | (go_simp; with_reducible rfl) | (obtain f1 := (unhide HF) wz hSz; clear hSz; first | (go_simp; done) | (go_simp; with_reducible rfl)))
  try simp only [Act.put, List.setIfInBounds_toArray, List.set_cons_zero, List.set_cons_succ, List.getElem_toArray, List.getElem_cons_succ, List.getElem_cons_zero]
  refine wpAnyH_take (i := 4) (oi := _) (v := ?_) rfl (by kernel_rfl) (by kernel_rfl) (by kernel_rfl) (fun _ _ _ h => h) (Or.inl ⟨by rfl, fun wz hSz => ?_⟩) (by assumption) ?_
  rotate_left
  · (first | (go_simp; done) | (go_simp; with_reducible rfl) | (obtain f1 := (unhide HF) wz hSz; clear hSz; first | (go_simp; done) | (go_simp; with_reducible rfl)))
  try simp only [Act.put, List.setIfInBounds_toArray, List.set_cons_zero, List.set_cons_succ, List.getElem_toArray, List.getElem_cons_succ, List.getElem_cons_zero]
  refine wpAnyH_take (i := 5) (oi := _) (v := ?_) rfl (by kernel_rfl) (by kernel_rfl) (by kernel_rfl) (fun _ _ _ h => h) (Or.inl ⟨by rfl, fun wz hSz => ?_⟩) (by assumption) ?_
  rotate_left
  · (first | (go_simp; done) | (go_simp; with_reducible rfl) | (obtain f1 := (unhide HF) wz hSz; clear hSz; first | (go_simp; done) | (go_simp; with_reducible rfl)))
  try simp only [Act.put, List.setIfInBounds_toArray, List.set_cons_zero, List.set_cons_succ, List.getElem_toArray, List.getElem_cons_succ, List.getElem_cons_zero]
  refine wpAnyH_take (i := 6) (oi := _) (v := ?_) rfl (by kernel_rfl) (by kernel_rfl) (by kernel_rfl) (fun _ _ _ h => h) (Or.inl ⟨by rfl, fun wz hSz => ?_⟩) (by assumption) ?_
  rotate_left
  · (first | (go_simp; done) | (go_simp; with_reducible rfl) | (obtain f1 := (unhide HF) wz hSz; clear hSz; first | (go_simp; done) | (go_simp; with_reducible rfl)))
  try simp only [Act.put, List.setIfInBounds_toArray, List.set_cons_zero, List.set_cons_succ, List.getElem_toArray, List.getElem_cons_succ, List.getElem_cons_zero]
  refine wpAnyH_ready (rs := [7]) (by kernel_rfl) (by simp) (AllReadyH.cons (o := _) rfl (fun K hK => ?_) AllReadyH.nil)
  try go_simp
  (refine (unhide HV _).mono ?_; rintro e w3 ⟨rfl, rfl⟩; have hS := hHeld; clear hHeld)
  refine hK.out _ _ ?_ (fun hHeld => ?_)
  · exact hS
  clear hK K
  try simp only [Act.put, List.setIfInBounds_toArray, List.set_cons_zero, List.set_cons_succ, List.getElem_toArray, List.getElem_cons_succ, List.getElem_cons_zero]
  refine wpAnyH_take (i := 8) (oi := _) (v := ?_) rfl (by kernel_rfl) (by kernel_rfl) (by kernel_rfl) (fun _ _ _ h => h) (Or.inl ⟨by rfl, fun wz hSz => ?_⟩) (by assumption) ?_
  rotate_left
  · (first | (go_simp; done) | (go_simp; with_reducible rfl) | (obtain f1 := (unhide HF) wz hSz; clear hSz; first | (go_simp; done) | (go_simp; with_reducible rfl)))
  try simp only [Act.put, List.setIfInBounds_toArray, List.set_cons_zero, List.set_cons_succ, List.getElem_toArray, List.getElem_cons_succ, List.getElem_cons_zero]
  refine wpAnyH_take (i := 9) (oi := _) (v := ?_) rfl (by kernel_rfl) (by kernel_rfl) (by kernel_rfl) (fun _ _ _ h => h) (Or.inl ⟨by rfl, fun wz hSz => ?_⟩) (by assumption) ?_
  rotate_left
  · (first | (go_simp; done) | (go_simp; with_reducible rfl) | (obtain f1 := (unhide HF) wz hSz; clear hSz; first | (go_simp; done) | (go_simp; with_reducible rfl)))
  try simp only [Act.put, List.setIfInBounds_toArray, List.set_cons_zero, List.set_cons_succ, List.getElem_toArray, List.getElem_cons_succ, List.getElem_cons_zero]
  refine wpAnyH_done (by kernel_rfl) ?_ _
  have H9 := hide hHeld.ext
  clear hHeld
  go_wp2
  go_ret
  exact ⟨rfl, unhide H9⟩
set_option maxRecDepth 100000 in
set_option maxHeartbeats 4000000 in
theorem rtver_chain (root msg : List UInt8) (h n : Nat) (hn : n = 2 ^ h) (hh : h ≤ 4) (i : Nat) (hi : i < n) (hm : msg.length = 16) (chain : List (List UInt8)) (cv pv : Value) (w : World) (hDc : Digs w cv chain) (hc : ¬ chain.length = 68) :
    Calls Tryz.prog 17 #[.agg (root.map u8v).toArray, .int .i64 (h : Int), .agg (msg.map u8v).toArray, .agg #[.int .i64 (i : Int), cv, pv]] w fun e w' => e = .returned (.bool false) ∧ Ext w w' := by
  have HR := hide (fun W (hE : Ext w W) => rrecover_no msg chain cv W hc (hDc.ext hE))
  obtain ⟨ra, hra⟩ : ∃ x, (root.map u8v).toArray = x := ⟨_, rfl⟩
  obtain ⟨ma, hma⟩ : ∃ x, (msg.map u8v).toArray = x := ⟨_, rfl⟩
  rw [hma] at HR
  rw [hra, hma]
  have HSZ := hide (show ma.size = 16 from by rw [← hma]; simpa using hm)
  have HV := hide (fun W => many_yes h n hn hh W)
  have HS := hide (VI.start w ra ma (i : Int) cv pv)
  have hd : decide ((i : Int) < 0) = false := decide_eq_false (by omega)
  have hd2 : decide ((n : Int) ≤ (i : Int)) = false := decide_eq_false (by omega)
  have hd3 : decide (n ≤ i) = false := decide_eq_false (by omega)
  have HF : Hid (∀ W, VI w ra ma (i : Int) cv pv W → W.cell? ⟨w.heap.size + 1 + 1, 0, none⟩ = some (.int .i64 (i : Int))) := hide (fun W hW => hW.cells.1)
  have HZ16 := hide (show (z16.map u8v).toArray.size = 16 ∧ (z16.map u8v).toArray.all (·.oneCell') = true from ⟨rfl, bytes_one _⟩)
  obtain ⟨za, hza⟩ : ∃ x, (z16.map u8v).toArray = x := ⟨_, rfl⟩
  rw [hza] at HR HZ16
  clear hn hi hra hma hza hDc hc hm
  go_enter Tryz.func17, Tryz.ntmps17
  go_upto_region 1 with fail
  refine wp_region_held_drew (S := fun W => VI w ra ma (i : Int) cv pv W) (by kernel_rfl) ((unhide HS).to (Ext.refl _).drew) (fun hHeld => ?_)
  refine wpAnyH_take (i := 0) (oi := _) (v := ?_) rfl (by kernel_rfl) (by kernel_rfl) (by kernel_rfl) (fun _ _ _ h => h) (Or.inl ⟨by rfl, fun wz hSz => ?_⟩) (by assumption) ?_
  rotate_left
  · (first | (go_simp; done) | (go_simp; with_reducible rfl) | (obtain f1 := (unhide HF) wz hSz; clear hSz; first | (go_simp; done) | (go_simp; with_reducible rfl)))
  try simp only [Act.put, List.setIfInBounds_toArray, List.set_cons_zero, List.set_cons_succ, List.getElem_toArray, List.getElem_cons_zero]
  refine wpAnyH_take (i := 1) (oi := _) (v := ?_) rfl (by kernel_rfl) (by kernel_rfl) (by kernel_rfl) (fun _ _ _ h => h) (Or.inl ⟨by rfl, fun wz hSz => ?_⟩) (by assumption) ?_
  rotate_left
  · (first | (go_simp; done) | (go_simp; with_reducible rfl) | (obtain f1 := (unhide HF) wz hSz; clear hSz; first | (go_simp; done) | (go_simp; with_reducible rfl)))
  try simp only [Act.put, List.setIfInBounds_toArray, List.set_cons_zero, List.set_cons_succ, List.getElem_toArray, List.getElem_cons_succ, List.getElem_cons_zero]
  refine wpAnyH_take (i := 2) (oi := _) (v := ?_) rfl (by kernel_rfl) (by kernel_rfl) (by kernel_rfl) (fun _ _ _ h => h) (Or.inl ⟨by rfl, fun wz hSz => ?_⟩) (by assumption) ?_
  rotate_left
  · (first | (go_simp; done) | (go_simp; with_reducible rfl) | (obtain f1 := (unhide HF) wz hSz; clear hSz; first | (go_simp; done) | (go_simp; with_reducible rfl)))
  try simp only [Act.put, List.setIfInBounds_toArray, List.set_cons_zero, List.set_cons_succ, List.getElem_toArray, List.getElem_cons_succ, List.getElem_cons_zero]
  refine wpAnyH_take (i := 3) (oi := _) (v := ?_) rfl (by kernel_rfl) (by kernel_rfl) (by kernel_rfl) (fun _ _ _ h => h) (Or.inl ⟨by rfl, fun wz hSz => ?_⟩) (by assumption) ?_
  rotate_left
  · (first | (go_simp; done) | (go_simp; with_reducible rfl) | (obtain f1 := (unhide HF) wz hSz; clear hSz; first | (go_simp; done) | (go_simp; with_reducible rfl)))
  try simp only [Act.put, List.setIfInBounds_toArray, List.set_cons_zero, List.set_cons_succ, List.getElem_toArray, List.getElem_cons_succ, List.getElem_cons_zero]
  refine wpAnyH_take (i := 4) (oi := _) (v := ?_) rfl (by kernel_rfl) (by kernel_rfl) (by kernel_rfl) (fun _ _ _ h => h) (Or.inl ⟨by rfl, fun wz hSz => ?_⟩) (by assumption) ?_
  rotate_left
  · (first | (go_simp; done) | (go_simp; with_reducible rfl) | (obtain f1 := (unhide HF) wz hSz; clear hSz; first | (go_simp; done) | (go_simp; with_reducible rfl)))
  try simp only [Act.put, List.setIfInBounds_toArray, List.set_cons_zero, List.set_cons_succ, List.getElem_toArray, List.getElem_cons_succ, List.getElem_cons_zero]
  refine wpAnyH_take (i := 5) (oi := _) (v := ?_) rfl (by kernel_rfl) (by kernel_rfl) (by kernel_rfl) (fun _ _ _ h => h) (Or.inl ⟨by rfl, fun wz hSz => ?_⟩) (by assumption) ?_
  rotate_left
  · (first | (go_simp; done) | (go_simp; with_reducible rfl) | (obtain f1 := (unhide HF) wz hSz; clear hSz; first | (go_simp; done) | (go_simp; with_reducible rfl)))
  try simp only [Act.put, List.setIfInBounds_toArray, List.set_cons_zero, List.set_cons_succ, List.getElem_toArray, List.getElem_cons_succ, List.getElem_cons_zero]
  refine wpAnyH_take (i := 6) (oi := _) (v := ?_) rfl (by kernel_rfl) (by kernel_rfl) (by kernel_rfl) (fun _ _ _ h => h) (Or.inl ⟨by rfl, fun wz hSz => ?_⟩) (by assumption) ?_
  rotate_left
  · (first | (go_simp; done) | (go_simp; with_reducible rfl) | (obtain f1 := (unhide HF) wz hSz; clear hSz; first | (go_simp; done) | (go_simp; with_reducible rfl)))
  try simp only [Act.put, List.setIfInBounds_toArray, List.set_cons_zero, List.set_cons_succ, List.getElem_toArray, List.getElem_cons_succ, List.getElem_cons_zero]
  refine wpAnyH_ready (rs := [7]) (by kernel_rfl) (by simp) (AllReadyH.cons (o := _) rfl (fun K hK => ?_) AllReadyH.nil)
  try go_simp
  (refine (unhide HV _).mono ?_; rintro e w3 ⟨rfl, rfl⟩; have hS := hHeld; clear hHeld)
  refine hK.out _ _ ?_ (fun hHeld => ?_)
  · exact hS
  clear hK K
  try simp only [Act.put, List.setIfInBounds_toArray, List.set_cons_zero, List.set_cons_succ, List.getElem_toArray, List.getElem_cons_succ, List.getElem_cons_zero]
  refine wpAnyH_take (i := 8) (oi := _) (v := ?_) rfl (by kernel_rfl) (by kernel_rfl) (by kernel_rfl) (fun _ _ _ h => h) (Or.inl ⟨by rfl, fun wz hSz => ?_⟩) (by assumption) ?_
  rotate_left
  · (first | (go_simp; done) | (go_simp; with_reducible rfl) | (obtain f1 := (unhide HF) wz hSz; clear hSz; first | (go_simp; done) | (go_simp; with_reducible rfl)))
  try simp only [Act.put, List.setIfInBounds_toArray, List.set_cons_zero, List.set_cons_succ, List.getElem_toArray, List.getElem_cons_succ, List.getElem_cons_zero]
  refine wpAnyH_take (i := 9) (oi := _) (v := ?_) rfl (by kernel_rfl) (by kernel_rfl) (by kernel_rfl) (fun _ _ _ h => h) (Or.inl ⟨by rfl, fun wz hSz => ?_⟩) (by assumption) ?_
  rotate_left
  · (first | (go_simp; done) | (go_simp; with_reducible rfl) | (obtain f1 := (unhide HF) wz hSz; clear hSz; first | (go_simp; done) | (go_simp; with_reducible rfl)))
  try simp only [Act.put, List.setIfInBounds_toArray, List.set_cons_zero, List.set_cons_succ, List.getElem_toArray, List.getElem_cons_succ, List.getElem_cons_zero]
  refine wpAnyH_done (by kernel_rfl) ?_ _
  have H1 := hide hHeld
  obtain ⟨f0, f1, f2⟩ := hHeld.cells
  clear hHeld
  go_wp2_with (first
    | (refine wpList_loadB (ty := 23) (t := 23) (x := .tmp 6) rfl rfl digest_wide rfl (cs := ma) (unhide H1).msg (unhide HSZ) ?_)
    | (go_at_call 41; refine (unhide HR _ (unhide H1).ext).mono ?_; rintro e w5 ⟨rfl, hE5⟩; have H5 := hide ((unhide H1).to hE5); clear hE5)
    | (refine wpList_storeB (ty := 23) (t := 23) (x := .tmp 9) (y := .tmp 26) rfl rfl digest_wide rfl rfl (Blk.new w5 _ _) rfl (unhide HZ16).1 (unhide HZ16).2 ?_; intro w7 hb7 hc7 hz7; have H7 := hide ((unhide H5).to (made_ext1 hc7)); clear hb7 hc7 hz7))
  go_ret
  exact ⟨rfl, (unhide H7).ext⟩
set_option maxRecDepth 100000 in
set_option maxHeartbeats 8000000 in
theorem rtver_in (root msg : List UInt8) (h n : Nat) (hn : n = 2 ^ h) (hh : h ≤ 4) (i : Nat) (hi : i < n) (chain path : List (List UInt8)) (cv pv : Value) (w : World) (hr : root.length = 16) (hm : msg.length = 16) (hDc : Digs w cv chain) (hDp : Digs w pv path) (hc : chain.length = 68) :
    Calls Tryz.prog 17 #[.agg (root.map u8v).toArray, .int .i64 (h : Int), .agg (msg.map u8v).toArray, .agg #[.int .i64 (i : Int), cv, pv]] w fun e w' => e = .returned (.bool (verifyS root n i (recoverS msg (chainAt chain)) path)) ∧ Ext w w' := by
  have hn16 : n ≤ 16 := by subst hn; exact pow_le16 h h (Nat.le_refl _) hh
  have hkl : (recoverS msg (chainAt chain)).length = 16 := digestS_length _ _
  have HR := hide (fun W (hE : Ext w W) => rrecover_yes msg chain cv W hm hc (hDc.ext hE))
  have HMV := hide (fun W (hE : Ext w W) => rmverify_in root (recoverS msg (chainAt chain)) n i path pv W hr hkl (by omega) (hDp.ext hE) hi)
  obtain ⟨res, hres⟩ : ∃ x, verifyS root n i (recoverS msg (chainAt chain)) path = x := ⟨_, rfl⟩
  rw [hres] at HMV ⊢
  obtain ⟨key, hkey⟩ : ∃ x, recoverS msg (chainAt chain) = x := ⟨_, rfl⟩
  rw [hkey] at HR HMV hkl
  obtain ⟨ra, hra⟩ : ∃ x, (root.map u8v).toArray = x := ⟨_, rfl⟩
  obtain ⟨ma, hma⟩ : ∃ x, (msg.map u8v).toArray = x := ⟨_, rfl⟩
  obtain ⟨ka, hka⟩ : ∃ x, (key.map u8v).toArray = x := ⟨_, rfl⟩
  have HSZ := hide (show ma.size = 16 ∧ ra.size = 16 ∧ ka.size = 16 ∧ ka.all (·.oneCell') = true from by rw [← hma, ← hra, ← hka]; exact ⟨by simpa using hm, by simpa using hr, by simpa using hkl, bytes_one _⟩)
  rw [hma, hka] at HR
  rw [hra, hka] at HMV
  rw [hra, hma]
  have HV := hide (fun W => many_yes h n hn hh W)
  have HS := hide (VI.start w ra ma (i : Int) cv pv)
  have hd : decide ((i : Int) < 0) = false := decide_eq_false (by omega)
  have hd2 : decide ((n : Int) ≤ (i : Int)) = false := decide_eq_false (by omega)
  have hd3 : decide (n ≤ i) = false := decide_eq_false (by omega)
  have HF : Hid (∀ W, VI w ra ma (i : Int) cv pv W → W.cell? ⟨w.heap.size + 1 + 1, 0, none⟩ = some (.int .i64 (i : Int))) := hide (fun W hW => hW.cells.1)
  clear hn hi hra hma hka hkey hres hDc hDp hc hm hr hkl
  go_enter Tryz.func17, Tryz.ntmps17
  go_upto_region 1 with fail
  refine wp_region_held_drew (S := fun W => VI w ra ma (i : Int) cv pv W) (by kernel_rfl) ((unhide HS).to (Ext.refl _).drew) (fun hHeld => ?_)
  refine wpAnyH_take (i := 0) (oi := _) (v := ?_) rfl (by kernel_rfl) (by kernel_rfl) (by kernel_rfl) (fun _ _ _ h => h) (Or.inl ⟨by rfl, fun wz hSz => ?_⟩) (by assumption) ?_
  rotate_left
  · (first | (go_simp; done) | (go_simp; with_reducible rfl) | (obtain f1 := (unhide HF) wz hSz; clear hSz; first | (go_simp; done) | (go_simp; with_reducible rfl)))
  try simp only [Act.put, List.setIfInBounds_toArray, List.set_cons_zero, List.set_cons_succ, List.getElem_toArray, List.getElem_cons_zero]
  refine wpAnyH_take (i := 1) (oi := _) (v := ?_) rfl (by kernel_rfl) (by kernel_rfl) (by kernel_rfl) (fun _ _ _ h => h) (Or.inl ⟨by rfl, fun wz hSz => ?_⟩) (by assumption) ?_
  rotate_left
  · (first | (go_simp; done) | (go_simp; with_reducible rfl) | (obtain f1 := (unhide HF) wz hSz; clear hSz; first | (go_simp; done) | (go_simp; with_reducible rfl)))
  try simp only [Act.put, List.setIfInBounds_toArray, List.set_cons_zero, List.set_cons_succ, List.getElem_toArray, List.getElem_cons_succ, List.getElem_cons_zero]
  refine wpAnyH_take (i := 2) (oi := _) (v := ?_) rfl (by kernel_rfl) (by kernel_rfl) (by kernel_rfl) (fun _ _ _ h => h) (Or.inl ⟨by rfl, fun wz hSz => ?_⟩) (by assumption) ?_
  rotate_left
  · (first | (go_simp; done) | (go_simp; with_reducible rfl) | (obtain f1 := (unhide HF) wz hSz; clear hSz; first | (go_simp; done) | (go_simp; with_reducible rfl)))
  try simp only [Act.put, List.setIfInBounds_toArray, List.set_cons_zero, List.set_cons_succ, List.getElem_toArray, List.getElem_cons_succ, List.getElem_cons_zero]
  refine wpAnyH_take (i := 3) (oi := _) (v := ?_) rfl (by kernel_rfl) (by kernel_rfl) (by kernel_rfl) (fun _ _ _ h => h) (Or.inl ⟨by rfl, fun wz hSz => ?_⟩) (by assumption) ?_
  rotate_left
  · (first | (go_simp; done) | (go_simp; with_reducible rfl) | (obtain f1 := (unhide HF) wz hSz; clear hSz; first | (go_simp; done) | (go_simp; with_reducible rfl)))
  try simp only [Act.put, List.setIfInBounds_toArray, List.set_cons_zero, List.set_cons_succ, List.getElem_toArray, List.getElem_cons_succ, List.getElem_cons_zero]
  refine wpAnyH_take (i := 4) (oi := _) (v := ?_) rfl (by kernel_rfl) (by kernel_rfl) (by kernel_rfl) (fun _ _ _ h => h) (Or.inl ⟨by rfl, fun wz hSz => ?_⟩) (by assumption) ?_
  rotate_left
  · (first | (go_simp; done) | (go_simp; with_reducible rfl) | (obtain f1 := (unhide HF) wz hSz; clear hSz; first | (go_simp; done) | (go_simp; with_reducible rfl)))
  try simp only [Act.put, List.setIfInBounds_toArray, List.set_cons_zero, List.set_cons_succ, List.getElem_toArray, List.getElem_cons_succ, List.getElem_cons_zero]
  refine wpAnyH_take (i := 5) (oi := _) (v := ?_) rfl (by kernel_rfl) (by kernel_rfl) (by kernel_rfl) (fun _ _ _ h => h) (Or.inl ⟨by rfl, fun wz hSz => ?_⟩) (by assumption) ?_
  rotate_left
  · (first | (go_simp; done) | (go_simp; with_reducible rfl) | (obtain f1 := (unhide HF) wz hSz; clear hSz; first | (go_simp; done) | (go_simp; with_reducible rfl)))
  try simp only [Act.put, List.setIfInBounds_toArray, List.set_cons_zero, List.set_cons_succ, List.getElem_toArray, List.getElem_cons_succ, List.getElem_cons_zero]
  refine wpAnyH_take (i := 6) (oi := _) (v := ?_) rfl (by kernel_rfl) (by kernel_rfl) (by kernel_rfl) (fun _ _ _ h => h) (Or.inl ⟨by rfl, fun wz hSz => ?_⟩) (by assumption) ?_
  rotate_left
  · (first | (go_simp; done) | (go_simp; with_reducible rfl) | (obtain f1 := (unhide HF) wz hSz; clear hSz; first | (go_simp; done) | (go_simp; with_reducible rfl)))
  try simp only [Act.put, List.setIfInBounds_toArray, List.set_cons_zero, List.set_cons_succ, List.getElem_toArray, List.getElem_cons_succ, List.getElem_cons_zero]
  refine wpAnyH_ready (rs := [7]) (by kernel_rfl) (by simp) (AllReadyH.cons (o := _) rfl (fun K hK => ?_) AllReadyH.nil)
  try go_simp
  (refine (unhide HV _).mono ?_; rintro e w3 ⟨rfl, rfl⟩; have hS := hHeld; clear hHeld)
  refine hK.out _ _ ?_ (fun hHeld => ?_)
  · exact hS
  clear hK K
  try simp only [Act.put, List.setIfInBounds_toArray, List.set_cons_zero, List.set_cons_succ, List.getElem_toArray, List.getElem_cons_succ, List.getElem_cons_zero]
  refine wpAnyH_take (i := 8) (oi := _) (v := ?_) rfl (by kernel_rfl) (by kernel_rfl) (by kernel_rfl) (fun _ _ _ h => h) (Or.inl ⟨by rfl, fun wz hSz => ?_⟩) (by assumption) ?_
  rotate_left
  · (first | (go_simp; done) | (go_simp; with_reducible rfl) | (obtain f1 := (unhide HF) wz hSz; clear hSz; first | (go_simp; done) | (go_simp; with_reducible rfl)))
  try simp only [Act.put, List.setIfInBounds_toArray, List.set_cons_zero, List.set_cons_succ, List.getElem_toArray, List.getElem_cons_succ, List.getElem_cons_zero]
  refine wpAnyH_take (i := 9) (oi := _) (v := ?_) rfl (by kernel_rfl) (by kernel_rfl) (by kernel_rfl) (fun _ _ _ h => h) (Or.inl ⟨by rfl, fun wz hSz => ?_⟩) (by assumption) ?_
  rotate_left
  · (first | (go_simp; done) | (go_simp; with_reducible rfl) | (obtain f1 := (unhide HF) wz hSz; clear hSz; first | (go_simp; done) | (go_simp; with_reducible rfl)))
  try simp only [Act.put, List.setIfInBounds_toArray, List.set_cons_zero, List.set_cons_succ, List.getElem_toArray, List.getElem_cons_succ, List.getElem_cons_zero]
  refine wpAnyH_done (by kernel_rfl) ?_ _
  have H1 := hide hHeld
  obtain ⟨f0, f1, f2⟩ := hHeld.cells
  clear hHeld HF
  go_upto_region 6 with (first
    | (refine wpList_loadB (ty := 23) (t := 23) (x := .tmp 6) rfl rfl digest_wide rfl (cs := ma) (unhide H1).msg (unhide HSZ).1 ?_)
    | (go_at_call 41; refine (unhide HR _ (unhide H1).ext).mono ?_; rintro e w5 ⟨rfl, hE5⟩; have H5 := hide ((unhide H1).to hE5); clear hE5)
    | (refine wpList_storeB (ty := 23) (t := 23) (x := .tmp 9) (y := .tmp 26) rfl rfl digest_wide rfl rfl (Blk.new w5 _ _) rfl (unhide HSZ).2.2.1 (unhide HSZ).2.2.2 ?_; intro w7 hb7 hc7 hz7; have H7 := hide (And.intro ((unhide H5).to (made_ext1 hc7)) hb7); clear hb7 hc7 hz7))
  have HF : Hid (∀ W, VI w ra ma (i : Int) cv pv W ∧ Blk W w5.heap.size 23 ka → W.cell? ⟨w.heap.size + 1 + 1, 0, none⟩ = some (.int .i64 (i : Int)) ∧ W.cell? ⟨w.heap.size + 1 + 1, 2, none⟩ = some pv) := hide (fun W hW => ⟨hW.1.cells.1, hW.1.cells.2.2⟩)
  clear f0 f1 f2
  refine wp_region_held_drew (S := fun W => VI w ra ma (i : Int) cv pv W ∧ Blk W w5.heap.size 23 ka) (by kernel_rfl) ⟨(unhide H7).1.to (Ext.refl _).drew, (unhide H7).2.drew⟩ (fun hHeld => ?_)
  refine wpAnyH_take (i := 0) (oi := _) (v := _) rfl (by kernel_rfl) (by kernel_rfl) (by kernel_rfl) (fun _ _ _ h => h) (ylb digest_wide rfl (by rfl) rfl (unhide HSZ).2.1 (fun w' hw => hw.1.root)) (by assumption) ?_
  try simp only [Act.put, List.setIfInBounds_toArray, List.set_cons_zero, List.set_cons_succ, List.getElem_toArray, List.getElem_cons_zero]
  refine wpAnyH_take (i := 1) (oi := _) (v := ?_) rfl (by kernel_rfl) (by kernel_rfl) (by kernel_rfl) (fun _ _ _ h => h) (Or.inl ⟨by rfl, fun wz hSz => ?_⟩) (by assumption) ?_
  rotate_left
  · (first | (go_simp; done) | (go_simp; with_reducible rfl) | (obtain ⟨f1, f2⟩ := (unhide HF) wz hSz; clear hSz; first | (go_simp; done) | (go_simp; with_reducible rfl)))
  try simp only [Act.put, List.setIfInBounds_toArray, List.set_cons_zero, List.set_cons_succ, List.getElem_toArray, List.getElem_cons_succ, List.getElem_cons_zero]
  refine wpAnyH_take (i := 3) (oi := _) (v := ?_) rfl (by kernel_rfl) (by kernel_rfl) (by kernel_rfl) (fun _ _ _ h => h) (Or.inl ⟨by rfl, fun wz hSz => ?_⟩) (by assumption) ?_
  rotate_left
  · (first | (go_simp; done) | (go_simp; with_reducible rfl) | (obtain ⟨f1, f2⟩ := (unhide HF) wz hSz; clear hSz; first | (go_simp; done) | (go_simp; with_reducible rfl)))
  try simp only [Act.put, List.setIfInBounds_toArray, List.set_cons_zero, List.set_cons_succ, List.getElem_toArray, List.getElem_cons_succ, List.getElem_cons_zero]
  refine wpAnyH_take (i := 4) (oi := _) (v := ?_) rfl (by kernel_rfl) (by kernel_rfl) (by kernel_rfl) (fun _ _ _ h => h) (Or.inl ⟨by rfl, fun wz hSz => ?_⟩) (by assumption) ?_
  rotate_left
  · (first | (go_simp; done) | (go_simp; with_reducible rfl) | (obtain ⟨f1, f2⟩ := (unhide HF) wz hSz; clear hSz; first | (go_simp; done) | (go_simp; with_reducible rfl)))
  try simp only [Act.put, List.setIfInBounds_toArray, List.set_cons_zero, List.set_cons_succ, List.getElem_toArray, List.getElem_cons_succ, List.getElem_cons_zero]
  refine wpAnyH_take (i := 5) (oi := _) (v := _) rfl (by kernel_rfl) (by kernel_rfl) (by kernel_rfl) (fun _ _ _ h => h) (ylb digest_wide rfl (by rfl) rfl (unhide HSZ).2.2.1 (fun w' hw => hw.2)) (by assumption) ?_
  try simp only [Act.put, List.setIfInBounds_toArray, List.set_cons_zero, List.set_cons_succ, List.getElem_toArray, List.getElem_cons_succ, List.getElem_cons_zero]
  refine wpAnyH_take (i := 6) (oi := _) (v := ?_) rfl (by kernel_rfl) (by kernel_rfl) (by kernel_rfl) (fun _ _ _ h => h) (Or.inl ⟨by rfl, fun wz hSz => ?_⟩) (by assumption) ?_
  rotate_left
  · (first | (go_simp; done) | (go_simp; with_reducible rfl) | (obtain ⟨f1, f2⟩ := (unhide HF) wz hSz; clear hSz; first | (go_simp; done) | (go_simp; with_reducible rfl)))
  try simp only [Act.put, List.setIfInBounds_toArray, List.set_cons_zero, List.set_cons_succ, List.getElem_toArray, List.getElem_cons_succ, List.getElem_cons_zero]
  refine wpAnyH_take (i := 7) (oi := _) (v := ?_) rfl (by kernel_rfl) (by kernel_rfl) (by kernel_rfl) (fun _ _ _ h => h) (Or.inl ⟨by rfl, fun wz hSz => ?_⟩) (by assumption) ?_
  rotate_left
  · (first | (go_simp; done) | (go_simp; with_reducible rfl) | (obtain ⟨f1, f2⟩ := (unhide HF) wz hSz; clear hSz; first | (go_simp; done) | (go_simp; with_reducible rfl)))
  try simp only [Act.put, List.setIfInBounds_toArray, List.set_cons_zero, List.set_cons_succ, List.getElem_toArray, List.getElem_cons_succ, List.getElem_cons_zero]
  refine wpAnyH_ready (rs := [2]) (by kernel_rfl) (by simp) (AllReadyH.cons (o := _) rfl (fun K hK => ?_) AllReadyH.nil)
  try go_simp
  (refine (unhide HV _).mono ?_; rintro e w3 ⟨rfl, rfl⟩; have hS := hHeld; clear hHeld)
  refine hK.out _ _ ?_ (fun hHeld => ?_)
  · exact hS
  clear hK K
  try simp only [Act.put, List.setIfInBounds_toArray, List.set_cons_zero, List.set_cons_succ, List.getElem_toArray, List.getElem_cons_succ, List.getElem_cons_zero]
  refine wpAnyH_ready (rs := [8]) (by kernel_rfl) (by simp) (AllReadyH.cons (o := _) rfl (fun K hK => ?_) AllReadyH.nil)
  try go_simp
  (refine (unhide HMV _ hHeld.1.ext).mono ?_; rintro e w8 ⟨rfl, hE8⟩; have hS := And.intro (hHeld.1.to hE8) (hHeld.2.ext hE8); clear hHeld hE8)
  refine hK.out _ _ ?_ (fun hHeld => ?_)
  · exact hS
  clear hK K
  try simp only [Act.put, List.setIfInBounds_toArray, List.set_cons_zero, List.set_cons_succ, List.getElem_toArray, List.getElem_cons_succ, List.getElem_cons_zero]
  refine wpAnyH_take (i := 9) (oi := _) (v := ?_) rfl (by kernel_rfl) (by kernel_rfl) (by kernel_rfl) (fun _ _ _ h => h) (Or.inl ⟨by rfl, fun wz hSz => ?_⟩) (by assumption) ?_
  rotate_left
  · (first | (go_simp; done) | (go_simp; with_reducible rfl) | (obtain ⟨f1, f2⟩ := (unhide HF) wz hSz; clear hSz; first | (go_simp; done) | (go_simp; with_reducible rfl)))
  try simp only [Act.put, List.setIfInBounds_toArray, List.set_cons_zero, List.set_cons_succ, List.getElem_toArray, List.getElem_cons_succ, List.getElem_cons_zero]
  refine wpAnyH_done (by kernel_rfl) ?_ _
  have H9 := hide hHeld.1.ext
  clear hHeld
  go_wp2
  go_ret
  exact ⟨rfl, unhide H9⟩
end Go.Proofs.YtplkplegjoabgaaGreatDoor


namespace Go.Proofs.YtplkplegjoabgaaGreatDoor.Pv
open Go.RowKit
structure Sig where
  index : Int
  chain : List (List UInt8)
  path : List (List UInt8)
  deriving Inhabited
structure Sgd where
  maker : Int
  sig : Sig
  deriving Inhabited
def sigPC (s : Sig) : List PC := [.lit (.int .i64 s.index), .sl 16 s.chain.length (digF s.chain), .sl 16 s.path.length (digF s.path)]
def verS (r : List UInt8) (h : Int) (m : List UInt8) (s : Sig) : Bool :=
  decide (0 ≤ h ∧ h ≤ 4 ∧ 0 ≤ s.index ∧ s.index.toNat < 2 ^ h.toNat ∧ s.chain.length = 68) && verifyS r (2 ^ h.toNat) s.index.toNat (recoverS m (chainAt s.chain)) s.path
def rootT (seed : List UInt8) (h : Int) : List UInt8 × Int := if 0 ≤ h ∧ h ≤ 4 then (rootS (leavesS seed (2 ^ h.toNat)), 0) else (z16, 1)
def sgnT (seed : List UInt8) (h i : Int) (m : List UInt8) : Sig × Int :=
  if ¬ (0 ≤ h ∧ h ≤ 4) ∨ i < 0 then (⟨0, [], []⟩, 1) else if i.toNat < 2 ^ h.toNat then (⟨i, signS seed i m 68, proveS (leavesS seed (2 ^ h.toNat)) i.toNat⟩, 0) else (⟨0, [], []⟩, 17)
theorem verS_no {r m : List UInt8} {h : Int} {s : Sig} (hn : ¬ (0 ≤ h ∧ h ≤ 4 ∧ 0 ≤ s.index ∧ s.index.toNat < 2 ^ h.toNat ∧ s.chain.length = 68)) : verS r h m s = false := by
  unfold verS; rw [decide_eq_false hn]; rfl
theorem verS_yes {r m : List UInt8} {k j : Nat} {s : Sig} (hk : k ≤ 4) (hi : s.index = (j : Int)) (hj : j < 2 ^ k) (hc : s.chain.length = 68) : verS r (k : Int) m s = verifyS r (2 ^ k) j (recoverS m (chainAt s.chain)) s.path := by
  unfold verS
  rw [hi]
  simp only [Int.toNat_natCast]
  rw [decide_eq_true ⟨by omega, by omega, by omega, hj, hc⟩]
  rfl
theorem rootT_len (seed : List UInt8) (h : Int) : (rootT seed h).1.length = 16 := by
  unfold rootT
  split
  · exact rootS_length _
  · rfl
theorem rtver_any (root msg : List UInt8) (h : Int) (s : Sig) (cv pv : Value) (w : World) (hM : ShaMem w) (hr : root.length = 16) (hm : msg.length = 16) (hDc : Digs w cv s.chain) (hDp : Digs w pv s.path) (hpl : s.path.length ≤ 1000) :
    Calls Tryz.prog 17 #[.agg (root.map u8v).toArray, .int .i64 h, .agg (msg.map u8v).toArray, .agg #[.int .i64 s.index, cv, pv]] w fun e w' => e = .returned (.bool (verS root h msg s)) ∧ Ext w w' := by
  have _ := hM
  have _ := hpl
  obtain ⟨i, chain, path⟩ := s
  by_cases hi : i < 0
  · rw [verS_no (fun hh => by have := hh.2.2.1; dsimp only at this; omega)]
    by_cases ho : okH h
    · exact rtver_neg _ _ h i cv pv w hi
    · exact rtver_neg _ _ h i cv pv w hi
  · by_cases ho : okH h
    · obtain ⟨k, rfl, hk⟩ := okH_cases h ho
      obtain ⟨j, rfl⟩ : ∃ j : Nat, i = (j : Int) := ⟨i.toNat, by omega⟩
      by_cases hj : j < 2 ^ k
      · by_cases hc : chain.length = 68
        · rw [verS_yes hk rfl hj hc]
          exact rtver_in root msg k _ rfl hk j hj chain path cv pv w hr hm hDc hDp hc
        · rw [verS_no (fun hh => hc hh.2.2.2.2)]
          exact rtver_chain root msg k _ rfl hk j hj hm chain cv pv w hDc hc
      · rw [verS_no (fun hh => hj (by have := hh.2.2.2.1; simp only [Int.toNat_natCast] at this; exact this))]
        exact rtver_big _ _ k _ rfl hk j cv pv w (by omega)
    · rw [verS_no (fun hh => ho ⟨hh.1, hh.2.1⟩)]
      exact rtver_height _ _ h i cv pv w ho (by omega)
theorem r_digs {C : Ctx} {v : Value} {l : List (List UInt8)} (h : Digs C.w v l) (hb : ∀ k, v.ownBlock = some k → C.ok k) : R C (.sl 16 l.length (digF l)) [v] :=
  .sl h.2 (fun g hg hl => ⟨hb g hg, h.2.own_lt (by omega) hl g hg⟩) (fun i hi => by
    rw [show dcells l = l.flatMap digCells from rfl, flat_win digCells 16 l (fun d hd => by simp [digCells, h.1 d hd]) i hi]
    unfold digF
    rw [List.getD_eq_getElem?_getD, List.getElem?_eq_getElem hi]
    have := RL.cons (C := C.cold) (R.bs (n := 16) (h.1 _ (List.getElem_mem hi))) RL.nil
    rw [List.append_nil] at this
    exact this)
def dgOf : PC → Option (Prop × List (List UInt8))
  | .sl 16 len f => some (IsDRow len f, rowD len f)
  | .lit (.slice none 0 0) => some (True, [])
  | _ => none
theorem dgOf_ok {C : Ctx} {c : PC} {xs : List Value} {p : Prop} {l : List (List UInt8)} (h : dgOf c = some (p, l)) (hp : p) (hr : R C c xs) : ∃ v, xs = [v] ∧ Digs C.w v l := by
  unfold dgOf at h
  split at h
  · rename_i len f
    cases h
    cases hr with
    | sl hr hb he =>
      obtain ⟨e1, e2⟩ := drow_cells hr.1 he hp
      refine ⟨_, rfl, e2, ?_⟩
      rw [← e1, rowD_length]
      exact hr
  · cases h
    cases hr
    exact ⟨_, rfl, D16.nil, Reads.nil _ 16⟩
  · cases h
theorem rv_dig16 {C : Ctx} {bs : List UInt8} {v : Value} (h : RV C (.w (.agg [.bs 16 bs])) v) : bs.length = 16 ∧ v = .agg (bs.map u8v).toArray := rv_dig h
def verG : List PV → Option (Prop × PV)
  | [.w (.agg [.bs 16 r]), .w (.one (.lit (.int .i64 h))), .w (.agg [.bs 16 m]), .w (.agg [.lit (.int .i64 i), cp, pp])] => (match dgOf cp, dgOf pp with
    | some (pc, c), some (pp, p) => some (pc ∧ pp ∧ p.length ≤ 1000, pvB (verS r h m ⟨i, c, p⟩))
    | _, _ => none)
  | _ => none
def rootG : List PV → Option (Prop × PV)
  | [.w (.agg [.bs 16 s]), .w (.one (.lit (.int .i64 h)))] => some (True, .tup [.agg [.bs 16 (rootT s h).1], .one (.lit (.int .i64 (rootT s h).2))])
  | _ => none
def signG : List PV → Option (Prop × PV)
  | [.w (.agg [.bs 16 s]), .w (.one (.lit (.int .i64 h))), .w (.one (.lit (.int .i64 i))), .w (.agg [.bs 16 m])] => some (True, .tup [.agg (sigPC (sgnT s h i m).1), .one (.lit (.int .i64 (sgnT s h i m).2))])
  | _ => none
set_option maxRecDepth 100000 in
theorem rtver_spec : SpecOk Tryz.prog ShaMem 17 (funSpec true verG) := by
  refine funSpec_ok (call_enters Tryz.func17 (by kernel_rfl) rfl) (fun xs p r hg hp w ok0 vs hI hv => ?_)
  unfold verG at hg
  split at hg
  · rename_i rt h m i cp pp
    split at hg
    · rename_i pc c pq q e1 e2
      cases hg
      obtain ⟨hp1, hp2, hp3⟩ := hp
      match vs, hv with
      | [v1, v2, v3, v4], ⟨k1, k2, k3, k4, _⟩ =>
        obtain ⟨l1, rfl⟩ := rv_dig16 k1
        obtain rfl := k2.lit_inv
        obtain ⟨l3, rfl⟩ := rv_dig16 k3
        cases k4 with
        | w k4 => cases k4 with
          | @agg _ cs k4 =>
            obtain ⟨cs⟩ := cs
            dsimp only at k4
            cases k4 with
            | cons a1 k4 => cases k4 with
              | cons a2 k4 => cases k4 with
                | cons a3 k4 =>
                  cases k4
                  obtain ⟨cv, rfl, d1⟩ := dgOf_ok e1 hp1 a2
                  obtain ⟨pv, rfl, d2⟩ := dgOf_ok e2 hp2 a3
                  cases a1
                  refine (rtver_any rt m h ⟨i, c, q⟩ cv pv w hI l1 l3 d1 d2 hp3).mono ?_
                  rintro e w' ⟨rfl, hE⟩
                  exact ⟨_, rfl, hE, .w (.one (.lit rfl))⟩
    · cases hg
  · cases hg
theorem rv_pair {C : Ctx} {l : List PC} {cs : Array Value} {n : Int} (h : RL C l cs.toList) : RV C (.tup [.agg l, .one (.lit (.int .i64 n))]) (.tuple #[.agg cs, .int .i64 n]) :=
  .tup rfl (fun i x hx => by
    match i, hx with
    | 0, hx => cases hx; exact ⟨_, rfl, .agg h⟩
    | 1, hx => cases hx; exact ⟨_, rfl, .one (.lit rfl)⟩
    | i + 2, hx => cases hx)
set_option maxRecDepth 100000 in
theorem rtroot_spec : SpecOk Tryz.prog ShaMem 14 (funSpec true rootG) := by
  refine funSpec_ok (call_enters Tryz.func14 (by kernel_rfl) rfl) (fun xs p r hg hp w ok0 vs hI hv => ?_)
  unfold rootG at hg
  split at hg
  · rename_i sd h
    cases hg
    match vs, hv with
    | [v1, v2], ⟨k1, k2, _⟩ =>
      obtain ⟨l1, rfl⟩ := rv_dig16 k1
      obtain rfl := k2.lit_inv
      have hlen := rootT_len sd h
      have key : Calls Tryz.prog 14 #[.agg (sd.map u8v).toArray, .int .i64 h] w fun e w' => e = .returned (.tuple #[.agg ((rootT sd h).1.map u8v).toArray, .int .i64 (rootT sd h).2]) ∧ Ext w w' := by
        by_cases ho : okH h
        · obtain ⟨k, rfl, hk⟩ := okH_cases h ho
          have e : rootT sd (k : Int) = (rootS (leavesS sd (2 ^ k)), 0) := by
            unfold rootT
            rw [if_pos ⟨by omega, by omega⟩, Int.toNat_natCast]
          rw [e]
          exact rtroot_yes sd k _ rfl hk w l1
        · have e : rootT sd h = (z16, 1) := by
            unfold rootT
            rw [if_neg (show ¬ (0 ≤ h ∧ h ≤ 4) from ho)]
          rw [e]
          exact rtroot_no sd h w ho
      refine key.mono ?_
      rintro e w' ⟨rfl, hE⟩
      refine ⟨_, rfl, hE, rv_pair ?_⟩
      have := RL.cons (C := { w := w', ok := fun b => (true = false ∧ ok0 b) ∨ w.heap.size ≤ b, env := fun _ => none }) (R.bs (n := 16) hlen) RL.nil
      rw [List.append_nil] at this
      exact this
  · cases hg
theorem sigPC_rl {C : Ctx} {i : Int} {cv pv : Value} {chain path : List (List UInt8)} (h1 : Digs C.w cv chain) (h2 : Digs C.w pv path) (h3 : ∀ k, cv.ownBlock = some k → C.ok k) (h4 : ∀ k, pv.ownBlock = some k → C.ok k) : RL C (sigPC ⟨i, chain, path⟩) [.int .i64 i, cv, pv] :=
  .cons (xs := [_]) (.lit rfl) (.cons (xs := [_]) (r_digs h1 h3) (.cons (xs := [_]) (r_digs h2 h4) .nil))
theorem sigPC_nil {C : Ctx} : RL C (sigPC ⟨0, [], []⟩) [.int .i64 0, .slice none 0 0, .slice none 0 0] :=
  sigPC_rl (Digs.nil _) (Digs.nil _) (fun _ h => by cases h) (fun _ h => by cases h)
end Go.Proofs.YtplkplegjoabgaaGreatDoor.Pv
