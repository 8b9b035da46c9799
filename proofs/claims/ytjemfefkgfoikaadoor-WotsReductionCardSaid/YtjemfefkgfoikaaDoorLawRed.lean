/-
  The law WotsReduction.
-/
import Derived.Test.YtjemfefkgfoikaaDoorSame
import Derived.Test.YtjemfefkgfoikaaDoorFacts
import Derived.Test.YtjemfefkgfoikaaDoorLawRedM
namespace Go.Proofs.YtjemfefkgfoikaaDoor
open Go.RowKit

set_option maxRecDepth 100000 in
set_option maxHeartbeats 16000000 in
theorem red_any (seed : List UInt8) (index : Int) (m : List UInt8) (c : List (List UInt8)) (cv : Value) (w : World) (hM : ShaMem w) (hv : seed.length = 16) (hm : m.length = 16) (h1 : -9223372036854775808 ≤ index) (h2 : index < 9223372036854775808) (hD : Digs w cv c) :
    Calls Tryd.prog 8 #[.agg (seed.map u8v).toArray, .int .i64 index, .agg (m.map u8v).toArray, cv] w fun e w' => e = .returned (.bool true) ∧ Ext w w' := by
  have HM := hide hM
  have HDD := hide hD
  obtain ⟨A, c', rfl, _, _⟩ := hD.form
  obtain ⟨sarr, hsarr⟩ : ∃ r, (seed.map u8v).toArray = r := ⟨_, rfl⟩
  obtain ⟨marr, hmarr⟩ : ∃ r, (m.map u8v).toArray = r := ⟨_, rfl⟩
  have HSZ := hide (show sarr.size = 16 ∧ marr.size = 16 from by rw [← hsarr, ← hmarr]; simp; omega)
  have HZ := hide (show (Ext w ((w.alloc (.cells sarr 23)).alloc (.cells marr 23)) ∧ Blk ((w.alloc (.cells sarr 23)).alloc (.cells marr 23)) w.heap.size 23 sarr ∧ Blk ((w.alloc (.cells sarr 23)).alloc (.cells marr 23)) (w.heap.size + 1) 23 marr) from ⟨((Ext.refl w).alloc _).alloc _, (Blk.new w _ _).alloc _, Blk.new' _ _ _ (by simp)⟩)
  have HSan := hide (fun W (hE : Ext w W) => sanity4_any W (hM.ext hE))
  by_cases hlen : c.length > 80
  · rw [hsarr, hmarr]
    have hlI : (80 : Int) < (c.length : Int) := by omega
    clear hM hsarr hmarr hD HDD
    generalize c.length = n at *
    go_enter Tryd.func8, Tryd.ntmps8
    go_wp2_with fail
    refine (unhide HSan _ (unhide HZ).1).mono ?_
    rintro e w2 ⟨rfl, hE2⟩
    have H2 := hide ((unhide HZ).1.trans hE2)
    clear hE2
    go_wp2
    go_ret
    exact ⟨rfl, unhide H2⟩
  have HDg := hide (fun W => digits_any m W hm)
  have HSg := hide (fun W (hE : Ext w W) => sign_any seed index m W (hM.ext hE) hv hm h1 h2)
  have hlI : ¬ (80 : Int) < (c.length : Int) := by omega
  have HP := hide (fun W (hE : Ext w W) => public_any seed index W (hM.ext hE) hv h1 h2)
  rw [hsarr, hmarr] at HSg
  rw [hmarr] at HDg
  rw [hsarr] at HP
  by_cases hc : c.length = 68
  · have HRc := hide (fun W (hE : Ext w W) => recover_yes m c _ W (hM.ext hE) hm hc (hD.ext hE))
    have hrl : (recoverS m (chainAt c)).length = 16 := digestS_length _ _
    have hpl : (publicS seed index).length = 16 := digestS_length _ _
    have hne := fun W => ne16 hrl hpl W
    obtain ⟨da, hda⟩ : ∃ r, ((recoverS m (chainAt c)).map u8v).toArray = r := ⟨_, rfl⟩
    obtain ⟨pa, hpa⟩ : ∃ r, ((publicS seed index).map u8v).toArray = r := ⟨_, rfl⟩
    have HDA := hide (show da.size = 16 ∧ da.all (·.oneCell') = true from by rw [← hda]; exact ⟨by simpa using hrl, bytes_one _⟩)
    rw [hda, hmarr] at HRc
    rw [hpa] at HP
    rw [hda, hpa] at hne
    rw [hsarr, hmarr]
    have HSm := hide (fun W (A2 : Option Addr) (c2 : Nat) (hE : Ext w W) (h2 : Digs W (.slice A2 68 c2) (signS seed index m 68)) => lsame_any c (signS seed index m 68) (.slice A c.length c') (.slice A2 68 c2) W (hD.ext hE) h2)
    rw [hc] at HRc HDD HSm hlI
    rw [hc]
    by_cases hsm : c = signS seed index m 68
    · rw [decide_eq_true hsm] at HSm
      clear hM hsarr hmarr hD hda hpa hlen hv hm h1 h2 hrl hpl hne
      go_enter Tryd.func8, Tryd.ntmps8
      go_upto_region 3 with fail
      generalize hW0 : ((w.alloc (.cells sarr 23)).alloc (.cells marr 23)) = W0 at *
      go_upto_region 8 with (first
        | (refine wpList_loadB (ty := 23) (t := 23) (x := .tmp 4) rfl rfl digest_wide rfl (unhide HZ).2.1 (unhide HSZ).1 ?_)
        | (refine wpList_loadB (ty := 23) (t := 23) (x := .tmp 6) rfl rfl digest_wide rfl (unhide HZ).2.2 (unhide HSZ).2 ?_)
        | (go_at_call 23; refine (unhide HSg _ (unhide HZ).1).mono ?_; rintro e w2 ⟨A2, c2, rfl, hG⟩; have H2 := hide (And.intro ((unhide HZ).1.trans hG.ext) (And.intro ((unhide HZ).2.1.ext hG.ext) (And.intro ((unhide HZ).2.2.ext hG.ext) hG.digs))); clear hG)
        | (refine wpList_loadB (ty := 23) (t := 23) (x := .tmp 6) rfl rfl digest_wide rfl (unhide H2).2.2.1 (unhide HSZ).2 ?_)
        | (go_at_call 18; refine (unhide HRc _ (unhide H2).1).mono ?_; rintro e w3 ⟨rfl, hE⟩; have H3 := hide (And.intro ((unhide H2).1.trans hE) (And.intro ((unhide H2).2.1.ext hE) (And.intro ((unhide H2).2.2.1.ext hE) ((unhide H2).2.2.2.ext hE)))); clear hE)
        | (refine wpList_storeB (ty := 23) (t := 23) (x := .tmp 10) (y := .tmp 32) rfl rfl digest_wide rfl rfl (Blk.new w3 _ _) rfl (unhide HDA).1 (unhide HDA).2 ?_; intro w4 hb4 hc4 hz4; have H4 := hide (And.intro (made_ext (unhide H3).1 hc4) (And.intro ((unhide H3).2.1.ext (made_ext1 hc4)) (And.intro ((unhide H3).2.2.1.ext (made_ext1 hc4)) (And.intro ((unhide H3).2.2.2.ext (made_ext1 hc4)) hb4)))); clear hb4 hc4 hz4)
        | (refine wpList_loadB (ty := 23) (t := 23) (x := .tmp 6) rfl rfl digest_wide rfl (unhide H4).2.2.1 (unhide HSZ).2 ?_)
        | (go_at_call 16; refine (unhide HDg _).mono ?_; rintro e w5 ⟨g, rfl, hb5, hg5, hE⟩; have H5 := hide (And.intro ((unhide H4).1.trans hE) (And.intro ((unhide H4).2.1.ext hE) (And.intro ((unhide H4).2.2.2.1.ext hE) (And.intro ((unhide H4).2.2.2.2.ext hE) hb5)))); clear hb5 hg5 hE))
      clear H2 H3 H4 hW0 HZ HDg HSg HRc
      refine wp_region_held_drew (S := fun W => Ext w5 W) (by kernel_rfl) ((Ext.refl _).drew) (fun hHeld => ?_)
      refine wpAnyH_take (i := 0) (oi := _) (v := ?_) rfl (by kernel_rfl) (by kernel_rfl) (by kernel_rfl) (fun _ _ _ h => h) (Or.inl ⟨by rfl, fun wz hSz => ?_⟩) (by assumption) ?_
      rotate_left
      · (first | (go_simp; done) | (go_simp; with_reducible rfl))
      try simp only [Act.put, List.setIfInBounds_toArray, List.set_cons_zero, List.set_cons_succ, List.getElem_toArray, List.getElem_cons_succ, List.getElem_cons_zero]
      refine wpAnyH_take (i := 1) (oi := _) (v := ?_) rfl (by kernel_rfl) (by kernel_rfl) (by kernel_rfl) (fun _ _ _ h => h) (Or.inl ⟨by rfl, fun wz hSz => ?_⟩) (by assumption) ?_
      rotate_left
      · (first | (go_simp; done) | (go_simp; with_reducible rfl))
      try simp only [Act.put, List.setIfInBounds_toArray, List.set_cons_zero, List.set_cons_succ, List.getElem_toArray, List.getElem_cons_succ, List.getElem_cons_zero]
      refine wpAnyH_take (i := 2) (oi := _) (v := ?_) rfl (by kernel_rfl) (by kernel_rfl) (by kernel_rfl) (fun _ _ _ h => h) (Or.inl ⟨by rfl, fun wz hSz => ?_⟩) (by assumption) ?_
      rotate_left
      · (first | (go_simp; done) | (go_simp; with_reducible rfl))
      try simp only [Act.put, List.setIfInBounds_toArray, List.set_cons_zero, List.set_cons_succ, List.getElem_toArray, List.getElem_cons_succ, List.getElem_cons_zero]
      refine wpAnyH_take (i := 3) (oi := _) (v := ?_) rfl (by kernel_rfl) (by kernel_rfl) (by kernel_rfl) (fun _ _ _ h => h) (Or.inl ⟨by rfl, fun wz hSz => ?_⟩) (by assumption) ?_
      rotate_left
      · (first | (go_simp; done) | (go_simp; with_reducible rfl))
      try simp only [Act.put, List.setIfInBounds_toArray, List.set_cons_zero, List.set_cons_succ, List.getElem_toArray, List.getElem_cons_succ, List.getElem_cons_zero]
      refine wpAnyH_take (i := 4) (oi := _) (v := ?_) rfl (by kernel_rfl) (by kernel_rfl) (by kernel_rfl) (fun _ _ _ h => h) (Or.inl ⟨by rfl, fun wz hSz => ?_⟩) (by assumption) ?_
      rotate_left
      · (first | (go_simp; done) | (go_simp; with_reducible rfl))
      try simp only [Act.put, List.setIfInBounds_toArray, List.set_cons_zero, List.set_cons_succ, List.getElem_toArray, List.getElem_cons_succ, List.getElem_cons_zero]
      refine wpAnyH_ready (rs := [5]) (by kernel_rfl) (by simp) (AllReadyH.cons (o := _) rfl (fun K hK => ?_) AllReadyH.nil)
      try go_simp
      (refine (unhide HSm _ _ _ ((unhide H5).1.trans hHeld) ((unhide H5).2.2.1.ext hHeld)).mono ?_; rintro e w6 ⟨rfl, hE⟩; have hS := Ext.trans hHeld hE; clear hE hHeld)
      refine hK.out _ _ ?_ (fun hHeld => ?_)
      · exact hS
      clear hK K
      try simp only [Act.put, List.setIfInBounds_toArray, List.set_cons_zero, List.set_cons_succ, List.getElem_toArray, List.getElem_cons_succ, List.getElem_cons_zero]
      refine wpAnyH_take (i := 6) (oi := _) (v := ?_) rfl (by kernel_rfl) (by kernel_rfl) (by kernel_rfl) (fun _ _ _ h => h) (Or.inl ⟨by rfl, fun wz hSz => ?_⟩) (by assumption) ?_
      rotate_left
      · (first | (go_simp; done) | (go_simp; with_reducible rfl))
      try simp only [Act.put, List.setIfInBounds_toArray, List.set_cons_zero, List.set_cons_succ, List.getElem_toArray, List.getElem_cons_succ, List.getElem_cons_zero]
      refine wpAnyH_take (i := 7) (oi := _) (v := ?_) rfl (by kernel_rfl) (by kernel_rfl) (by kernel_rfl) (fun _ _ _ h => h) (Or.inl ⟨by rfl, fun wz hSz => ?_⟩) (by assumption) ?_
      rotate_left
      · (first | (go_simp; done) | (go_simp; with_reducible rfl))
      try simp only [Act.put, List.setIfInBounds_toArray, List.set_cons_zero, List.set_cons_succ, List.getElem_toArray, List.getElem_cons_succ, List.getElem_cons_zero]
      refine wpAnyH_take (i := 8) (oi := _) (v := undef) rfl (by kernel_rfl) (by kernel_rfl) (by kernel_rfl) (fun _ _ _ h => h) (Or.inr ⟨by rfl, rfl⟩) (by assumption) ?_
      try simp only [Act.put, List.setIfInBounds_toArray, List.set_cons_zero, List.set_cons_succ, List.getElem_toArray, List.getElem_cons_succ, List.getElem_cons_zero]
      refine wpAnyH_take (i := 9) (oi := _) (v := undef) rfl (by kernel_rfl) (by kernel_rfl) (by kernel_rfl) (fun _ _ _ h => h) (Or.inr ⟨by rfl, rfl⟩) (by assumption) ?_
      try simp only [Act.put, List.setIfInBounds_toArray, List.set_cons_zero, List.set_cons_succ, List.getElem_toArray, List.getElem_cons_succ, List.getElem_cons_zero]
      refine wpAnyH_take (i := 10) (oi := _) (v := undef) rfl (by kernel_rfl) (by kernel_rfl) (by kernel_rfl) (fun _ _ _ h => h) (Or.inr ⟨by rfl, rfl⟩) (by assumption) ?_
      try simp only [Act.put, List.setIfInBounds_toArray, List.set_cons_zero, List.set_cons_succ, List.getElem_toArray, List.getElem_cons_succ, List.getElem_cons_zero]
      refine wpAnyH_take (i := 11) (oi := _) (v := undef) rfl (by kernel_rfl) (by kernel_rfl) (by kernel_rfl) (fun _ _ _ h => h) (Or.inr ⟨by rfl, rfl⟩) (by assumption) ?_
      try simp only [Act.put, List.setIfInBounds_toArray, List.set_cons_zero, List.set_cons_succ, List.getElem_toArray, List.getElem_cons_succ, List.getElem_cons_zero]
      refine wpAnyH_take (i := 12) (oi := _) (v := undef) rfl (by kernel_rfl) (by kernel_rfl) (by kernel_rfl) (fun _ _ _ h => h) (Or.inr ⟨by rfl, rfl⟩) (by assumption) ?_
      try simp only [Act.put, List.setIfInBounds_toArray, List.set_cons_zero, List.set_cons_succ, List.getElem_toArray, List.getElem_cons_succ, List.getElem_cons_zero]
      refine wpAnyH_take (i := 13) (oi := _) (v := ?_) rfl (by kernel_rfl) (by kernel_rfl) (by kernel_rfl) (fun _ _ _ h => h) (Or.inl ⟨by rfl, fun wz hSz => ?_⟩) (by assumption) ?_
      rotate_left
      · (first | (go_simp; done) | (go_simp; with_reducible rfl))
      try simp only [Act.put, List.setIfInBounds_toArray, List.set_cons_zero, List.set_cons_succ, List.getElem_toArray, List.getElem_cons_succ, List.getElem_cons_zero]
      refine wpAnyH_done (by kernel_rfl) ?_ _
      have H8 := hide ((unhide H5).1.trans hHeld)
      clear hHeld
      go_wp2_with fail
      refine (unhide HSan _ (unhide H8)).mono ?_
      rintro e wl ⟨rfl, hEl⟩
      have Hl := hide ((unhide H8).trans hEl)
      clear hEl
      go_wp2
      go_ret
      first | exact ⟨rfl, unhide Hl⟩ | exact ⟨ret_bool (by simp [hcI]), unhide Hl⟩
    · rw [decide_eq_false hsm] at HSm
      by_cases hk : recoverS m (chainAt c) = publicS seed index
      · exact red_main seed index m c A c' w hM hv hm h1 h2 hD hc hsm hk sarr marr hsarr hmarr
      · rw [decide_eq_false hk] at hne
        clear hM hsarr hmarr hD hda hpa hlen hv hm h1 h2 hrl hpl
        go_enter Tryd.func8, Tryd.ntmps8
        go_upto_region 3 with fail
        generalize hW0 : ((w.alloc (.cells sarr 23)).alloc (.cells marr 23)) = W0 at *
        go_upto_region 8 with (first
          | (refine wpList_loadB (ty := 23) (t := 23) (x := .tmp 4) rfl rfl digest_wide rfl (unhide HZ).2.1 (unhide HSZ).1 ?_)
          | (refine wpList_loadB (ty := 23) (t := 23) (x := .tmp 6) rfl rfl digest_wide rfl (unhide HZ).2.2 (unhide HSZ).2 ?_)
          | (go_at_call 23; refine (unhide HSg _ (unhide HZ).1).mono ?_; rintro e w2 ⟨A2, c2, rfl, hG⟩; have H2 := hide (And.intro ((unhide HZ).1.trans hG.ext) (And.intro ((unhide HZ).2.1.ext hG.ext) (And.intro ((unhide HZ).2.2.ext hG.ext) hG.digs))); clear hG)
          | (refine wpList_loadB (ty := 23) (t := 23) (x := .tmp 6) rfl rfl digest_wide rfl (unhide H2).2.2.1 (unhide HSZ).2 ?_)
          | (go_at_call 18; refine (unhide HRc _ (unhide H2).1).mono ?_; rintro e w3 ⟨rfl, hE⟩; have H3 := hide (And.intro ((unhide H2).1.trans hE) (And.intro ((unhide H2).2.1.ext hE) (And.intro ((unhide H2).2.2.1.ext hE) ((unhide H2).2.2.2.ext hE)))); clear hE)
          | (refine wpList_storeB (ty := 23) (t := 23) (x := .tmp 10) (y := .tmp 32) rfl rfl digest_wide rfl rfl (Blk.new w3 _ _) rfl (unhide HDA).1 (unhide HDA).2 ?_; intro w4 hb4 hc4 hz4; have H4 := hide (And.intro (made_ext (unhide H3).1 hc4) (And.intro ((unhide H3).2.1.ext (made_ext1 hc4)) (And.intro ((unhide H3).2.2.1.ext (made_ext1 hc4)) (And.intro ((unhide H3).2.2.2.ext (made_ext1 hc4)) hb4)))); clear hb4 hc4 hz4)
          | (refine wpList_loadB (ty := 23) (t := 23) (x := .tmp 6) rfl rfl digest_wide rfl (unhide H4).2.2.1 (unhide HSZ).2 ?_)
          | (go_at_call 16; refine (unhide HDg _).mono ?_; rintro e w5 ⟨g, rfl, hb5, hg5, hE⟩; have H5 := hide (And.intro ((unhide H4).1.trans hE) (And.intro ((unhide H4).2.1.ext hE) (And.intro ((unhide H4).2.2.2.1.ext hE) (And.intro ((unhide H4).2.2.2.2.ext hE) hb5)))); clear hb5 hg5 hE))
        clear H2 H3 H4 hW0 HZ HDg HSg HRc
        refine wp_region_held_drew (S := fun W => Ext w5 W) (by kernel_rfl) ((Ext.refl _).drew) (fun hHeld => ?_)
        refine wpAnyH_take (i := 0) (oi := _) (v := ?_) rfl (by kernel_rfl) (by kernel_rfl) (by kernel_rfl) (fun _ _ _ h => h) (Or.inl ⟨by rfl, fun wz hSz => ?_⟩) (by assumption) ?_
        rotate_left
        · (first | (go_simp; done) | (go_simp; with_reducible rfl))
        try simp only [Act.put, List.setIfInBounds_toArray, List.set_cons_zero, List.set_cons_succ, List.getElem_toArray, List.getElem_cons_succ, List.getElem_cons_zero]
        refine wpAnyH_take (i := 1) (oi := _) (v := ?_) rfl (by kernel_rfl) (by kernel_rfl) (by kernel_rfl) (fun _ _ _ h => h) (Or.inl ⟨by rfl, fun wz hSz => ?_⟩) (by assumption) ?_
        rotate_left
        · (first | (go_simp; done) | (go_simp; with_reducible rfl))
        try simp only [Act.put, List.setIfInBounds_toArray, List.set_cons_zero, List.set_cons_succ, List.getElem_toArray, List.getElem_cons_succ, List.getElem_cons_zero]
        refine wpAnyH_take (i := 2) (oi := _) (v := ?_) rfl (by kernel_rfl) (by kernel_rfl) (by kernel_rfl) (fun _ _ _ h => h) (Or.inl ⟨by rfl, fun wz hSz => ?_⟩) (by assumption) ?_
        rotate_left
        · (first | (go_simp; done) | (go_simp; with_reducible rfl))
        try simp only [Act.put, List.setIfInBounds_toArray, List.set_cons_zero, List.set_cons_succ, List.getElem_toArray, List.getElem_cons_succ, List.getElem_cons_zero]
        refine wpAnyH_take (i := 3) (oi := _) (v := ?_) rfl (by kernel_rfl) (by kernel_rfl) (by kernel_rfl) (fun _ _ _ h => h) (Or.inl ⟨by rfl, fun wz hSz => ?_⟩) (by assumption) ?_
        rotate_left
        · (first | (go_simp; done) | (go_simp; with_reducible rfl))
        try simp only [Act.put, List.setIfInBounds_toArray, List.set_cons_zero, List.set_cons_succ, List.getElem_toArray, List.getElem_cons_succ, List.getElem_cons_zero]
        refine wpAnyH_take (i := 4) (oi := _) (v := ?_) rfl (by kernel_rfl) (by kernel_rfl) (by kernel_rfl) (fun _ _ _ h => h) (Or.inl ⟨by rfl, fun wz hSz => ?_⟩) (by assumption) ?_
        rotate_left
        · (first | (go_simp; done) | (go_simp; with_reducible rfl))
        try simp only [Act.put, List.setIfInBounds_toArray, List.set_cons_zero, List.set_cons_succ, List.getElem_toArray, List.getElem_cons_succ, List.getElem_cons_zero]
        refine wpAnyH_ready (rs := [5]) (by kernel_rfl) (by simp) (AllReadyH.cons (o := _) rfl (fun K hK => ?_) AllReadyH.nil)
        try go_simp
        (refine (unhide HSm _ _ _ ((unhide H5).1.trans hHeld) ((unhide H5).2.2.1.ext hHeld)).mono ?_; rintro e w6 ⟨rfl, hE⟩; have hS := Ext.trans hHeld hE; clear hE hHeld)
        refine hK.out _ _ ?_ (fun hHeld => ?_)
        · exact hS
        clear hK K
        try simp only [Act.put, List.setIfInBounds_toArray, List.set_cons_zero, List.set_cons_succ, List.getElem_toArray, List.getElem_cons_succ, List.getElem_cons_zero]
        refine wpAnyH_take (i := 6) (oi := _) (v := ?_) rfl (by kernel_rfl) (by kernel_rfl) (by kernel_rfl) (fun _ _ _ h => h) (Or.inl ⟨by rfl, fun wz hSz => ?_⟩) (by assumption) ?_
        rotate_left
        · (first | (go_simp; done) | (go_simp; with_reducible rfl))
        try simp only [Act.put, List.setIfInBounds_toArray, List.set_cons_zero, List.set_cons_succ, List.getElem_toArray, List.getElem_cons_succ, List.getElem_cons_zero]
        refine wpAnyH_take (i := 7) (oi := _) (v := ?_) rfl (by kernel_rfl) (by kernel_rfl) (by kernel_rfl) (fun _ _ _ h => h) (Or.inl ⟨by rfl, fun wz hSz => ?_⟩) (by assumption) ?_
        rotate_left
        · (first | (go_simp; done) | (go_simp; with_reducible rfl))
        try simp only [Act.put, List.setIfInBounds_toArray, List.set_cons_zero, List.set_cons_succ, List.getElem_toArray, List.getElem_cons_succ, List.getElem_cons_zero]
        refine wpAnyH_take (i := 8) (oi := _) (v := _) rfl (by kernel_rfl) (by kernel_rfl) (by kernel_rfl) (fun _ _ _ h => h) (ylb digest_wide rfl (by rfl) rfl (unhide HDA).1 (fun w' hw => (unhide H5).2.2.2.1.ext hw)) (by assumption) ?_
        try simp only [Act.put, List.setIfInBounds_toArray, List.set_cons_zero, List.set_cons_succ, List.getElem_toArray, List.getElem_cons_succ, List.getElem_cons_zero]
        refine wpAnyH_take (i := 9) (oi := _) (v := _) rfl (by kernel_rfl) (by kernel_rfl) (by kernel_rfl) (fun _ _ _ h => h) (ylb digest_wide rfl (by rfl) rfl (unhide HSZ).1 (fun w' hw => (unhide H5).2.1.ext hw)) (by assumption) ?_
        try simp only [Act.put, List.setIfInBounds_toArray, List.set_cons_zero, List.set_cons_succ, List.getElem_toArray, List.getElem_cons_succ, List.getElem_cons_zero]
        refine wpAnyH_take (i := 10) (oi := _) (v := ?_) rfl (by kernel_rfl) (by kernel_rfl) (by kernel_rfl) (fun _ _ _ h => h) (Or.inl ⟨by rfl, fun wz hSz => ?_⟩) (by assumption) ?_
        rotate_left
        · (first | (go_simp; done) | (go_simp; with_reducible rfl))
        try simp only [Act.put, List.setIfInBounds_toArray, List.set_cons_zero, List.set_cons_succ, List.getElem_toArray, List.getElem_cons_succ, List.getElem_cons_zero]
        refine wpAnyH_ready (rs := [11]) (by kernel_rfl) (by simp) (AllReadyH.cons (o := _) rfl (fun K hK => ?_) AllReadyH.nil)
        try go_simp
        (refine (unhide HP _ ((unhide H5).1.trans hHeld)).mono ?_; rintro e w7 ⟨rfl, hE⟩; have hS := Ext.trans hHeld hE; clear hE hHeld)
        refine hK.out _ _ ?_ (fun hHeld => ?_)
        · exact hS
        clear hK K
        try simp only [Act.put, List.setIfInBounds_toArray, List.set_cons_zero, List.set_cons_succ, List.getElem_toArray, List.getElem_cons_succ, List.getElem_cons_zero]
        refine wpAnyH_take (i := 12) (oi := _) (v := ?_) rfl (by kernel_rfl) (by kernel_rfl) (by kernel_rfl) (fun _ _ _ h => h) (Or.inl ⟨by rfl, fun wz hSz => ?_⟩) (by assumption) ?_
        rotate_left
        · (first | (go_simp; done) | (go_simp; with_reducible rfl))
        try simp only [Act.put, List.setIfInBounds_toArray, List.set_cons_zero, List.set_cons_succ, List.getElem_toArray, List.getElem_cons_succ, List.getElem_cons_zero]
        refine wpAnyH_take (i := 13) (oi := _) (v := ?_) rfl (by kernel_rfl) (by kernel_rfl) (by kernel_rfl) (fun _ _ _ h => h) (Or.inl ⟨by rfl, fun wz hSz => ?_⟩) (by assumption) ?_
        rotate_left
        · (first | (go_simp; done) | (go_simp; with_reducible rfl))
        try simp only [Act.put, List.setIfInBounds_toArray, List.set_cons_zero, List.set_cons_succ, List.getElem_toArray, List.getElem_cons_succ, List.getElem_cons_zero]
        refine wpAnyH_done (by kernel_rfl) ?_ _
        have H8 := hide ((unhide H5).1.trans hHeld)
        clear hHeld
        go_wp2_with fail
        refine (unhide HSan _ (unhide H8)).mono ?_
        rintro e wl ⟨rfl, hEl⟩
        have Hl := hide ((unhide H8).trans hEl)
        clear hEl
        go_wp2
        go_ret
        first | exact ⟨rfl, unhide Hl⟩ | exact ⟨ret_bool (by simp [hcI]), unhide Hl⟩
  · have HRc := hide (fun W (hE : Ext w W) => recover_no m c _ W hc (hD.ext hE))
    obtain ⟨da, hda⟩ : ∃ r, (z16.map u8v).toArray = r := ⟨_, rfl⟩
    have HDA := hide (show da.size = 16 ∧ da.all (·.oneCell') = true from by rw [← hda]; exact ⟨rfl, bytes_one _⟩)
    rw [hda, hmarr] at HRc
    rw [hsarr, hmarr]
    have hcI : ¬ (c.length : Int) = 68 := by omega
    clear hM hsarr hmarr hD hda hlen hv hm h1 h2
    generalize c.length = n at *
    go_enter Tryd.func8, Tryd.ntmps8
    go_upto_region 3 with fail
    generalize hW0 : ((w.alloc (.cells sarr 23)).alloc (.cells marr 23)) = W0 at *
    go_upto_region 8 with (first
      | (refine wpList_loadB (ty := 23) (t := 23) (x := .tmp 4) rfl rfl digest_wide rfl (unhide HZ).2.1 (unhide HSZ).1 ?_)
      | (refine wpList_loadB (ty := 23) (t := 23) (x := .tmp 6) rfl rfl digest_wide rfl (unhide HZ).2.2 (unhide HSZ).2 ?_)
      | (go_at_call 23; refine (unhide HSg _ (unhide HZ).1).mono ?_; rintro e w2 ⟨A2, c2, rfl, hG⟩; have H2 := hide (And.intro ((unhide HZ).1.trans hG.ext) (And.intro ((unhide HZ).2.1.ext hG.ext) (And.intro ((unhide HZ).2.2.ext hG.ext) hG.digs))); clear hG)
      | (refine wpList_loadB (ty := 23) (t := 23) (x := .tmp 6) rfl rfl digest_wide rfl (unhide H2).2.2.1 (unhide HSZ).2 ?_)
      | (go_at_call 18; refine (unhide HRc _ (unhide H2).1).mono ?_; rintro e w3 ⟨rfl, hE⟩; have H3 := hide (And.intro ((unhide H2).1.trans hE) (And.intro ((unhide H2).2.1.ext hE) (And.intro ((unhide H2).2.2.1.ext hE) ((unhide H2).2.2.2.ext hE)))); clear hE)
      | (refine wpList_storeB (ty := 23) (t := 23) (x := .tmp 10) (y := .tmp 32) rfl rfl digest_wide rfl rfl (Blk.new w3 _ _) rfl (unhide HDA).1 (unhide HDA).2 ?_; intro w4 hb4 hc4 hz4; have H4 := hide (And.intro (made_ext (unhide H3).1 hc4) (And.intro ((unhide H3).2.1.ext (made_ext1 hc4)) (And.intro ((unhide H3).2.2.1.ext (made_ext1 hc4)) (And.intro ((unhide H3).2.2.2.ext (made_ext1 hc4)) hb4)))); clear hb4 hc4 hz4)
      | (refine wpList_loadB (ty := 23) (t := 23) (x := .tmp 6) rfl rfl digest_wide rfl (unhide H4).2.2.1 (unhide HSZ).2 ?_)
      | (go_at_call 16; refine (unhide HDg _).mono ?_; rintro e w5 ⟨g, rfl, hb5, hg5, hE⟩; have H5 := hide (And.intro ((unhide H4).1.trans hE) (And.intro ((unhide H4).2.1.ext hE) (And.intro ((unhide H4).2.2.2.1.ext hE) (And.intro ((unhide H4).2.2.2.2.ext hE) hb5)))); clear hb5 hg5 hE))
    clear H2 H3 H4 hW0 HZ HDg HSg HRc
    refine wp_region_held_drew (S := fun W => Ext w5 W) (by kernel_rfl) ((Ext.refl _).drew) (fun hHeld => ?_)
    refine wpAnyH_take (i := 0) (oi := _) (v := ?_) rfl (by kernel_rfl) (by kernel_rfl) (by kernel_rfl) (fun _ _ _ h => h) (Or.inl ⟨by rfl, fun wz hSz => ?_⟩) (by assumption) ?_
    rotate_left
    · (first | (go_simp; done) | (go_simp; with_reducible rfl))
    try simp only [Act.put, List.setIfInBounds_toArray, List.set_cons_zero, List.set_cons_succ, List.getElem_toArray, List.getElem_cons_succ, List.getElem_cons_zero]
    refine wpAnyH_take (i := 1) (oi := _) (v := ?_) rfl (by kernel_rfl) (by kernel_rfl) (by kernel_rfl) (fun _ _ _ h => h) (Or.inl ⟨by rfl, fun wz hSz => ?_⟩) (by assumption) ?_
    rotate_left
    · (first | (go_simp; done) | (go_simp; with_reducible rfl))
    try simp only [Act.put, List.setIfInBounds_toArray, List.set_cons_zero, List.set_cons_succ, List.getElem_toArray, List.getElem_cons_succ, List.getElem_cons_zero]
    refine wpAnyH_take (i := 2) (oi := _) (v := ?_) rfl (by kernel_rfl) (by kernel_rfl) (by kernel_rfl) (fun _ _ _ h => h) (Or.inl ⟨by rfl, fun wz hSz => ?_⟩) (by assumption) ?_
    rotate_left
    · (first | (go_simp; done) | (go_simp; with_reducible rfl))
    try simp only [Act.put, List.setIfInBounds_toArray, List.set_cons_zero, List.set_cons_succ, List.getElem_toArray, List.getElem_cons_succ, List.getElem_cons_zero]
    refine wpAnyH_take (i := 3) (oi := _) (v := undef) rfl (by kernel_rfl) (by kernel_rfl) (by kernel_rfl) (fun _ _ _ h => h) (Or.inr ⟨by rfl, rfl⟩) (by assumption) ?_
    try simp only [Act.put, List.setIfInBounds_toArray, List.set_cons_zero, List.set_cons_succ, List.getElem_toArray, List.getElem_cons_succ, List.getElem_cons_zero]
    refine wpAnyH_take (i := 4) (oi := _) (v := undef) rfl (by kernel_rfl) (by kernel_rfl) (by kernel_rfl) (fun _ _ _ h => h) (Or.inr ⟨by rfl, rfl⟩) (by assumption) ?_
    try simp only [Act.put, List.setIfInBounds_toArray, List.set_cons_zero, List.set_cons_succ, List.getElem_toArray, List.getElem_cons_succ, List.getElem_cons_zero]
    refine wpAnyH_take (i := 5) (oi := _) (v := undef) rfl (by kernel_rfl) (by kernel_rfl) (by kernel_rfl) (fun _ _ _ h => h) (Or.inr ⟨by rfl, rfl⟩) (by assumption) ?_
    try simp only [Act.put, List.setIfInBounds_toArray, List.set_cons_zero, List.set_cons_succ, List.getElem_toArray, List.getElem_cons_succ, List.getElem_cons_zero]
    refine wpAnyH_take (i := 6) (oi := _) (v := ?_) rfl (by kernel_rfl) (by kernel_rfl) (by kernel_rfl) (fun _ _ _ h => h) (Or.inl ⟨by rfl, fun wz hSz => ?_⟩) (by assumption) ?_
    rotate_left
    · (first | (go_simp; done) | (go_simp; with_reducible rfl))
    try simp only [Act.put, List.setIfInBounds_toArray, List.set_cons_zero, List.set_cons_succ, List.getElem_toArray, List.getElem_cons_succ, List.getElem_cons_zero]
    refine wpAnyH_take (i := 7) (oi := _) (v := ?_) rfl (by kernel_rfl) (by kernel_rfl) (by kernel_rfl) (fun _ _ _ h => h) (Or.inl ⟨by rfl, fun wz hSz => ?_⟩) (by assumption) ?_
    rotate_left
    · (first | (go_simp; done) | (go_simp; with_reducible rfl))
    try simp only [Act.put, List.setIfInBounds_toArray, List.set_cons_zero, List.set_cons_succ, List.getElem_toArray, List.getElem_cons_succ, List.getElem_cons_zero]
    refine wpAnyH_take (i := 8) (oi := _) (v := undef) rfl (by kernel_rfl) (by kernel_rfl) (by kernel_rfl) (fun _ _ _ h => h) (Or.inr ⟨by rfl, rfl⟩) (by assumption) ?_
    try simp only [Act.put, List.setIfInBounds_toArray, List.set_cons_zero, List.set_cons_succ, List.getElem_toArray, List.getElem_cons_succ, List.getElem_cons_zero]
    refine wpAnyH_take (i := 9) (oi := _) (v := undef) rfl (by kernel_rfl) (by kernel_rfl) (by kernel_rfl) (fun _ _ _ h => h) (Or.inr ⟨by rfl, rfl⟩) (by assumption) ?_
    try simp only [Act.put, List.setIfInBounds_toArray, List.set_cons_zero, List.set_cons_succ, List.getElem_toArray, List.getElem_cons_succ, List.getElem_cons_zero]
    refine wpAnyH_take (i := 10) (oi := _) (v := undef) rfl (by kernel_rfl) (by kernel_rfl) (by kernel_rfl) (fun _ _ _ h => h) (Or.inr ⟨by rfl, rfl⟩) (by assumption) ?_
    try simp only [Act.put, List.setIfInBounds_toArray, List.set_cons_zero, List.set_cons_succ, List.getElem_toArray, List.getElem_cons_succ, List.getElem_cons_zero]
    refine wpAnyH_take (i := 11) (oi := _) (v := undef) rfl (by kernel_rfl) (by kernel_rfl) (by kernel_rfl) (fun _ _ _ h => h) (Or.inr ⟨by rfl, rfl⟩) (by assumption) ?_
    try simp only [Act.put, List.setIfInBounds_toArray, List.set_cons_zero, List.set_cons_succ, List.getElem_toArray, List.getElem_cons_succ, List.getElem_cons_zero]
    refine wpAnyH_take (i := 12) (oi := _) (v := undef) rfl (by kernel_rfl) (by kernel_rfl) (by kernel_rfl) (fun _ _ _ h => h) (Or.inr ⟨by rfl, rfl⟩) (by assumption) ?_
    try simp only [Act.put, List.setIfInBounds_toArray, List.set_cons_zero, List.set_cons_succ, List.getElem_toArray, List.getElem_cons_succ, List.getElem_cons_zero]
    refine wpAnyH_take (i := 13) (oi := _) (v := ?_) rfl (by kernel_rfl) (by kernel_rfl) (by kernel_rfl) (fun _ _ _ h => h) (Or.inl ⟨by rfl, fun wz hSz => ?_⟩) (by assumption) ?_
    rotate_left
    · (first | (go_simp; done) | (go_simp; with_reducible rfl))
    try simp only [Act.put, List.setIfInBounds_toArray, List.set_cons_zero, List.set_cons_succ, List.getElem_toArray, List.getElem_cons_succ, List.getElem_cons_zero]
    refine wpAnyH_done (by kernel_rfl) ?_ _
    have H8 := hide ((unhide H5).1.trans hHeld)
    clear hHeld
    go_wp2_with fail
    refine (unhide HSan _ (unhide H8)).mono ?_
    rintro e wl ⟨rfl, hEl⟩
    have Hl := hide ((unhide H8).trans hEl)
    clear hEl
    go_wp2
    go_ret
    first | exact ⟨rfl, unhide Hl⟩ | exact ⟨ret_bool (by simp [hcI]), unhide Hl⟩

end Go.Proofs.YtjemfefkgfoikaaDoor
