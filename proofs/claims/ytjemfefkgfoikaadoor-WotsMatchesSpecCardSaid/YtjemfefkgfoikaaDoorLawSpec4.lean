/-
  The law WotsMatchesSpec.
-/
import Derived.Test.YtjemfefkgfoikaaDoorSame
import Derived.Test.YtjemfefkgfoikaaDoorRpA
namespace Go.Proofs.YtjemfefkgfoikaaDoor
open Go.RowKit

theorem recV_form (m : List UInt8) (c : List (List UInt8)) : ∃ (d : List UInt8) (e : Int), d.length = 16 ∧ recV m c = .tuple #[.agg (d.map u8v).toArray, .int .i64 e] := by
  unfold recV
  split
  · exact ⟨_, 0, digestS_length _ _, rfl⟩
  · exact ⟨z16, 9, rfl, rfl⟩

set_option maxRecDepth 100000 in
set_option maxHeartbeats 8000000 in
theorem spec4_any (seed : List UInt8) (index : Int) (m : List UInt8) (c : List (List UInt8)) (cv : Value) (w : World) (hM : ShaMem w) (hv : seed.length = 16) (hm : m.length = 16) (h1 : -9223372036854775808 ≤ index) (h2 : index < 9223372036854775808) (hD : Digs w cv c) :
    Calls Tryd.prog 3 #[.agg (seed.map u8v).toArray, .int .i64 index, .agg (m.map u8v).toArray, cv] w fun e w' => e = .returned (.bool true) ∧ Ext w w' := by
  have HM := hide hM
  have HDD := hide hD
  obtain ⟨A, c', rfl, _, _⟩ := hD.form
  obtain ⟨sarr, hsarr⟩ : ∃ r, (seed.map u8v).toArray = r := ⟨_, rfl⟩
  obtain ⟨marr, hmarr⟩ : ∃ r, (m.map u8v).toArray = r := ⟨_, rfl⟩
  have HSZ := hide (show sarr.size = 16 ∧ marr.size = 16 from by rw [← hsarr, ← hmarr]; simp; omega)
  have HZ := hide (show (Ext w ((w.alloc (.cells sarr 23)).alloc (.cells marr 23)) ∧ Blk ((w.alloc (.cells sarr 23)).alloc (.cells marr 23)) w.heap.size 23 sarr ∧ Blk ((w.alloc (.cells sarr 23)).alloc (.cells marr 23)) (w.heap.size + 1) 23 marr) from ⟨((Ext.refl w).alloc _).alloc _, (Blk.new w _ _).alloc _, Blk.new' _ _ _ (by simp)⟩)
  by_cases hlen : c.length > 80
  · rw [hsarr, hmarr]
    have hlI : (80 : Int) < (c.length : Int) := by omega
    clear hM hsarr hmarr hD HDD
    generalize c.length = n at *
    go_enter Tryd.func3, Tryd.ntmps3
    go_wp2_with fail
    refine (sanity4_any _ ((unhide HM).ext (unhide HZ).1)).mono ?_
    rintro e w2 ⟨rfl, hE2⟩
    have H2 := hide ((unhide HZ).1.trans hE2)
    clear hE2
    go_wp2
    go_ret
    exact ⟨rfl, unhide H2⟩
  · have HDg := hide (fun W => digits_any m W hm)
    have HDr := hide (fun W => rdigits_any m W hm)
    have HRc := hide (fun W (hE : Ext w W) => recover_any m c _ W (hM.ext hE) hm (hD.ext hE))
    have HRr := hide (fun W (hE : Ext w W) => rrecover_any m c _ W hm (hD.ext hE))
    have HP := hide (fun W (hE : Ext w W) => public_any seed index W (hM.ext hE) hv h1 h2)
    have HPr := hide (fun W => rpublic_any seed index W hv h1 h2)
    have HS := hide (fun W (hE : Ext w W) => sign_any seed index m W (hM.ext hE) hv hm h1 h2)
    have HSr := hide (fun W => rsign_any seed index m W hv hm h1 h2)
    have HSan := hide (fun W (hE : Ext w W) => sanity4_any W (hM.ext hE))
    have hpl : (publicS seed index).length = 16 := digestS_length _ _
    have heq : ∀ W, (binOp .eql 23 (.agg ((publicS seed index).map u8v).toArray) (.agg ((publicS seed index).map u8v).toArray)).run Tryd.prog W = .ok (.bool true) W := same16 rfl hpl
    obtain ⟨p, hp⟩ : ∃ r, ((publicS seed index).map u8v).toArray = r := ⟨_, rfl⟩
    rw [hp] at HP HPr heq
    obtain ⟨d, ee, hd, hre⟩ := recV_form m c
    rw [hre] at HRc HRr
    have heq2 : ∀ W, (binOp .eql 23 (.agg (d.map u8v).toArray) (.agg (d.map u8v).toArray)).run Tryd.prog W = .ok (.bool true) W := same16 rfl hd
    obtain ⟨da, hda⟩ : ∃ r, (d.map u8v).toArray = r := ⟨_, rfl⟩
    have HDA := hide (show da.size = 16 ∧ da.all (·.oneCell') = true from by rw [← hda]; exact ⟨by simpa using hd, bytes_one _⟩)
    rw [hda] at HRc HRr heq2
    have hlI : ¬ (80 : Int) < (c.length : Int) := by omega
    rw [hsarr] at HP HPr HS HSr
    rw [hmarr] at HDg HDr HRc HRr HS HSr
    rw [hsarr, hmarr]
    have HG := hide (fun k (hk : k < 68) => icells_get (digC m) hk)
    clear hM hsarr hmarr hD hp hda hre hpl hlen hv hm h1 h2 hd
    generalize c.length = n at *
    go_enter Tryd.func3, Tryd.ntmps3
    go_upto_region 3 with fail
    generalize hW0 : ((w.alloc (.cells sarr 23)).alloc (.cells marr 23)) = W0 at *
    refine wp_region_held_drew (S := fun W => Ext W0 W) (by kernel_rfl) ((Ext.refl _).drew) (fun hHeld => ?_)
    refine wpAnyH_take (i := 0) (oi := _) (v := _) rfl (by kernel_rfl) (by kernel_rfl) (by kernel_rfl) (fun _ _ _ h => h) (ylb digest_wide rfl (by rfl) rfl (unhide HSZ).2 (fun w' hw => (unhide HZ).2.2.ext hw)) (by assumption) ?_
    try simp only [Act.put, List.setIfInBounds_toArray, List.set_cons_zero, List.set_cons_succ, List.getElem_toArray, List.getElem_cons_succ, List.getElem_cons_zero]
    refine wpAnyH_take (i := 2) (oi := _) (v := _) rfl (by kernel_rfl) (by kernel_rfl) (by kernel_rfl) (fun _ _ _ h => h) (ylb digest_wide rfl (by rfl) rfl (unhide HSZ).2 (fun w' hw => (unhide HZ).2.2.ext hw)) (by assumption) ?_
    try simp only [Act.put, List.setIfInBounds_toArray, List.set_cons_zero, List.set_cons_succ, List.getElem_toArray, List.getElem_cons_succ, List.getElem_cons_zero]
    refine wpAnyH_ready (rs := [1]) (by kernel_rfl) (by simp) (AllReadyH.cons (o := _) rfl (fun K hK => ?_) AllReadyH.nil)
    try go_simp
    (refine (unhide HDg _).mono ?_; rintro e w2 ⟨ga, rfl, hba, hga, hE2⟩; have hS := Ext.trans hHeld hE2; have H2 := hide hba; clear hba hga hE2 hHeld)
    refine hK.out _ _ ?_ (fun hHeld => ?_)
    · exact hS
    clear hK K
    try simp only [Act.put, List.setIfInBounds_toArray, List.set_cons_zero, List.set_cons_succ, List.getElem_toArray, List.getElem_cons_succ, List.getElem_cons_zero]
    refine wpAnyH_ready (rs := [3]) (by kernel_rfl) (by simp) (AllReadyH.cons (o := _) rfl (fun K hK => ?_) AllReadyH.nil)
    try go_simp
    (refine (unhide HDr _).mono ?_; rintro e w3 ⟨A3, c3, rfl, hr3, hE3⟩; have hS := Ext.trans hHeld hE3; have H3 := hide (And.intro ((unhide H2).ext hE3) hr3); clear hr3 hE3 hHeld H2)
    refine hK.out _ _ ?_ (fun hHeld => ?_)
    · exact hS
    clear hK K
    try simp only [Act.put, List.setIfInBounds_toArray, List.set_cons_zero, List.set_cons_succ, List.getElem_toArray, List.getElem_cons_succ, List.getElem_cons_zero]
    refine wpAnyH_take (i := 4) (oi := _) (v := ?_) rfl (by kernel_rfl) (by kernel_rfl) (by kernel_rfl) (fun _ _ _ h => h) (Or.inl ⟨by rfl, fun wz hSz => ?_⟩) (by assumption) ?_
    rotate_left
    · (first | (go_simp; done) | (go_simp; with_reducible rfl))
    try simp only [Act.put, List.setIfInBounds_toArray, List.set_cons_zero, List.set_cons_succ, List.getElem_toArray, List.getElem_cons_succ, List.getElem_cons_zero]
    refine wpAnyH_take (i := 5) (oi := _) (v := ?_) rfl (by kernel_rfl) (by kernel_rfl) (by kernel_rfl) (fun _ _ _ h => h) (Or.inl ⟨by rfl, fun wz hSz => ?_⟩) (by assumption) ?_
    rotate_left
    · (first | (go_simp; done) | (go_simp; with_reducible rfl))
    try simp only [Act.put, List.setIfInBounds_toArray, List.set_cons_zero, List.set_cons_succ, List.getElem_toArray, List.getElem_cons_succ, List.getElem_cons_zero]
    refine wpAnyH_done (by kernel_rfl) ?_ _
    have H4 := hide (And.intro ((unhide HZ).2.1.ext hHeld) (And.intro ((unhide HZ).2.2.ext hHeld) ((unhide HZ).1.trans hHeld)))
    clear hHeld hW0 HZ
    obtain ⟨b3, o3, cc, u, hv0, _⟩ := (unhide H3).2.at1 (k := 0) (by omega)
    cases hv0
    go_wp2_with fail
    go_loopw [31] (fun i wr => ∃ k : Nat, k ≤ 68 ∧ i = .int .i64 k ∧ Hid (Ext w3 wr)) (fun i _ => 68 - (intOf i).toNat)
    case atStart => exact ⟨0, by omega, rfl, hide (Ext.refl _)⟩
    case round =>
      obtain ⟨k, hk, rfl, HI⟩ := hrel
      by_cases hlt : k < 68
      · have hca : wr.cell? ⟨ga, k, none⟩ = some (.int .i64 ((digC m k : Nat) : Int)) := by rw [((unhide H3).1.ext (unhide HI)).cell]; exact icells_getA _ hlt
        have hcb : wr.cell? ⟨b3, o3 + k, none⟩ = some (.int .i64 ((digC m k : Nat) : Int)) := ((unhide H3).2.ext (unhide HI)).at_ (unhide HG k hlt)
        generalize digC m k = dk at *
        have hkI : (k : Int) < 68 := by omega
        go_wp2_with fail
        go_region
        all_goals
          go_wp2
          go_roundw
          case rel => exact ⟨k + 1, by omega, by go_num, hide ((unhide HI).trans (by first | exact Ext.refl _ | exact (Ext.refl _).drew | exact (Ext.refl _).drew.drew))⟩
          case measure => simp [intOf]; omega
      · obtain rfl : k = 68 := by omega
        have H5 := hide (And.intro ((unhide H4).1.ext (unhide HI)) (And.intro ((unhide H4).2.1.ext (unhide HI)) ((unhide H4).2.2.trans (unhide HI))))
        clear HI H3 H4 HDg HDr HG
        go_upto_region 13 with (first
          | (refine wpList_loadB (ty := 23) (t := 23) (x := .tmp 6) rfl rfl digest_wide rfl (unhide H5).2.1 (unhide HSZ).2 ?_)
          | (go_at_call 18; refine (unhide HRc _ (unhide H5).2.2).mono ?_; rintro e w6 ⟨rfl, hE6⟩; have H6 := hide (And.intro ((unhide H5).1.ext hE6) (And.intro ((unhide H5).2.1.ext hE6) ((unhide H5).2.2.trans hE6))); clear hE6)
          | (refine wpList_storeB (ty := 23) (t := 23) (x := .tmp 12) (y := .tmp 48) rfl rfl digest_wide rfl rfl (Blk.new w6 _ _) rfl (unhide HDA).1 (unhide HDA).2 ?_; intro w7 hb7 hc7 hz7; have H7 := hide (And.intro ((unhide H6).1.ext (made_ext1 hc7)) (And.intro ((unhide H6).2.1.ext (made_ext1 hc7)) (And.intro (made_ext (unhide H6).2.2 hc7) hb7))); clear hb7 hc7 hz7))
        clear H5 H6
        go_upto_region 14 with (first
          | (refine wpList_loadB (ty := 23) (t := 23) (x := .tmp 6) rfl rfl digest_wide rfl (unhide H7).2.1 (unhide HSZ).2 ?_)
          | (go_at_call 19; refine (unhide HRr _ (unhide H7).2.2.1).mono ?_; rintro e w8 ⟨rfl, hE8⟩; have H8 := hide (And.intro ((unhide H7).1.ext hE8) (And.intro ((unhide H7).2.1.ext hE8) (And.intro ((unhide H7).2.2.1.trans hE8) ((unhide H7).2.2.2.ext hE8)))); clear hE8)
          | (refine wpList_storeB (ty := 23) (t := 23) (x := .tmp 14) (y := .tmp 54) rfl rfl digest_wide rfl rfl (Blk.new w8 _ _) rfl (unhide HDA).1 (unhide HDA).2 ?_; intro w9 hb9 hc9 hz9; have H9 := hide (And.intro ((unhide H8).1.ext (made_ext1 hc9)) (And.intro ((unhide H8).2.1.ext (made_ext1 hc9)) (And.intro (made_ext (unhide H8).2.2.1 hc9) (And.intro ((unhide H8).2.2.2.ext (made_ext1 hc9)) hb9)))); clear hb9 hc9 hz9))
        clear H7 H8
        refine wp_region_held_drew (S := fun W => Ext w9 W) (by kernel_rfl) ((Ext.refl _).drew) (fun hHeld => ?_)
        refine wpAnyH_ready (rs := [0]) (by kernel_rfl) (by simp) (AllReadyH.cons (o := _) rfl (fun K hK => ?_) AllReadyH.nil)
        try go_simp
        (refine (unhide HSan _ ((unhide H9).2.2.1.trans hHeld)).mono ?_; rintro e wa ⟨rfl, hE⟩; have hS := Ext.trans hHeld hE; clear hE hHeld)
        refine hK.out _ _ ?_ (fun hHeld => ?_)
        · exact hS
        clear hK K
        try simp only [Act.put, List.setIfInBounds_toArray, List.set_cons_zero, List.set_cons_succ, List.getElem_toArray, List.getElem_cons_succ, List.getElem_cons_zero]
        refine wpAnyH_take (i := 1) (oi := _) (v := ?_) rfl (by kernel_rfl) (by kernel_rfl) (by kernel_rfl) (fun _ _ _ h => h) (Or.inl ⟨by rfl, fun wz hSz => ?_⟩) (by assumption) ?_
        rotate_left
        · (first | (go_simp; done) | (go_simp; with_reducible rfl))
        try simp only [Act.put, List.setIfInBounds_toArray, List.set_cons_zero, List.set_cons_succ, List.getElem_toArray, List.getElem_cons_succ, List.getElem_cons_zero]
        refine wpAnyH_take (i := 2) (oi := _) (v := _) rfl (by kernel_rfl) (by kernel_rfl) (by kernel_rfl) (fun _ _ _ h => h) (ylb digest_wide rfl (by rfl) rfl (unhide HSZ).1 (fun w' hw => (unhide H9).1.ext hw)) (by assumption) ?_
        try simp only [Act.put, List.setIfInBounds_toArray, List.set_cons_zero, List.set_cons_succ, List.getElem_toArray, List.getElem_cons_succ, List.getElem_cons_zero]
        refine wpAnyH_take (i := 3) (oi := _) (v := ?_) rfl (by kernel_rfl) (by kernel_rfl) (by kernel_rfl) (fun _ _ _ h => h) (Or.inl ⟨by rfl, fun wz hSz => ?_⟩) (by assumption) ?_
        rotate_left
        · (first | (go_simp; done) | (go_simp; with_reducible rfl))
        try simp only [Act.put, List.setIfInBounds_toArray, List.set_cons_zero, List.set_cons_succ, List.getElem_toArray, List.getElem_cons_succ, List.getElem_cons_zero]
        refine wpAnyH_take (i := 5) (oi := _) (v := _) rfl (by kernel_rfl) (by kernel_rfl) (by kernel_rfl) (fun _ _ _ h => h) (ylb digest_wide rfl (by rfl) rfl (unhide HSZ).1 (fun w' hw => (unhide H9).1.ext hw)) (by assumption) ?_
        try simp only [Act.put, List.setIfInBounds_toArray, List.set_cons_zero, List.set_cons_succ, List.getElem_toArray, List.getElem_cons_succ, List.getElem_cons_zero]
        refine wpAnyH_take (i := 6) (oi := _) (v := ?_) rfl (by kernel_rfl) (by kernel_rfl) (by kernel_rfl) (fun _ _ _ h => h) (Or.inl ⟨by rfl, fun wz hSz => ?_⟩) (by assumption) ?_
        rotate_left
        · (first | (go_simp; done) | (go_simp; with_reducible rfl))
        try simp only [Act.put, List.setIfInBounds_toArray, List.set_cons_zero, List.set_cons_succ, List.getElem_toArray, List.getElem_cons_succ, List.getElem_cons_zero]
        refine wpAnyH_ready (rs := [4]) (by kernel_rfl) (by simp) (AllReadyH.cons (o := _) rfl (fun K hK => ?_) AllReadyH.nil)
        try go_simp
        (refine (unhide HP _ ((unhide H9).2.2.1.trans hHeld)).mono ?_; rintro e wb ⟨rfl, hE⟩; have hS := Ext.trans hHeld hE; clear hE hHeld)
        refine hK.out _ _ ?_ (fun hHeld => ?_)
        · exact hS
        clear hK K
        try simp only [Act.put, List.setIfInBounds_toArray, List.set_cons_zero, List.set_cons_succ, List.getElem_toArray, List.getElem_cons_succ, List.getElem_cons_zero]
        refine wpAnyH_ready (rs := [7]) (by kernel_rfl) (by simp) (AllReadyH.cons (o := _) rfl (fun K hK => ?_) AllReadyH.nil)
        try go_simp
        (refine (unhide HPr _).mono ?_; rintro e wd ⟨rfl, hE⟩; have hS := Ext.trans hHeld hE; clear hE hHeld)
        refine hK.out _ _ ?_ (fun hHeld => ?_)
        · exact hS
        clear hK K
        try simp only [Act.put, List.setIfInBounds_toArray, List.set_cons_zero, List.set_cons_succ, List.getElem_toArray, List.getElem_cons_succ, List.getElem_cons_zero]
        refine wpAnyH_take (i := 8) (oi := _) (v := ?_) rfl (by kernel_rfl) (by kernel_rfl) (by kernel_rfl) (fun _ _ _ h => h) (Or.inl ⟨by rfl, fun wz hSz => ?_⟩) (by assumption) ?_
        rotate_left
        · (first | (go_simp; done) | (go_simp; with_reducible rfl))
        try simp only [Act.put, List.setIfInBounds_toArray, List.set_cons_zero, List.set_cons_succ, List.getElem_toArray, List.getElem_cons_succ, List.getElem_cons_zero]
        refine wpAnyH_take (i := 9) (oi := _) (v := ?_) rfl (by kernel_rfl) (by kernel_rfl) (by kernel_rfl) (fun _ _ _ h => h) (Or.inl ⟨by rfl, fun wz hSz => ?_⟩) (by assumption) ?_
        rotate_left
        · (first | (go_simp; done) | (go_simp; with_reducible rfl))
        try simp only [Act.put, List.setIfInBounds_toArray, List.set_cons_zero, List.set_cons_succ, List.getElem_toArray, List.getElem_cons_succ, List.getElem_cons_zero]
        refine wpAnyH_take (i := 10) (oi := _) (v := ?_) rfl (by kernel_rfl) (by kernel_rfl) (by kernel_rfl) (fun _ _ _ h => h) (Or.inl ⟨by rfl, fun wz hSz => ?_⟩) (by assumption) ?_
        rotate_left
        · (first | (go_simp; done) | (go_simp; with_reducible rfl))
        try simp only [Act.put, List.setIfInBounds_toArray, List.set_cons_zero, List.set_cons_succ, List.getElem_toArray, List.getElem_cons_succ, List.getElem_cons_zero]
        refine wpAnyH_take (i := 11) (oi := _) (v := _) rfl (by kernel_rfl) (by kernel_rfl) (by kernel_rfl) (fun _ _ _ h => h) (ylb digest_wide rfl (by rfl) rfl (unhide HSZ).1 (fun w' hw => (unhide H9).1.ext hw)) (by assumption) ?_
        try simp only [Act.put, List.setIfInBounds_toArray, List.set_cons_zero, List.set_cons_succ, List.getElem_toArray, List.getElem_cons_succ, List.getElem_cons_zero]
        refine wpAnyH_take (i := 12) (oi := _) (v := ?_) rfl (by kernel_rfl) (by kernel_rfl) (by kernel_rfl) (fun _ _ _ h => h) (Or.inl ⟨by rfl, fun wz hSz => ?_⟩) (by assumption) ?_
        rotate_left
        · (first | (go_simp; done) | (go_simp; with_reducible rfl))
        try simp only [Act.put, List.setIfInBounds_toArray, List.set_cons_zero, List.set_cons_succ, List.getElem_toArray, List.getElem_cons_succ, List.getElem_cons_zero]
        refine wpAnyH_take (i := 13) (oi := _) (v := _) rfl (by kernel_rfl) (by kernel_rfl) (by kernel_rfl) (fun _ _ _ h => h) (ylb digest_wide rfl (by rfl) rfl (unhide HSZ).2 (fun w' hw => (unhide H9).2.1.ext hw)) (by assumption) ?_
        try simp only [Act.put, List.setIfInBounds_toArray, List.set_cons_zero, List.set_cons_succ, List.getElem_toArray, List.getElem_cons_succ, List.getElem_cons_zero]
        refine wpAnyH_take (i := 15) (oi := _) (v := _) rfl (by kernel_rfl) (by kernel_rfl) (by kernel_rfl) (fun _ _ _ h => h) (ylb digest_wide rfl (by rfl) rfl (unhide HSZ).1 (fun w' hw => (unhide H9).1.ext hw)) (by assumption) ?_
        try simp only [Act.put, List.setIfInBounds_toArray, List.set_cons_zero, List.set_cons_succ, List.getElem_toArray, List.getElem_cons_succ, List.getElem_cons_zero]
        refine wpAnyH_take (i := 16) (oi := _) (v := ?_) rfl (by kernel_rfl) (by kernel_rfl) (by kernel_rfl) (fun _ _ _ h => h) (Or.inl ⟨by rfl, fun wz hSz => ?_⟩) (by assumption) ?_
        rotate_left
        · (first | (go_simp; done) | (go_simp; with_reducible rfl))
        try simp only [Act.put, List.setIfInBounds_toArray, List.set_cons_zero, List.set_cons_succ, List.getElem_toArray, List.getElem_cons_succ, List.getElem_cons_zero]
        refine wpAnyH_take (i := 17) (oi := _) (v := _) rfl (by kernel_rfl) (by kernel_rfl) (by kernel_rfl) (fun _ _ _ h => h) (ylb digest_wide rfl (by rfl) rfl (unhide HSZ).2 (fun w' hw => (unhide H9).2.1.ext hw)) (by assumption) ?_
        try simp only [Act.put, List.setIfInBounds_toArray, List.set_cons_zero, List.set_cons_succ, List.getElem_toArray, List.getElem_cons_succ, List.getElem_cons_zero]
        refine wpAnyH_ready (rs := [14]) (by kernel_rfl) (by simp) (AllReadyH.cons (o := _) rfl (fun K hK => ?_) AllReadyH.nil)
        try go_simp
        (refine (unhide HS _ ((unhide H9).2.2.1.trans hHeld)).mono ?_; rintro e we ⟨Ae, ce, rfl, hG⟩; have hS := Ext.trans hHeld hG.ext; have Ha := hide hG.digs; clear hG hHeld)
        refine hK.out _ _ ?_ (fun hHeld => ?_)
        · exact hS
        clear hK K
        try simp only [Act.put, List.setIfInBounds_toArray, List.set_cons_zero, List.set_cons_succ, List.getElem_toArray, List.getElem_cons_succ, List.getElem_cons_zero]
        refine wpAnyH_ready (rs := [18]) (by kernel_rfl) (by simp) (AllReadyH.cons (o := _) rfl (fun K hK => ?_) AllReadyH.nil)
        try go_simp
        (refine (unhide HSr _).mono ?_; rintro e wf ⟨Af, cf, rfl, hG⟩; have hS := Ext.trans hHeld hG.ext; have Hb := hide (And.intro ((unhide Ha).ext hG.ext) hG.digs); clear hG hHeld)
        refine hK.out _ _ ?_ (fun hHeld => ?_)
        · exact hS
        clear hK K
        try simp only [Act.put, List.setIfInBounds_toArray, List.set_cons_zero, List.set_cons_succ, List.getElem_toArray, List.getElem_cons_succ, List.getElem_cons_zero]
        refine wpAnyH_ready (rs := [19]) (by kernel_rfl) (by simp) (AllReadyH.cons (o := _) rfl (fun K hK => ?_) AllReadyH.nil)
        try go_simp
        (refine (lsame_any _ _ _ _ _ (unhide Hb).1 (unhide Hb).2).mono ?_; rintro e wg ⟨rfl, hE⟩; rw [decide_eq_true rfl]; have hS := Ext.trans hHeld hE; clear hE hHeld)
        refine hK.out _ _ ?_ (fun hHeld => ?_)
        · exact hS
        clear hK K
        try simp only [Act.put, List.setIfInBounds_toArray, List.set_cons_zero, List.set_cons_succ, List.getElem_toArray, List.getElem_cons_succ, List.getElem_cons_zero]
        refine wpAnyH_take (i := 20) (oi := _) (v := ?_) rfl (by kernel_rfl) (by kernel_rfl) (by kernel_rfl) (fun _ _ _ h => h) (Or.inl ⟨by rfl, fun wz hSz => ?_⟩) (by assumption) ?_
        rotate_left
        · (first | (go_simp; done) | (go_simp; with_reducible rfl))
        try simp only [Act.put, List.setIfInBounds_toArray, List.set_cons_zero, List.set_cons_succ, List.getElem_toArray, List.getElem_cons_succ, List.getElem_cons_zero]
        refine wpAnyH_take (i := 21) (oi := _) (v := ?_) rfl (by kernel_rfl) (by kernel_rfl) (by kernel_rfl) (fun _ _ _ h => h) (Or.inl ⟨by rfl, fun wz hSz => ?_⟩) (by assumption) ?_
        rotate_left
        · (first | (go_simp; done) | (go_simp; with_reducible rfl))
        try simp only [Act.put, List.setIfInBounds_toArray, List.set_cons_zero, List.set_cons_succ, List.getElem_toArray, List.getElem_cons_succ, List.getElem_cons_zero]
        refine wpAnyH_take (i := 22) (oi := _) (v := _) rfl (by kernel_rfl) (by kernel_rfl) (by kernel_rfl) (fun _ _ _ h => h) (ylb digest_wide rfl (by rfl) rfl (unhide HDA).1 (fun w' hw => (unhide H9).2.2.2.1.ext hw)) (by assumption) ?_
        try simp only [Act.put, List.setIfInBounds_toArray, List.set_cons_zero, List.set_cons_succ, List.getElem_toArray, List.getElem_cons_succ, List.getElem_cons_zero]
        refine wpAnyH_take (i := 23) (oi := _) (v := _) rfl (by kernel_rfl) (by kernel_rfl) (by kernel_rfl) (fun _ _ _ h => h) (ylb digest_wide rfl (by rfl) rfl (unhide HDA).1 (fun w' hw => (unhide H9).2.2.2.2.ext hw)) (by assumption) ?_
        try simp only [Act.put, List.setIfInBounds_toArray, List.set_cons_zero, List.set_cons_succ, List.getElem_toArray, List.getElem_cons_succ, List.getElem_cons_zero]
        refine wpAnyH_take (i := 24) (oi := _) (v := ?_) rfl (by kernel_rfl) (by kernel_rfl) (by kernel_rfl) (fun _ _ _ h => h) (Or.inl ⟨by rfl, fun wz hSz => ?_⟩) (by assumption) ?_
        rotate_left
        · (first | (go_simp; done) | (go_simp; with_reducible rfl))
        try simp only [Act.put, List.setIfInBounds_toArray, List.set_cons_zero, List.set_cons_succ, List.getElem_toArray, List.getElem_cons_succ, List.getElem_cons_zero]
        refine wpAnyH_take (i := 25) (oi := _) (v := ?_) rfl (by kernel_rfl) (by kernel_rfl) (by kernel_rfl) (fun _ _ _ h => h) (Or.inl ⟨by rfl, fun wz hSz => ?_⟩) (by assumption) ?_
        rotate_left
        · (first | (go_simp; done) | (go_simp; with_reducible rfl))
        try simp only [Act.put, List.setIfInBounds_toArray, List.set_cons_zero, List.set_cons_succ, List.getElem_toArray, List.getElem_cons_succ, List.getElem_cons_zero]
        refine wpAnyH_take (i := 26) (oi := _) (v := ?_) rfl (by kernel_rfl) (by kernel_rfl) (by kernel_rfl) (fun _ _ _ h => h) (Or.inl ⟨by rfl, fun wz hSz => ?_⟩) (by assumption) ?_
        rotate_left
        · (first | (go_simp; done) | (go_simp; with_reducible rfl))
        try simp only [Act.put, List.setIfInBounds_toArray, List.set_cons_zero, List.set_cons_succ, List.getElem_toArray, List.getElem_cons_succ, List.getElem_cons_zero]
        refine wpAnyH_take (i := 27) (oi := _) (v := ?_) rfl (by kernel_rfl) (by kernel_rfl) (by kernel_rfl) (fun _ _ _ h => h) (Or.inl ⟨by rfl, fun wz hSz => ?_⟩) (by assumption) ?_
        rotate_left
        · (first | (go_simp; done) | (go_simp; with_reducible rfl))
        try simp only [Act.put, List.setIfInBounds_toArray, List.set_cons_zero, List.set_cons_succ, List.getElem_toArray, List.getElem_cons_succ, List.getElem_cons_zero]
        refine wpAnyH_take (i := 28) (oi := _) (v := ?_) rfl (by kernel_rfl) (by kernel_rfl) (by kernel_rfl) (fun _ _ _ h => h) (Or.inl ⟨by rfl, fun wz hSz => ?_⟩) (by assumption) ?_
        rotate_left
        · (first | (go_simp; done) | (go_simp; with_reducible rfl))
        try simp only [Act.put, List.setIfInBounds_toArray, List.set_cons_zero, List.set_cons_succ, List.getElem_toArray, List.getElem_cons_succ, List.getElem_cons_zero]
        refine wpAnyH_take (i := 29) (oi := _) (v := ?_) rfl (by kernel_rfl) (by kernel_rfl) (by kernel_rfl) (fun _ _ _ h => h) (Or.inl ⟨by rfl, fun wz hSz => ?_⟩) (by assumption) ?_
        rotate_left
        · (first | (go_simp; done) | (go_simp; with_reducible rfl))
        try simp only [Act.put, List.setIfInBounds_toArray, List.set_cons_zero, List.set_cons_succ, List.getElem_toArray, List.getElem_cons_succ, List.getElem_cons_zero]
        refine wpAnyH_take (i := 30) (oi := _) (v := ?_) rfl (by kernel_rfl) (by kernel_rfl) (by kernel_rfl) (fun _ _ _ h => h) (Or.inl ⟨by rfl, fun wz hSz => ?_⟩) (by assumption) ?_
        rotate_left
        · (first | (go_simp; done) | (go_simp; with_reducible rfl))
        try simp only [Act.put, List.setIfInBounds_toArray, List.set_cons_zero, List.set_cons_succ, List.getElem_toArray, List.getElem_cons_succ, List.getElem_cons_zero]
        refine wpAnyH_take (i := 31) (oi := _) (v := ?_) rfl (by kernel_rfl) (by kernel_rfl) (by kernel_rfl) (fun _ _ _ h => h) (Or.inl ⟨by rfl, fun wz hSz => ?_⟩) (by assumption) ?_
        rotate_left
        · (first | (go_simp; done) | (go_simp; with_reducible rfl))
        try simp only [Act.put, List.setIfInBounds_toArray, List.set_cons_zero, List.set_cons_succ, List.getElem_toArray, List.getElem_cons_succ, List.getElem_cons_zero]
        refine wpAnyH_done (by kernel_rfl) ?_ _
        have H10 := hide ((unhide H9).2.2.1.trans hHeld)
        clear hHeld
        go_wp2
        go_ret
        exact ⟨rfl, unhide H10⟩

end Go.Proofs.YtjemfefkgfoikaaDoor
