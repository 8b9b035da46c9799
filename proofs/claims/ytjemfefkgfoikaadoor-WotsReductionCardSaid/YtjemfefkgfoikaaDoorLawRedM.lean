/-
  The law WotsReduction: other chain values that lead to the public key.
-/
import Derived.Test.YtjemfefkgfoikaaDoorSame
import Derived.Test.YtjemfefkgfoikaaDoorTwo
import Derived.Test.YtjemfefkgfoikaaDoorLawVer
namespace Go.Proofs.YtjemfefkgfoikaaDoor
open Go.RowKit

theorem GB.chgS {w0 wr w1 : World} {B n : Nat} {v : Value} {l : List UInt8} {S : Nat → Prop} (h : GB w0 B v n l wr) (hc : Chg S wr w1) (h1 : ∀ b, v.ownBlock = some b → ¬ S b) (h2 : ∀ b, S b → B ≤ b) : GB w0 B v n l w1 :=
  ⟨ownsRow_chg h.own hc h1, h.ext.trans' hc (fun _ _ h => h.elim) (fun i hi e => by have := h2 i e; have := h.base; omega), h.base, Nat.le_trans h.room hc.size⟩
theorem signS_at (seed : List UInt8) (index : Int) (m : List UInt8) {n k : Nat} (h : k < n) : (signS seed index m n)[k]'(by rw [signS_length]; exact h) = signAt seed index m k := by
  unfold signS
  simp
set_option maxRecDepth 100000 in
set_option maxHeartbeats 16000000 in
theorem red_main (seed : List UInt8) (index : Int) (m : List UInt8) (c : List (List UInt8)) (A : Option Addr) (c' : Nat) (w : World) (hM : ShaMem w) (hv : seed.length = 16) (hm : m.length = 16) (h1 : -9223372036854775808 ≤ index) (h2 : index < 9223372036854775808) (hD : Digs w (.slice A c.length c') c)
    (hc : c.length = 68) (hsm : ¬ c = signS seed index m 68) (hk : recoverS m (chainAt c) = publicS seed index) (sarr marr : Array Value) (hsarr : (seed.map u8v).toArray = sarr) (hmarr : (m.map u8v).toArray = marr) :
    Calls Tryd.prog 8 #[.agg sarr, .int .i64 index, .agg marr, .slice A 68 c'] w fun e w' => e = .returned (.bool true) ∧ Ext w w' := by
  have HM := hide hM
  have HSZ := hide (show sarr.size = 16 ∧ marr.size = 16 from by rw [← hsarr, ← hmarr]; simp; omega)
  have HZ := hide (show (Ext w ((w.alloc (.cells sarr 23)).alloc (.cells marr 23)) ∧ Blk ((w.alloc (.cells sarr 23)).alloc (.cells marr 23)) w.heap.size 23 sarr ∧ Blk ((w.alloc (.cells sarr 23)).alloc (.cells marr 23)) (w.heap.size + 1) 23 marr) from ⟨((Ext.refl w).alloc _).alloc _, (Blk.new w _ _).alloc _, Blk.new' _ _ _ (by simp)⟩)
  have HSan := hide (fun W (hE : Ext w W) => sanity4_any W (hM.ext hE))
  have HDg := hide (fun W => digits_any m W hm)
  have HSg := hide (fun W (hE : Ext w W) => sign_any seed index m W (hM.ext hE) hv hm h1 h2)
  have HP := hide (fun W (hE : Ext w W) => public_any seed index W (hM.ext hE) hv h1 h2)
  rw [hsarr, hmarr] at HSg
  rw [hmarr] at HDg
  rw [hsarr] at HP
  have HRc := hide (fun W (hE : Ext w W) => recover_yes m c _ W (hM.ext hE) hm hc (hD.ext hE))
  have hrl : (recoverS m (chainAt c)).length = 16 := digestS_length _ _
  have hpl : (publicS seed index).length = 16 := digestS_length _ _
  have hne := fun W => ne16 hrl hpl W
  rw [decide_eq_true hk] at hne
  obtain ⟨da, hda⟩ : ∃ r, ((recoverS m (chainAt c)).map u8v).toArray = r := ⟨_, rfl⟩
  obtain ⟨pa, hpa⟩ : ∃ r, ((publicS seed index).map u8v).toArray = r := ⟨_, rfl⟩
  have HDA := hide (show da.size = 16 ∧ da.all (·.oneCell') = true from by rw [← hda]; exact ⟨by simpa using hrl, bytes_one _⟩)
  rw [hda, hmarr] at HRc
  rw [hpa] at HP
  rw [hda, hpa] at hne
  have HSm := hide (fun W (A2 : Option Addr) (c2 : Nat) (hE : Ext w W) (h2 : Digs W (.slice A2 68 c2) (signS seed index m 68)) => lsame_any c (signS seed index m 68) (.slice A c.length c') (.slice A2 68 c2) W (hD.ext hE) h2)
  rw [decide_eq_false hsm] at HSm
  -- the plain law
  have HPl := hide (show ∃ k, k < 68 ∧ chainAt c k ≠ signAt seed index m k from by
    by_cases h : ∃ k, k < 68 ∧ chainAt c k ≠ signAt seed index m k
    · exact h
    · exfalso
      refine hsm (List.ext_getElem (by rw [hc, signS_length]) fun k h3 h4 => ?_)
      have hk68 : k < 68 := by omega
      have h5 : chainAt c k = signAt seed index m k := Classical.byContradiction fun hn => h ⟨k, hk68, hn⟩
      rw [chainAt_get h3] at h5
      rw [h5]
      exact (signS_at seed index m hk68).symm)
  have HKey := hide (show digestS 4 [endsS (fun k => advS k (chainAt c k) (3 - digC m k)) 68] = publicS seed index ∧ digestS 4 [endsS (fun k => advS k (signAt seed index m k) (3 - digC m k)) 68] = publicS seed index from ⟨hk, wots_verifies seed index m⟩)
  have HCL := hide (fun k => chainAt_length hD.1 k)
  have HSL := hide (fun k => signAt_length seed index m k)
  have hD0 := hD
  obtain ⟨bc, oc, cc, ecc, -, -, -, -⟩ := hD0.at (k := 0) (by omega)
  cases ecc
  have HCR := hide (fun k (hk : k < 68) (W : World) (hE : Ext w W) => show W.rangeAt bc (oc + k * 16) ((chainAt c k).map u8v) from by
    obtain ⟨b2, o2, c2, e, _, _, _, hr⟩ := (hD.ext hE).at (k := k) (by omega)
    cases e
    rw [chainAt_get (by omega)]
    exact hr)
  rw [hc] at HRc HSm
  clear hD0 hM hsarr hmarr hD hda hpa hv hm h1 h2 hrl hpl hsm hk hc
  go_enter Tryd.func8, Tryd.ntmps8
  go_upto_region 3 with fail
  generalize hW0 : ((w.alloc (.cells sarr 23)).alloc (.cells marr 23)) = W0 at *
  go_upto_region 8 with (first
    | (refine wpList_loadB (ty := 23) (t := 23) (x := .tmp 4) rfl rfl digest_wide rfl (unhide HZ).2.1 (unhide HSZ).1 ?_)
    | (refine wpList_loadB (ty := 23) (t := 23) (x := .tmp 6) rfl rfl digest_wide rfl (unhide HZ).2.2 (unhide HSZ).2 ?_)
    | (go_at_call 23; refine (unhide HSg _ (unhide HZ).1).mono ?_; rintro e w2 ⟨A2, c2, rfl, hG⟩; have H2 := hide (And.intro ((unhide HZ).1.trans hG.ext) (And.intro ((unhide HZ).2.1.ext hG.ext) (And.intro ((unhide HZ).2.2.ext hG.ext) hG.digs))); clear hG)
    | (refine wpList_loadB (ty := 23) (t := 23) (x := .tmp 6) rfl rfl digest_wide rfl (unhide H2).2.2.1 (unhide HSZ).2 ?_)
    | (go_at_call 18; refine (unhide HRc _ (unhide H2).1).mono ?_; rintro e w3 ⟨rfl, hE⟩; have H3 := hide (And.intro ((unhide H2).1.trans hE) (And.intro ((unhide H2).2.1.ext hE) (And.intro ((unhide H2).2.2.1.ext hE) ((unhide H2).2.2.2.ext hE)))); clear hE)
    | (refine wpList_storeB (ty := 23) (t := 23) (x := .tmp 10) (y := .tmp 32) rfl rfl digest_wide rfl rfl (Blk.new w3 _ _) rfl (unhide HDA).1 (unhide HDA).2 ?_; intro w4 hb4 hc4 hz4; have H4 := hide (And.intro (made_ext (unhide H3).1 hc4) (And.intro ((unhide H3).2.1.ext (made_ext1 hc4)) (And.intro ((unhide H3).2.2.1.ext (made_ext1 hc4)) (And.intro ((unhide H3).2.2.2.ext (made_ext1 hc4)) hb4)))); clear hb4 hc4 hz4)
    | (refine wpList_loadB (ty := 23) (t := 23) (x := .tmp 6) rfl rfl digest_wide rfl (unhide H4).2.2.1 (unhide HSZ).2 ?_)
    | (go_at_call 16; refine (unhide HDg _).mono ?_; rintro e w5 ⟨g, rfl, hb5, hg5, hE⟩; have H5 := hide (And.intro ((unhide H4).1.trans hE) (And.intro ((unhide H4).2.1.ext hE) (And.intro ((unhide H4).2.2.2.1.ext hE) (And.intro ((unhide H4).2.2.2.2.ext hE) hb5)))); clear hb5 hg5 hE))
  clear H2 H3 H4 hW0 HZ HDg HSg HRc
  refine wp_region_held_drew (S := fun W => Ext w5 W) (by kernel_rfl) ((Ext.refl _).drew) (fun hHeld => ?_)
  refine wpAnyH_take (i := 0) (oi := _) (v := ?_) rfl (by kernel_rfl) (by kernel_rfl) (by kernel_rfl) (fun _ _ _ h => h) (Or.inl ⟨by rfl, fun wz hSz => ?_⟩) (by assumption) ?_
  rotate_left
  · (first | (go_simp; done) | (go_simp; with_reducible rfl))
  try simp only [Act.put, List.setIfInBounds_toArray, List.set_cons_zero, List.set_cons_succ, List.getElem_toArray, List.getElem_cons_succ, List.getElem_cons_zero]
  refine wpAnyH_take (i := 1) (oi := _) (v := ?_) rfl (by kernel_rfl) (by kernel_rfl) (by kernel_rfl) (fun _ _ _ h => h) (Or.inl ⟨by rfl, fun wz hSz => ?_⟩) (by assumption) ?_
  rotate_left
  · (first | (go_simp; done) | (go_simp; with_reducible rfl))
  try simp only [Act.put, List.setIfInBounds_toArray, List.set_cons_zero, List.set_cons_succ, List.getElem_toArray, List.getElem_cons_succ, List.getElem_cons_zero]
  refine wpAnyH_take (i := 2) (oi := _) (v := ?_) rfl (by kernel_rfl) (by kernel_rfl) (by kernel_rfl) (fun _ _ _ h => h) (Or.inl ⟨by rfl, fun wz hSz => ?_⟩) (by assumption) ?_
  rotate_left
  · (first | (go_simp; done) | (go_simp; with_reducible rfl))
  try simp only [Act.put, List.setIfInBounds_toArray, List.set_cons_zero, List.set_cons_succ, List.getElem_toArray, List.getElem_cons_succ, List.getElem_cons_zero]
  refine wpAnyH_take (i := 3) (oi := _) (v := ?_) rfl (by kernel_rfl) (by kernel_rfl) (by kernel_rfl) (fun _ _ _ h => h) (Or.inl ⟨by rfl, fun wz hSz => ?_⟩) (by assumption) ?_
  rotate_left
  · (first | (go_simp; done) | (go_simp; with_reducible rfl))
  try simp only [Act.put, List.setIfInBounds_toArray, List.set_cons_zero, List.set_cons_succ, List.getElem_toArray, List.getElem_cons_succ, List.getElem_cons_zero]
  refine wpAnyH_take (i := 4) (oi := _) (v := ?_) rfl (by kernel_rfl) (by kernel_rfl) (by kernel_rfl) (fun _ _ _ h => h) (Or.inl ⟨by rfl, fun wz hSz => ?_⟩) (by assumption) ?_
  rotate_left
  · (first | (go_simp; done) | (go_simp; with_reducible rfl))
  try simp only [Act.put, List.setIfInBounds_toArray, List.set_cons_zero, List.set_cons_succ, List.getElem_toArray, List.getElem_cons_succ, List.getElem_cons_zero]
  refine wpAnyH_ready (rs := [5]) (by kernel_rfl) (by simp) (AllReadyH.cons (o := _) rfl (fun K hK => ?_) AllReadyH.nil)
  try go_simp
  (refine (unhide HSm _ _ _ ((unhide H5).1.trans hHeld) ((unhide H5).2.2.1.ext hHeld)).mono ?_; rintro e w6 ⟨rfl, hE⟩; have hS := Ext.trans hHeld hE; clear hE hHeld)
  refine hK.out _ _ ?_ (fun hHeld => ?_)
  · exact hS
  clear hK K
  try simp only [Act.put, List.setIfInBounds_toArray, List.set_cons_zero, List.set_cons_succ, List.getElem_toArray, List.getElem_cons_succ, List.getElem_cons_zero]
  refine wpAnyH_take (i := 6) (oi := _) (v := ?_) rfl (by kernel_rfl) (by kernel_rfl) (by kernel_rfl) (fun _ _ _ h => h) (Or.inl ⟨by rfl, fun wz hSz => ?_⟩) (by assumption) ?_
  rotate_left
  · (first | (go_simp; done) | (go_simp; with_reducible rfl))
  try simp only [Act.put, List.setIfInBounds_toArray, List.set_cons_zero, List.set_cons_succ, List.getElem_toArray, List.getElem_cons_succ, List.getElem_cons_zero]
  refine wpAnyH_take (i := 7) (oi := _) (v := ?_) rfl (by kernel_rfl) (by kernel_rfl) (by kernel_rfl) (fun _ _ _ h => h) (Or.inl ⟨by rfl, fun wz hSz => ?_⟩) (by assumption) ?_
  rotate_left
  · (first | (go_simp; done) | (go_simp; with_reducible rfl))
  try simp only [Act.put, List.setIfInBounds_toArray, List.set_cons_zero, List.set_cons_succ, List.getElem_toArray, List.getElem_cons_succ, List.getElem_cons_zero]
  refine wpAnyH_take (i := 8) (oi := _) (v := _) rfl (by kernel_rfl) (by kernel_rfl) (by kernel_rfl) (fun _ _ _ h => h) (ylb digest_wide rfl (by rfl) rfl (unhide HDA).1 (fun w' hw => (unhide H5).2.2.2.1.ext hw)) (by assumption) ?_
  try simp only [Act.put, List.setIfInBounds_toArray, List.set_cons_zero, List.set_cons_succ, List.getElem_toArray, List.getElem_cons_succ, List.getElem_cons_zero]
  refine wpAnyH_take (i := 9) (oi := _) (v := _) rfl (by kernel_rfl) (by kernel_rfl) (by kernel_rfl) (fun _ _ _ h => h) (ylb digest_wide rfl (by rfl) rfl (unhide HSZ).1 (fun w' hw => (unhide H5).2.1.ext hw)) (by assumption) ?_
  try simp only [Act.put, List.setIfInBounds_toArray, List.set_cons_zero, List.set_cons_succ, List.getElem_toArray, List.getElem_cons_succ, List.getElem_cons_zero]
  refine wpAnyH_take (i := 10) (oi := _) (v := ?_) rfl (by kernel_rfl) (by kernel_rfl) (by kernel_rfl) (fun _ _ _ h => h) (Or.inl ⟨by rfl, fun wz hSz => ?_⟩) (by assumption) ?_
  rotate_left
  · (first | (go_simp; done) | (go_simp; with_reducible rfl))
  try simp only [Act.put, List.setIfInBounds_toArray, List.set_cons_zero, List.set_cons_succ, List.getElem_toArray, List.getElem_cons_succ, List.getElem_cons_zero]
  refine wpAnyH_ready (rs := [11]) (by kernel_rfl) (by simp) (AllReadyH.cons (o := _) rfl (fun K hK => ?_) AllReadyH.nil)
  try go_simp
  (refine (unhide HP _ ((unhide H5).1.trans hHeld)).mono ?_; rintro e w7 ⟨rfl, hE⟩; have hS := Ext.trans hHeld hE; clear hE hHeld)
  refine hK.out _ _ ?_ (fun hHeld => ?_)
  · exact hS
  clear hK K
  try simp only [Act.put, List.setIfInBounds_toArray, List.set_cons_zero, List.set_cons_succ, List.getElem_toArray, List.getElem_cons_succ, List.getElem_cons_zero]
  refine wpAnyH_take (i := 12) (oi := _) (v := ?_) rfl (by kernel_rfl) (by kernel_rfl) (by kernel_rfl) (fun _ _ _ h => h) (Or.inl ⟨by rfl, fun wz hSz => ?_⟩) (by assumption) ?_
  rotate_left
  · (first | (go_simp; done) | (go_simp; with_reducible rfl))
  try simp only [Act.put, List.setIfInBounds_toArray, List.set_cons_zero, List.set_cons_succ, List.getElem_toArray, List.getElem_cons_succ, List.getElem_cons_zero]
  refine wpAnyH_take (i := 13) (oi := _) (v := ?_) rfl (by kernel_rfl) (by kernel_rfl) (by kernel_rfl) (fun _ _ _ h => h) (Or.inl ⟨by rfl, fun wz hSz => ?_⟩) (by assumption) ?_
  rotate_left
  · (first | (go_simp; done) | (go_simp; with_reducible rfl))
  try simp only [Act.put, List.setIfInBounds_toArray, List.set_cons_zero, List.set_cons_succ, List.getElem_toArray, List.getElem_cons_succ, List.getElem_cons_zero]
  refine wpAnyH_done (by kernel_rfl) ?_ _
  obtain ⟨b2, o2, rfl⟩ := show ∃ b o, A2 = some ⟨b, o, none⟩ from by
    obtain ⟨b2, o2, c2, e, _⟩ := (unhide H5).2.2.1.at (k := 0) (by rw [signS_length]; omega)
    cases e
    exact ⟨_, _, rfl⟩
  have H8 := hide (And.intro ((unhide H5).1.trans hHeld) (And.intro ((unhide H5).2.2.1.ext hHeld) ((unhide H5).2.2.2.2.ext hHeld)))
  clear hHeld H5 HP HSm
  go_wp2_with fail
  obtain ⟨C, hC⟩ : ∃ f, chainAt c = f := ⟨_, rfl⟩
  obtain ⟨D, hDf⟩ : ∃ f, signAt seed index m = f := ⟨_, rfl⟩
  rw [hC] at HCL HCR HPl HKey
  rw [hDf] at HSL HPl HKey
  have HDR := hide (fun k (hk : k < 68) (W : World) (hE : Digs W (.slice (some ⟨b2, o2, none⟩) 68 c2) (signS seed index m 68)) => show W.rangeAt b2 (o2 + k * 16) ((D k).map u8v) from by
    obtain ⟨b2, o2, c2, e, _, _, _, hr⟩ := hE.at (k := k) (by rw [signS_length]; omega)
    cases e
    rw [signS_at seed index m hk, hDf] at hr
    exact hr)
  have hol : b2 < w7.heap.size := (unhide H8).2.1.own_lt (by rw [signS_length]; omega) _ rfl
  have HSt := hide (fun k (v : List UInt8) (hk : k < 68) (hv : v.length = 16) W (hE : Ext w W) => lstep_any k v W ((unhide HM).ext hE) hv (by omega))
  have HF := hide (endsS_step (fun k => advS k (C k) (3 - digC m k)))
  have HG := hide (endsS_step (fun k => advS k (D k) (3 - digC m k)))
  clear hC
  go_loopw [13, 14, 69] (fun x y i wr => ∃ (k : Nat) (A1 A2 : Option Addr) (c1 c3 : Nat), k ≤ 68 ∧ i = .int .i64 k ∧ x = .slice A1 (16 * k) c1 ∧ y = .slice A2 (16 * k) c3 ∧
    Hid (GB w w7.heap.size (.slice A1 (16 * k) c1) (16 * k) (endsS (fun k => advS k (C k) (3 - digC m k)) k) wr ∧ GB w w7.heap.size (.slice A2 (16 * k) c3) (16 * k) (endsS (fun k => advS k (D k) (3 - digC m k)) k) wr ∧
      (∀ b, (Value.slice A1 (16 * k) c1).ownBlock = some b → (Value.slice A2 (16 * k) c3).ownBlock ≠ some b) ∧ Chg (fun b => w7.heap.size ≤ b) w7 wr ∧ ∀ j, j < k → Apart j (C j) (D j) (3 - digC m j))) (fun _ _ i _ => 68 - (intOf i).toNat)
  case atStart => exact ⟨0, none, none, 0, 0, by omega, rfl, rfl, rfl, hide ⟨GB.nil (unhide H8).1 (unhide H8).1.size' (Nat.le_refl _), GB.nil (unhide H8).1 (unhide H8).1.size' (Nat.le_refl _), (fun b h => by simp [Value.ownBlock] at h), Chg.refl _ _, fun j hj => by omega⟩⟩
  case round =>
    obtain ⟨k, A1, A2, c1, c3, hk, rfl, rfl, rfl, HI⟩ := hrel
    obtain ⟨wo, rfl⟩ : ∃ x, x = wr := ⟨_, rfl⟩
    by_cases hlt : k < 68
    · have HD8 := hide ((unhide H8).2.1.chg (unhide HI).2.2.2.1 (fun b hb e => by have : b = b2 := (Option.some.inj hb).symm; omega))
      have hgg : g < w7.heap.size := (unhide H8).2.2.lt
      have HL8 := hide ((unhide H8).2.2.chg (unhide HI).2.2.2.1 (by omega))
      have HCk := hide (fun W (hE : Ext wo W) => unhide HCR k hlt W ((unhide HI).1.ext.trans hE))
      have HDk := hide (fun W (hE : Ext wo W) => unhide HDR k hlt W ((unhide HD8).ext hE))
      have HLC := hide (unhide HCL k)
      have HLD := hide (unhide HSL k)
      have hkI : (k : Int) < 68 := by omega
      obtain ⟨cc, hcc⟩ : ∃ l, (C k).map u8v = l := ⟨_, rfl⟩
      obtain ⟨dc, hdc⟩ : ∃ l, (D k).map u8v = l := ⟨_, rfl⟩
      have HCS := hide (show cc.length = 16 ∧ dc.length = 16 ∧ cc.toArray.all (·.oneCell') = true ∧ dc.toArray.all (·.oneCell') = true from by rw [← hcc, ← hdc]; exact ⟨by simpa using unhide HLC, by simpa using unhide HLD, bytes_one _, bytes_one _⟩)
      rw [hcc] at HCk
      rw [hdc] at HDk
      go_upto_region 14 with fail
      refine region_facts 12 _ [some 72, some 73, some 74, some 75, some 76, some 77, some 78, some 79, some 16, some 17, none, none] [10, 11]
        (TwoB 8 wo) (twoLink 8) (TwoF (fun i v => match i with | 0 => v = .slice (some ⟨bc, oc, none⟩) 68 c' | 1 => v = .int .i64 k | 2 => v = .pointer (some ⟨bc, oc + k * 16, none⟩) | 3 => v = .agg cc.toArray | 4 => v = .slice (some ⟨b2, o2, none⟩) 68 c2 | 5 => v = .int .i64 k | 6 => v = .pointer (some ⟨b2, o2 + k * 16, none⟩) | 7 => v = .agg dc.toArray | _ => True) 8 wo cc.toArray dc.toArray)
        rfl (by kernel_rfl) (by simp) (by kernel_rfl) (by kernel_rfl) (by kernel_rfl) (by kernel_rfl) (.inl (by kernel_rfl)) (fun _ => ⟨(Ext.refl _).drew, fun h => by cases h⟩) ?steps ?fin
      case steps =>
        simp only [List.take_succ_cons, List.take_zero, StepsOK, Nat.zero_add, Nat.reduceAdd, and_true]
        refine ⟨?_, ?_, ?_, ?_, ?_, ?_, ?_, ?_, ?_, ?_, ?_, ?_⟩
        · intro L xs W K hB hC hd hL hK
          simp only [setAll, putL, Act.put, List.setIfInBounds_toArray, List.set_cons_succ, List.set_cons_zero, Nat.zero_add, Nat.reduceAdd] at hK ⊢
          go_simp
          exact hK _ _ rfl (fun j _ _ _ _ h => h) (hB.other (Ext.refl _) (by omega) (by omega))
        · intro L xs W K hB hC hd hL hK
          simp only [setAll, putL, Act.put, List.setIfInBounds_toArray, List.set_cons_succ, List.set_cons_zero, Nat.zero_add, Nat.reduceAdd] at hK ⊢
          go_simp
          exact hK _ _ rfl (fun j _ _ _ _ h => h) (hB.other (Ext.refl _) (by omega) (by omega))
        · intro L xs W K hB hC hd hL hK
          simp only [setAll, putL, Act.put, List.setIfInBounds_toArray, List.set_cons_succ, List.set_cons_zero, Nat.zero_add, Nat.reduceAdd] at hK ⊢
          have d0 : xs 0 = _ := (hd 0 (by omega) (by kernel_rfl)).2
          have d1 : xs 1 = _ := (hd 1 (by omega) (by kernel_rfl)).2
          simp only [d0, d1] at hK ⊢
          go_simp
          exact hK _ _ rfl (fun j _ _ _ _ h => h) (hB.other (Ext.refl _) (by omega) (by omega))
        · intro L xs W K hB hC hd hL hK
          simp only [setAll, putL, Act.put, List.setIfInBounds_toArray, List.set_cons_succ, List.set_cons_zero, Nat.zero_add, Nat.reduceAdd] at hK ⊢
          have d2 : xs 2 = _ := (hd 2 (by omega) (by kernel_rfl)).2
          rw [if_pos (by rfl)]
          refine wp_loadM (x := .tmp 74) rfl digest_wide d2 (unhide HCk _ hB.1) (unhide HCS).1 ?_
          exact hK _ _ rfl (fun j _ _ _ _ h => h) (hB.other (Ext.refl _) (by omega) (by omega))
        · intro L xs W K hB hC hd hL hK
          simp only [setAll, putL, Act.put, List.setIfInBounds_toArray, List.set_cons_succ, List.set_cons_zero, Nat.zero_add, Nat.reduceAdd] at hK ⊢
          go_simp
          exact hK _ _ rfl (fun j _ _ _ _ h => h) (hB.other (Ext.refl _) (by omega) (by omega))
        · intro L xs W K hB hC hd hL hK
          simp only [setAll, putL, Act.put, List.setIfInBounds_toArray, List.set_cons_succ, List.set_cons_zero, Nat.zero_add, Nat.reduceAdd] at hK ⊢
          go_simp
          exact hK _ _ rfl (fun j _ _ _ _ h => h) (hB.other (Ext.refl _) (by omega) (by omega))
        · intro L xs W K hB hC hd hL hK
          simp only [setAll, putL, Act.put, List.setIfInBounds_toArray, List.set_cons_succ, List.set_cons_zero, Nat.zero_add, Nat.reduceAdd] at hK ⊢
          have d4 : xs 4 = _ := (hd 4 (by omega) (by kernel_rfl)).2
          have d5 : xs 5 = _ := (hd 5 (by omega) (by kernel_rfl)).2
          simp only [d4, d5] at hK ⊢
          go_simp
          exact hK _ _ rfl (fun j _ _ _ _ h => h) (hB.other (Ext.refl _) (by omega) (by omega))
        · intro L xs W K hB hC hd hL hK
          simp only [setAll, putL, Act.put, List.setIfInBounds_toArray, List.set_cons_succ, List.set_cons_zero, Nat.zero_add, Nat.reduceAdd] at hK ⊢
          have d6 : xs 6 = _ := (hd 6 (by omega) (by kernel_rfl)).2
          rw [if_pos (by rfl)]
          refine wp_loadM (x := .tmp 78) rfl digest_wide d6 (unhide HDk _ hB.1) (unhide HCS).2.1 ?_
          exact hK _ _ rfl (fun j _ _ _ _ h => h) (hB.other (Ext.refl _) (by omega) (by omega))
        · intro L xs W K hB hC hd hL hK
          simp only [setAll, putL, Act.put, List.setIfInBounds_toArray, List.set_cons_succ, List.set_cons_zero, Nat.zero_add, Nat.reduceAdd] at hK ⊢
          go_simp
          exact hK _ _ (Fresh.new _ W hB.1.size' _ (by rfl)) (fun j _ _ _ _ h => h.ext ((Ext.refl _).alloc _)) (hB.first ((Ext.refl _).alloc _) (fun hl => Fresh.ne (hL 9 (by omega) (by omega) hl (by kernel_rfl))))
        · intro L xs W K hB hC hd hL hK
          simp only [setAll, putL, Act.put, List.setIfInBounds_toArray, List.set_cons_succ, List.set_cons_zero, Nat.zero_add, Nat.reduceAdd] at hK ⊢
          go_simp
          exact hK _ _ (Fresh.new _ W hB.1.size' _ (by rfl)) (fun j _ _ _ _ h => h.ext ((Ext.refl _).alloc _)) (hB.second ((Ext.refl _).alloc _) (fun hl => Fresh.ne (hL 8 (by omega) (by omega) hl (by kernel_rfl))))
        · intro L xs W K hB hC hd hL hK
          simp only [setAll, putL, Act.put, List.setIfInBounds_toArray, List.set_cons_succ, List.set_cons_zero, Nat.zero_add, Nat.reduceAdd] at hK ⊢
          have dv : xs 3 = _ := (hd 3 (by omega) (by kernel_rfl)).2
          obtain ⟨l8, gx, e8, hg8, cs, hcs, hb8⟩ := hd 8 (by omega) (by kernel_rfl)
          have e8' : xs 8 = ptr gx := e8
          rw [if_pos (by rfl)]
          refine wp_storeB (ty := 23) (x := .tmp 16) (y := .tmp 75) rfl digest_wide e8 dv hb8 hcs (by simpa using (unhide HCS).1) (unhide HCS).2.2.1 ?_
          intro W' hb' hc' hz'
          refine hK undef W' ⟨gx, e8', hg8, hb'⟩ (fun j _ hne hl hkp h => h.set hc' (fun e => ?_) (fun e => ?_) (fun e => ?_) (fun e => ?_)) (hB.store hc' hg8 (by omega) (by omega))
          · subst e
            exact nomatch (hkp.symm.trans (by kernel_rfl) : true = false)
          · subst e
            exact fun e => hB.2 l8 hl (e8'.trans e.symm)
          · exact absurd e hne
          · subst e
            exact fun e => hB.2 l8 (hC _ _ hl (by kernel_rfl)) (e8'.trans e.symm)
        · intro L xs W K hB hC hd hL hK
          simp only [setAll, putL, Act.put, List.setIfInBounds_toArray, List.set_cons_succ, List.set_cons_zero, Nat.zero_add, Nat.reduceAdd] at hK ⊢
          have dv : xs 7 = _ := (hd 7 (by omega) (by kernel_rfl)).2
          obtain ⟨l9, gx, e9, hg9, cs, hcs, hb9⟩ := hd 9 (by omega) (by kernel_rfl)
          have e9' : xs 9 = ptr gx := e9
          rw [if_pos (by rfl)]
          refine wp_storeB (ty := 23) (x := .tmp 17) (y := .tmp 79) rfl digest_wide e9 dv hb9 hcs (by simpa using (unhide HCS).2.1) (unhide HCS).2.2.2 ?_
          intro W' hb' hc' hz'
          refine hK undef W' ⟨gx, e9', hg9, hb'⟩ (fun j _ hne hl hkp h => h.set hc' (fun e => ?_) (fun e => ?_) (fun e => ?_) (fun e => ?_)) (hB.store hc' hg9 (by omega) (by omega))
          · subst e
            exact fun e => hB.2 hl l9 (e.trans e9'.symm)
          · subst e
            exact nomatch (hkp.symm.trans (by kernel_rfl) : true = false)
          · subst e
            exact fun e => hB.2 (hC _ _ hl (by kernel_rfl)) l9 (e.trans e9'.symm)
          · exact absurd e hne
      case fin =>
        intro L xs W hL hB hFF
        obtain ⟨g1, e1, hg1, hb1⟩ := hFF 10 (by omega) (by rfl)
        obtain ⟨g2, e2, hg2, hb2⟩ := hFF 11 (by omega) (by rfl)
        have e1' : xs 8 = ptr g1 := e1
        have e2' : xs 9 = ptr g2 := e2
        have hd12 : g1 ≠ g2 := fun e => hB.2 (hL 8 (by omega)) (hL 9 (by omega)) (by rw [e1', e2', e])
        have hB1 := hB.1
        refine wpAny_done (by kernel_rfl) ?_ _
        simp only [setAll, putL, List.setIfInBounds_toArray, List.set_cons_succ, List.set_cons_zero, Nat.zero_add, Nat.reduceAdd]
        generalize xs 0 = u0
        generalize xs 1 = u1
        generalize xs 2 = u2
        generalize xs 3 = u3
        generalize xs 4 = u4
        generalize xs 5 = u5
        generalize xs 6 = u6
        generalize xs 7 = u7
        rw [e1', e2']
        unfold ptr
        have HN := hide (And.intro hd12 (And.intro hg1 hg2))
        have HB := hide (And.intro hb1 (And.intro hb2 hB1))
        clear hB hFF e1 e2 e1' e2' hb1 hb2 hB1 hg1 hg2 hL hd12
        have cdg : W.cell? ⟨g, k, none⟩ = some (.int .i64 ((digC m k : Nat) : Int)) := by rw [((unhide HL8).ext (unhide HB).2.2).cell]; exact icells_getA _ hlt
        have hdk := digC_le m k
        obtain ⟨n, hn⟩ : ∃ n, 3 - digC m k = n := ⟨_, rfl⟩
        have e3 : IntKind.i64.wrap (3 - ((digC m k : Nat) : Int)) = (n : Int) := by rw [IntKind.wrap_i64]; omega
        go_wp2_with fail
        clear cdg
        go_loopw [85] (fun i wx => ∃ j : Nat, j ≤ n ∧ i = .int .i64 j ∧ Hid (Blk wx g1 23 ((advS k (C k) j).map u8v).toArray ∧ Blk wx g2 23 ((advS k (D k) j).map u8v).toArray ∧ Chg (fun b => b = g1 ∨ b = g2) W wx ∧ Apart k (C k) (D k) j)) (fun i _ => n - (intOf i).toNat)
        case atStart => exact ⟨0, by omega, rfl, hide ⟨by rw [show advS k (C k) 0 = C k from rfl, hcc]; exact (unhide HB).1, by rw [show advS k (D k) 0 = D k from rfl, hdc]; exact (unhide HB).2.1, Chg.refl _ _, fun i hi => by omega⟩⟩
        case round =>
          obtain ⟨j, hj, rfl, HJ⟩ := hrel
          have HEW := hide (show Ext w wr from ((unhide HI).1.ext.trans (unhide HB).2.2).trans' (unhide HJ).2.2.1 (fun _ _ h => h) (fun b hb e => by have := (unhide HI).1.ext.size'; have := (unhide HN).2; omega))
          have HLa := hide (advS_length k (C k) (unhide HLC) j)
          have HLb := hide (advS_length k (D k) (unhide HLD) j)
          by_cases hjt : j < n
          · have HLa1 := hide (advS_length k (C k) (unhide HLC) (j + 1))
            have HLb1 := hide (advS_length k (D k) (unhide HLD) (j + 1))
            have HSa := hide (unhide HSt k (advS k (C k) j) hlt (unhide HLa))
            have HSb := hide (unhide HSt k (advS k (D k) j) hlt (unhide HLb))
            have HEa := hide (show stepS k (advS k (C k) j) = advS k (C k) (j + 1) from rfl)
            have HEb := hide (show stepS k (advS k (D k) j) = advS k (D k) (j + 1) from rfl)
            rw [unhide HEa] at HSa
            rw [unhide HEb] at HSb
            have HAp := hide (show (advS k (C k) j = advS k (D k) j ∨ advS k (C k) (j + 1) ≠ advS k (D k) (j + 1)) → Apart k (C k) (D k) (j + 1) from fun h i hi hn => by
              rcases Nat.lt_or_ge i j with h1 | h1
              · exact (unhide HJ).2.2.2 i h1 hn
              · obtain rfl : i = j := by omega
                exact h.elim (fun e => absurd e hn) id)
            have hn1 := fun W => ne16 (unhide HLa) (unhide HLb) W
            have hq1 := fun W => eq16 (unhide HLa1) (unhide HLb1) W
            generalize hca : advS k (C k) (j + 1) = ca at *
            generalize hcb : advS k (D k) (j + 1) = cb at *
            have HAQ := hide (And.intro hca hcb)
            clear hca hcb
            generalize advS k (C k) j = a at *
            generalize advS k (D k) j = b at *
            have hjI : (j : Int) < (n : Int) := by omega
            obtain ⟨aA, haA⟩ : ∃ r, (a.map u8v).toArray = r := ⟨_, rfl⟩
            obtain ⟨bA, hbA⟩ : ∃ r, (b.map u8v).toArray = r := ⟨_, rfl⟩
            obtain ⟨caA, hcaA⟩ : ∃ r, (ca.map u8v).toArray = r := ⟨_, rfl⟩
            obtain ⟨cbA, hcbA⟩ : ∃ r, (cb.map u8v).toArray = r := ⟨_, rfl⟩
            have HAZ := hide (show aA.size = 16 ∧ bA.size = 16 ∧ caA.size = 16 ∧ cbA.size = 16 ∧ caA.all (·.oneCell') = true ∧ cbA.all (·.oneCell') = true from by
              rw [← haA, ← hbA, ← hcaA, ← hcbA]
              exact ⟨by simpa using unhide HLa, by simpa using unhide HLb, by simpa using unhide HLa1, by simpa using unhide HLb1, bytes_one _, bytes_one _⟩)
            have HAE := hide (And.intro hcaA hcbA)
            rw [haA, hcaA] at HSa
            rw [hbA, hcbA] at HSb
            rw [haA, hbA] at HJ hn1
            rw [hcaA, hcbA] at hq1
            clear haA hbA hcaA hcbA
            go_upto_region 17 with fail
            refine region_facts 10 _ [some 87, some 88, some 89, some 90, some 91, some 92, some 18, some 19, none, none] [8, 9]
              (TwoB 6 wr) (twoLink 6) (TwoF (fun i v => match i with | 0 => v = .int .i64 k | 1 => v = .agg aA | 2 => v = .agg caA | 3 => v = .int .i64 k | 4 => v = .agg bA | 5 => v = .agg cbA | _ => True) 6 wr caA cbA)
              rfl (by kernel_rfl) (by simp) (by kernel_rfl) (by kernel_rfl) (by kernel_rfl) (by kernel_rfl) (.inl (by kernel_rfl)) (fun _ => ⟨(Ext.refl _).drew, fun h => by cases h⟩) ?steps ?fin
            case steps =>
              simp only [List.take_succ_cons, List.take_zero, StepsOK, Nat.zero_add, Nat.reduceAdd, and_true]
              refine ⟨?_, ?_, ?_, ?_, ?_, ?_, ?_, ?_, ?_, ?_⟩
              · intro L xs W K hB hC hd hL hK
                simp only [setAll, putL, Act.put, List.setIfInBounds_toArray, List.set_cons_succ, List.set_cons_zero, Nat.zero_add, Nat.reduceAdd] at hK ⊢
                go_simp
                exact hK _ _ rfl (fun j _ _ _ _ h => h) (hB.other (Ext.refl _) (by omega) (by omega))
              · intro L xs W K hB hC hd hL hK
                simp only [setAll, putL, Act.put, List.setIfInBounds_toArray, List.set_cons_succ, List.set_cons_zero, Nat.zero_add, Nat.reduceAdd] at hK ⊢
                rw [if_pos (by rfl)]
                refine wp_loadB (ty := 23) (x := .tmp 16) rfl digest_wide rfl ((unhide HJ).1.ext hB.1) (unhide HAZ).1 ?_
                exact hK _ _ rfl (fun j _ _ _ _ h => h) (hB.other (Ext.refl _) (by omega) (by omega))
              · intro L xs W K hB hC hd hL hK
                simp only [setAll, putL, Act.put, List.setIfInBounds_toArray, List.set_cons_succ, List.set_cons_zero, Nat.zero_add, Nat.reduceAdd] at hK ⊢
                have d0 : xs 0 = _ := (hd 0 (by omega) (by kernel_rfl)).2
                have d1 : xs 1 = _ := (hd 1 (by omega) (by kernel_rfl)).2
                simp only [d0, d1] at hK ⊢
                go_simp
                refine (unhide HSa W ((unhide HEW).trans hB.1)).mono ?_
                rintro e W' ⟨rfl, hE⟩
                exact hK _ _ rfl (fun j _ _ _ _ h => h.ext hE) (hB.other hE (by omega) (by omega))
              · intro L xs W K hB hC hd hL hK
                simp only [setAll, putL, Act.put, List.setIfInBounds_toArray, List.set_cons_succ, List.set_cons_zero, Nat.zero_add, Nat.reduceAdd] at hK ⊢
                go_simp
                exact hK _ _ rfl (fun j _ _ _ _ h => h) (hB.other (Ext.refl _) (by omega) (by omega))
              · intro L xs W K hB hC hd hL hK
                simp only [setAll, putL, Act.put, List.setIfInBounds_toArray, List.set_cons_succ, List.set_cons_zero, Nat.zero_add, Nat.reduceAdd] at hK ⊢
                rw [if_pos (by rfl)]
                refine wp_loadB (ty := 23) (x := .tmp 17) rfl digest_wide rfl ((unhide HJ).2.1.ext hB.1) (unhide HAZ).2.1 ?_
                exact hK _ _ rfl (fun j _ _ _ _ h => h) (hB.other (Ext.refl _) (by omega) (by omega))
              · intro L xs W K hB hC hd hL hK
                simp only [setAll, putL, Act.put, List.setIfInBounds_toArray, List.set_cons_succ, List.set_cons_zero, Nat.zero_add, Nat.reduceAdd] at hK ⊢
                have d3 : xs 3 = _ := (hd 3 (by omega) (by kernel_rfl)).2
                have d4 : xs 4 = _ := (hd 4 (by omega) (by kernel_rfl)).2
                simp only [d3, d4] at hK ⊢
                go_simp
                refine (unhide HSb W ((unhide HEW).trans hB.1)).mono ?_
                rintro e W' ⟨rfl, hE⟩
                exact hK _ _ rfl (fun j _ _ _ _ h => h.ext hE) (hB.other hE (by omega) (by omega))
              · intro L xs W K hB hC hd hL hK
                simp only [setAll, putL, Act.put, List.setIfInBounds_toArray, List.set_cons_succ, List.set_cons_zero, Nat.zero_add, Nat.reduceAdd] at hK ⊢
                go_simp
                exact hK _ _ (Fresh.new _ W hB.1.size' _ (by rfl)) (fun j _ _ _ _ h => h.ext ((Ext.refl _).alloc _)) (hB.first ((Ext.refl _).alloc _) (fun hl => Fresh.ne (hL 7 (by omega) (by omega) hl (by kernel_rfl))))
              · intro L xs W K hB hC hd hL hK
                simp only [setAll, putL, Act.put, List.setIfInBounds_toArray, List.set_cons_succ, List.set_cons_zero, Nat.zero_add, Nat.reduceAdd] at hK ⊢
                go_simp
                exact hK _ _ (Fresh.new _ W hB.1.size' _ (by rfl)) (fun j _ _ _ _ h => h.ext ((Ext.refl _).alloc _)) (hB.second ((Ext.refl _).alloc _) (fun hl => Fresh.ne (hL 6 (by omega) (by omega) hl (by kernel_rfl))))
              · intro L xs W K hB hC hd hL hK
                simp only [setAll, putL, Act.put, List.setIfInBounds_toArray, List.set_cons_succ, List.set_cons_zero, Nat.zero_add, Nat.reduceAdd] at hK ⊢
                have dv : xs 2 = _ := (hd 2 (by omega) (by kernel_rfl)).2
                obtain ⟨l8, gx, e8, hg8, cs, hcs, hb8⟩ := hd 6 (by omega) (by kernel_rfl)
                have e8' : xs 6 = ptr gx := e8
                rw [if_pos (by rfl)]
                refine wp_storeB (ty := 23) (x := .tmp 18) (y := .tmp 89) rfl digest_wide e8 dv hb8 hcs (unhide HAZ).2.2.1 (unhide HAZ).2.2.2.2.1 ?_
                intro W' hb' hc' hz'
                refine hK undef W' ⟨gx, e8', hg8, hb'⟩ (fun j _ hne hl hkp h => h.set hc' (fun e => ?_) (fun e => ?_) (fun e => ?_) (fun e => ?_)) (hB.store hc' hg8 (by omega) (by omega))
                · subst e
                  exact nomatch (hkp.symm.trans (by kernel_rfl) : true = false)
                · subst e
                  exact fun e => hB.2 l8 hl (e8'.trans e.symm)
                · exact absurd e hne
                · subst e
                  exact fun e => hB.2 l8 (hC _ _ hl (by kernel_rfl)) (e8'.trans e.symm)
              · intro L xs W K hB hC hd hL hK
                simp only [setAll, putL, Act.put, List.setIfInBounds_toArray, List.set_cons_succ, List.set_cons_zero, Nat.zero_add, Nat.reduceAdd] at hK ⊢
                have dv : xs 5 = _ := (hd 5 (by omega) (by kernel_rfl)).2
                obtain ⟨l9, gx, e9, hg9, cs, hcs, hb9⟩ := hd 7 (by omega) (by kernel_rfl)
                have e9' : xs 7 = ptr gx := e9
                rw [if_pos (by rfl)]
                refine wp_storeB (ty := 23) (x := .tmp 19) (y := .tmp 92) rfl digest_wide e9 dv hb9 hcs (unhide HAZ).2.2.2.1 (unhide HAZ).2.2.2.2.2 ?_
                intro W' hb' hc' hz'
                refine hK undef W' ⟨gx, e9', hg9, hb'⟩ (fun j _ hne hl hkp h => h.set hc' (fun e => ?_) (fun e => ?_) (fun e => ?_) (fun e => ?_)) (hB.store hc' hg9 (by omega) (by omega))
                · subst e
                  exact fun e => hB.2 hl l9 (e.trans e9'.symm)
                · subst e
                  exact nomatch (hkp.symm.trans (by kernel_rfl) : true = false)
                · subst e
                  exact fun e => hB.2 (hC _ _ hl (by kernel_rfl)) l9 (e.trans e9'.symm)
                · exact absurd e hne
            case fin =>
              intro L xs Wy hL hB hFF
              obtain ⟨g3, e1, hg3, hb3⟩ := hFF 8 (by omega) (by rfl)
              obtain ⟨g4, e2, hg4, hb4⟩ := hFF 9 (by omega) (by rfl)
              have e1' : xs 6 = ptr g3 := e1
              have e2' : xs 7 = ptr g4 := e2
              have hB1 := hB.1
              refine wpAny_done (by kernel_rfl) ?_ _
              simp only [setAll, putL, List.setIfInBounds_toArray, List.set_cons_succ, List.set_cons_zero, Nat.zero_add, Nat.reduceAdd]
              generalize xs 0 = y0
              generalize xs 1 = y1
              generalize xs 2 = y2
              generalize xs 3 = y3
              generalize xs 4 = y4
              generalize xs 5 = y5
              rw [e1', e2']
              unfold ptr
              have HY := hide (And.intro hb3 (And.intro hb4 (And.intro hB1 (And.intro hg3 hg4))))
              clear hB hFF e1 e2 e1' e2' hb3 hb4 hB1 hg3 hg4 hL
              by_cases hab : a = b
              · have hn2 : ∀ W, (binOp .neq 23 (.agg aA) (.agg bA)).run Tryd.prog W = .ok (.bool false) W := fun W => by rw [hn1 W, decide_eq_true hab]; rfl
                clear hn1 hq1
                go_upto_region 18 with fail
                go_step
                refine wpList_loadB (ty := 23) (t := 23) (x := .tmp 16) rfl rfl digest_wide rfl ((unhide HJ).1.ext (unhide HY).2.2.1) (unhide HAZ).1 ?_
                refine wpList_loadB (ty := 23) (t := 23) (x := .tmp 17) rfl rfl digest_wide rfl ((unhide HJ).2.1.ext (unhide HY).2.2.1) (unhide HAZ).2.1 ?_
                go_upto_region 20 with fail
                have hor : a = b ∨ ca ≠ cb := .inl hab
                have HLt := hide (show g1 < wr.heap.size ∧ g2 < wr.heap.size from ⟨(unhide HJ).1.lt, (unhide HJ).2.1.lt⟩)
                refine wp_region_held_drew (S := fun W => Blk W g3 23 caA ∧ Blk W g4 23 cbA) (by kernel_rfl) ⟨(unhide HY).1.drew, (unhide HY).2.1.drew⟩ (fun hHeld => ?_)
                refine wpAnyH_take (i := 0) (oi := _) (v := _) rfl (by kernel_rfl) (by kernel_rfl) (by kernel_rfl) (fun _ _ _ h => h) (ylb digest_wide rfl (by rfl) rfl (unhide HAZ).2.2.1 (fun w' hw => hw.1)) (by assumption) ?_
                try simp only [Act.put, List.setIfInBounds_toArray, List.set_cons_zero, List.set_cons_succ, List.getElem_toArray, List.getElem_cons_succ, List.getElem_cons_zero]
                refine wpAnyH_take (i := 1) (oi := _) (v := _) rfl (by kernel_rfl) (by kernel_rfl) (by kernel_rfl) (fun _ _ _ h => h) (ylb digest_wide rfl (by rfl) rfl (unhide HAZ).2.2.2.1 (fun w' hw => hw.2)) (by assumption) ?_
                try simp only [Act.put, List.setIfInBounds_toArray, List.set_cons_zero, List.set_cons_succ, List.getElem_toArray, List.getElem_cons_succ, List.getElem_cons_zero]
                refine wpAnyH_ready (rs := [2]) (by kernel_rfl) (by simp) (AllReadyH.cons (o := _) rfl (fun K hK => ?_) AllReadyH.nil)
                (refine step_storeB (ty := 23) (t := 23) (x := .tmp 16) (y := .tmp 102) rfl rfl digest_wide rfl rfl (((unhide HJ).1.ext (unhide HY).2.2.1).drew) (unhide HAZ).1 (unhide HAZ).2.2.1 (unhide HAZ).2.2.2.2.1 ?_; intro wz1 hbz1 hcz1 hzz1; have hS := And.intro (hHeld.1.chg hcz1 (by have := (unhide HY).2.2.2; have := (unhide HLt).1; omega)) (hHeld.2.chg hcz1 (by have := (unhide HY).2.2.2; have := (unhide HLt).1; omega)); have Hz1 := hide (And.intro hbz1 hcz1); clear hbz1 hcz1 hzz1 hHeld)
                refine hK.out _ _ ?_ (fun hHeld => ?_)
                · exact hS
                clear hK K
                try simp only [Act.put, List.setIfInBounds_toArray, List.set_cons_zero, List.set_cons_succ, List.getElem_toArray, List.getElem_cons_succ, List.getElem_cons_zero]
                refine wpAnyH_ready (rs := [3]) (by kernel_rfl) (by simp) (AllReadyH.cons (o := _) rfl (fun K hK => ?_) AllReadyH.nil)
                (refine step_storeB (ty := 23) (t := 23) (x := .tmp 17) (y := .tmp 103) rfl rfl digest_wide rfl rfl (Blk.chg (Blk.drew ((unhide HJ).2.1.ext (unhide HY).2.2.1)) (unhide Hz1).2 (fun e => (unhide HN).1 e.symm)) (unhide HAZ).2.1 (unhide HAZ).2.2.2.1 (unhide HAZ).2.2.2.2.2 ?_; intro wz2 hbz2 hcz2 hzz2; have hS := And.intro (hHeld.1.chg hcz2 (by have := (unhide HY).2.2.2; have := (unhide HLt).2; omega)) (hHeld.2.chg hcz2 (by have := (unhide HY).2.2.2; have := (unhide HLt).2; omega)); have Hz2 := hide (And.intro hbz2 hcz2); clear hbz2 hcz2 hzz2 hHeld)
                refine hK.out _ _ ?_ (fun hHeld => ?_)
                · exact hS
                clear hK K
                try simp only [Act.put, List.setIfInBounds_toArray, List.set_cons_zero, List.set_cons_succ, List.getElem_toArray, List.getElem_cons_succ, List.getElem_cons_zero]
                refine wpAnyH_done (by kernel_rfl) ?_ _
                clear hHeld
                go_wp2
                go_roundw
                case rel =>
                  refine ⟨j + 1, by omega, by go_num, hide ⟨by rw [(unhide HAQ).1, (unhide HAE).1]; exact (unhide Hz1).1.chg (unhide Hz2).2 (unhide HN).1, by rw [(unhide HAQ).2, (unhide HAE).2]; exact (unhide Hz2).1, ?_, unhide HAp hor⟩⟩
                  refine ((unhide HJ).2.2.1.trans ?_)
                  exact ((((unhide HY).2.2.1.drew).chg).trans ((unhide Hz1).2.mono (fun _ _ h => .inl h))).trans ((unhide Hz2).2.mono (fun _ _ h => .inr h))
                case measure => simp [intOf]; omega
              · have hn2 : ∀ W, (binOp .neq 23 (.agg aA) (.agg bA)).run Tryd.prog W = .ok (.bool true) W := fun W => by rw [hn1 W, decide_eq_false hab]; rfl
                clear hn1
                by_cases hcd : ca = cb
                · rw [decide_eq_true hcd] at hq1
                  go_upto_region 18 with fail
                  go_step
                  refine wpList_loadB (ty := 23) (t := 23) (x := .tmp 16) rfl rfl digest_wide rfl ((unhide HJ).1.ext (unhide HY).2.2.1) (unhide HAZ).1 ?_
                  refine wpList_loadB (ty := 23) (t := 23) (x := .tmp 17) rfl rfl digest_wide rfl ((unhide HJ).2.1.ext (unhide HY).2.2.1) (unhide HAZ).2.1 ?_
                  iterate 6 (first | go_values | go_skip | go_guarded | go_step | go_upon)
                  refine wpList_loadMG (by rfl) (ty := 23) (x := .tmp 18) rfl digest_wide rfl (unhide HY).1.range (by rw [Array.length_toList]; exact (unhide HAZ).2.2.1) ?_
                  refine wpList_loadMG (by rfl) (ty := 23) (x := .tmp 19) rfl digest_wide rfl (unhide HY).2.1.range (by rw [Array.length_toList]; exact (unhide HAZ).2.2.2.1) ?_
                  go_upto_region 19 with fail
                  go_wp2_with fail
                  refine (unhide HSan _ ((unhide HEW).trans (unhide HY).2.2.1)).mono ?_
                  rintro e wl ⟨rfl, hEl⟩
                  have Hl := hide (((unhide HEW).trans (unhide HY).2.2.1).trans hEl)
                  clear hEl
                  go_wp2
                  go_ret
                  exact ⟨rfl, unhide Hl⟩
                · rw [decide_eq_false hcd] at hq1
                  go_upto_region 18 with fail
                  go_step
                  refine wpList_loadB (ty := 23) (t := 23) (x := .tmp 16) rfl rfl digest_wide rfl ((unhide HJ).1.ext (unhide HY).2.2.1) (unhide HAZ).1 ?_
                  refine wpList_loadB (ty := 23) (t := 23) (x := .tmp 17) rfl rfl digest_wide rfl ((unhide HJ).2.1.ext (unhide HY).2.2.1) (unhide HAZ).2.1 ?_
                  iterate 6 (first | go_values | go_skip | go_guarded | go_step | go_upon)
                  refine wpList_loadMG (by rfl) (ty := 23) (x := .tmp 18) rfl digest_wide rfl (unhide HY).1.range (by rw [Array.length_toList]; exact (unhide HAZ).2.2.1) ?_
                  refine wpList_loadMG (by rfl) (ty := 23) (x := .tmp 19) rfl digest_wide rfl (unhide HY).2.1.range (by rw [Array.length_toList]; exact (unhide HAZ).2.2.2.1) ?_
                  go_upto_region 20 with fail
                  have hor : a = b ∨ ca ≠ cb := .inr hcd
                  have HLt := hide (show g1 < wr.heap.size ∧ g2 < wr.heap.size from ⟨(unhide HJ).1.lt, (unhide HJ).2.1.lt⟩)
                  refine wp_region_held_drew (S := fun W => Blk W g3 23 caA ∧ Blk W g4 23 cbA) (by kernel_rfl) ⟨(unhide HY).1.drew, (unhide HY).2.1.drew⟩ (fun hHeld => ?_)
                  refine wpAnyH_take (i := 0) (oi := _) (v := _) rfl (by kernel_rfl) (by kernel_rfl) (by kernel_rfl) (fun _ _ _ h => h) (ylb digest_wide rfl (by rfl) rfl (unhide HAZ).2.2.1 (fun w' hw => hw.1)) (by assumption) ?_
                  try simp only [Act.put, List.setIfInBounds_toArray, List.set_cons_zero, List.set_cons_succ, List.getElem_toArray, List.getElem_cons_succ, List.getElem_cons_zero]
                  refine wpAnyH_take (i := 1) (oi := _) (v := _) rfl (by kernel_rfl) (by kernel_rfl) (by kernel_rfl) (fun _ _ _ h => h) (ylb digest_wide rfl (by rfl) rfl (unhide HAZ).2.2.2.1 (fun w' hw => hw.2)) (by assumption) ?_
                  try simp only [Act.put, List.setIfInBounds_toArray, List.set_cons_zero, List.set_cons_succ, List.getElem_toArray, List.getElem_cons_succ, List.getElem_cons_zero]
                  refine wpAnyH_ready (rs := [2]) (by kernel_rfl) (by simp) (AllReadyH.cons (o := _) rfl (fun K hK => ?_) AllReadyH.nil)
                  (refine step_storeB (ty := 23) (t := 23) (x := .tmp 16) (y := .tmp 102) rfl rfl digest_wide rfl rfl (((unhide HJ).1.ext (unhide HY).2.2.1).drew) (unhide HAZ).1 (unhide HAZ).2.2.1 (unhide HAZ).2.2.2.2.1 ?_; intro wz1 hbz1 hcz1 hzz1; have hS := And.intro (hHeld.1.chg hcz1 (by have := (unhide HY).2.2.2; have := (unhide HLt).1; omega)) (hHeld.2.chg hcz1 (by have := (unhide HY).2.2.2; have := (unhide HLt).1; omega)); have Hz1 := hide (And.intro hbz1 hcz1); clear hbz1 hcz1 hzz1 hHeld)
                  refine hK.out _ _ ?_ (fun hHeld => ?_)
                  · exact hS
                  clear hK K
                  try simp only [Act.put, List.setIfInBounds_toArray, List.set_cons_zero, List.set_cons_succ, List.getElem_toArray, List.getElem_cons_succ, List.getElem_cons_zero]
                  refine wpAnyH_ready (rs := [3]) (by kernel_rfl) (by simp) (AllReadyH.cons (o := _) rfl (fun K hK => ?_) AllReadyH.nil)
                  (refine step_storeB (ty := 23) (t := 23) (x := .tmp 17) (y := .tmp 103) rfl rfl digest_wide rfl rfl (Blk.chg (Blk.drew ((unhide HJ).2.1.ext (unhide HY).2.2.1)) (unhide Hz1).2 (fun e => (unhide HN).1 e.symm)) (unhide HAZ).2.1 (unhide HAZ).2.2.2.1 (unhide HAZ).2.2.2.2.2 ?_; intro wz2 hbz2 hcz2 hzz2; have hS := And.intro (hHeld.1.chg hcz2 (by have := (unhide HY).2.2.2; have := (unhide HLt).2; omega)) (hHeld.2.chg hcz2 (by have := (unhide HY).2.2.2; have := (unhide HLt).2; omega)); have Hz2 := hide (And.intro hbz2 hcz2); clear hbz2 hcz2 hzz2 hHeld)
                  refine hK.out _ _ ?_ (fun hHeld => ?_)
                  · exact hS
                  clear hK K
                  try simp only [Act.put, List.setIfInBounds_toArray, List.set_cons_zero, List.set_cons_succ, List.getElem_toArray, List.getElem_cons_succ, List.getElem_cons_zero]
                  refine wpAnyH_done (by kernel_rfl) ?_ _
                  clear hHeld
                  go_wp2
                  go_roundw
                  case rel =>
                    refine ⟨j + 1, by omega, by go_num, hide ⟨by rw [(unhide HAQ).1, (unhide HAE).1]; exact (unhide Hz1).1.chg (unhide Hz2).2 (unhide HN).1, by rw [(unhide HAQ).2, (unhide HAE).2]; exact (unhide Hz2).1, ?_, unhide HAp hor⟩⟩
                    refine ((unhide HJ).2.2.1.trans ?_)
                    exact ((((unhide HY).2.2.1.drew).chg).trans ((unhide Hz1).2.mono (fun _ _ h => .inl h))).trans ((unhide Hz2).2.mono (fun _ _ h => .inr h))
                  case measure => simp [intOf]; omega
          · obtain rfl : j = n := by omega
            have HLa' := HLa
            have HLb' := HLb
            have HGx := hide (((unhide HI).1.to (unhide HB).2.2).chgS (unhide HJ).2.2.1 (fun b hb e => by
              rcases e with e | e
              · rw [e] at hb; exact own_blk_ne ((unhide HI).1.to (unhide HB).2.2).own (unhide HB).1 (by decide) hb
              · rw [e] at hb; exact own_blk_ne ((unhide HI).1.to (unhide HB).2.2).own (unhide HB).2.1 (by decide) hb) (fun b e => by have := (unhide HN).2; have := (unhide HI).1.room; omega))
            have HGy := hide (((unhide HI).2.1.to (unhide HB).2.2).chgS (unhide HJ).2.2.1 (fun b hb e => by
              rcases e with e | e
              · rw [e] at hb; exact own_blk_ne ((unhide HI).2.1.to (unhide HB).2.2).own (unhide HB).1 (by decide) hb
              · rw [e] at hb; exact own_blk_ne ((unhide HI).2.1.to (unhide HB).2.2).own (unhide HB).2.1 (by decide) hb) (fun b e => by have := (unhide HN).2; have := (unhide HI).1.room; omega))
            have HK := hide (And.intro (unhide HJ).1 (unhide HJ).2.1)
            have HOld := hide (show Chg (fun b => w7.heap.size ≤ b) w7 wr from (((unhide HI).2.2.2.1.ext (unhide HB).2.2)).trans ((unhide HJ).2.2.1.mono (fun b _ e => by have := (unhide HN).2; have := (unhide HI).1.room; omega)))
            have HAj := hide (unhide HJ).2.2.2
            have HFk := hide (And.intro (unhide HF k) (unhide HG k))
            rw [hn] at HFk
            generalize hxa : advS k (C k) j = xa at *
            generalize hxb : advS k (D k) j = xb at *
            have hdx := (unhide HI).2.2.1
            have HDx := hide hdx
            clear hxa hxb hdx HJ HB
            go_upto_region 22 with fail
            refine wp_region_held_drew (S := fun _ => True) (by kernel_rfl) trivial (fun hHeld => ?_)
            refine wpAnyH_take (i := 0) (oi := _) (v := ?_) rfl (by kernel_rfl) (by kernel_rfl) (by kernel_rfl) (fun _ _ _ h => h) (Or.inl ⟨by rfl, fun wz hSz => ?_⟩) (by assumption) ?_
            rotate_left
            · (first | (go_simp; done) | (go_simp; with_reducible rfl))
            try simp only [Act.put, List.setIfInBounds_toArray, List.set_cons_zero, List.set_cons_succ, List.getElem_toArray, List.getElem_cons_succ, List.getElem_cons_zero]
            refine wpAnyH_take (i := 1) (oi := _) (v := ?_) rfl (by kernel_rfl) (by kernel_rfl) (by kernel_rfl) (fun _ _ _ h => h) (Or.inl ⟨by rfl, fun wz hSz => ?_⟩) (by assumption) ?_
            rotate_left
            · (first | (go_simp; done) | (go_simp; with_reducible rfl))
            try simp only [Act.put, List.setIfInBounds_toArray, List.set_cons_zero, List.set_cons_succ, List.getElem_toArray, List.getElem_cons_succ, List.getElem_cons_zero]
            refine wpAnyH_take (i := 3) (oi := _) (v := ?_) rfl (by kernel_rfl) (by kernel_rfl) (by kernel_rfl) (fun _ _ _ h => h) (Or.inl ⟨by rfl, fun wz hSz => ?_⟩) (by assumption) ?_
            rotate_left
            · (first | (go_simp; done) | (go_simp; with_reducible rfl))
            try simp only [Act.put, List.setIfInBounds_toArray, List.set_cons_zero, List.set_cons_succ, List.getElem_toArray, List.getElem_cons_succ, List.getElem_cons_zero]
            refine wpAnyH_take (i := 4) (oi := _) (v := ?_) rfl (by kernel_rfl) (by kernel_rfl) (by kernel_rfl) (fun _ _ _ h => h) (Or.inl ⟨by rfl, fun wz hSz => ?_⟩) (by assumption) ?_
            rotate_left
            · (first | (go_simp; done) | (go_simp; with_reducible rfl))
            try simp only [Act.put, List.setIfInBounds_toArray, List.set_cons_zero, List.set_cons_succ, List.getElem_toArray, List.getElem_cons_succ, List.getElem_cons_zero]
            refine wpAnyH_ready (rs := [2]) (by kernel_rfl) (by simp) (AllReadyH.cons (o := _) rfl (fun K hK => ?_) AllReadyH.nil)
            (refine step_app rfl rfl u8_row rfl ((unhide HGx).to ((Ext.refl wr).drew)).own rfl (by have h := ((unhide HK).1.drew).digR (unhide HLa'); rw [unhide HLa'] at h; exact h) (AllOne.u8 xa) (by omega) ((unhide HGx).to ((Ext.refl wr).drew)).room ?_; intro A1' c1' wa ho hc hv; have hS : True := trivial; have Ha := hide (And.intro ((unhide HGx).step ((Ext.refl wr).drew) hc (l' := endsS (fun k => advS k (C k) (3 - digC m k)) k ++ xa) (by rw [List.map_append]; exact ho)) (And.intro hc hv)); clear ho hc hv)
            refine hK.out _ _ ?_ (fun hHeld => ?_)
            · exact hS
            clear hK K
            try simp only [Act.put, List.setIfInBounds_toArray, List.set_cons_zero, List.set_cons_succ, List.getElem_toArray, List.getElem_cons_succ, List.getElem_cons_zero]
            have HGy2 := hide (((unhide HGy).to ((Ext.refl wr).drew)).chgS (unhide Ha).2.1 (fun b hb e => unhide HDx b e hb) (fun b e => ((unhide HGx).own.lt b e).1))
            have HK2 := hide ((unhide HK).2.drew.chg (unhide Ha).2.1 (fun e => own_blk_ne ((unhide HGx).to ((Ext.refl wr).drew)).own (unhide HK).2.drew (by decide) e))
            refine wpAnyH_ready (rs := [5]) (by kernel_rfl) (by simp) (AllReadyH.cons (o := _) rfl (fun K hK => ?_) AllReadyH.nil)
            (refine step_app rfl rfl u8_row rfl (unhide HGy2).own rfl (by have h := (unhide HK2).digR (unhide HLb'); rw [unhide HLb'] at h; exact h) (AllOne.u8 xb) (by omega) (unhide HGy2).room ?_; intro A2' c3' wb ho hc hv; have hS : True := trivial; have Hb := hide (And.intro ((unhide HGy2).step (Ext.refl wa) hc (l' := endsS (fun k => advS k (D k) (3 - digC m k)) k ++ xb) (by rw [List.map_append]; exact ho)) (And.intro hc hv)); clear ho hc hv)
            refine hK.out _ _ ?_ (fun hHeld => ?_)
            · exact hS
            clear hK K
            try simp only [Act.put, List.setIfInBounds_toArray, List.set_cons_zero, List.set_cons_succ, List.getElem_toArray, List.getElem_cons_succ, List.getElem_cons_zero]
            refine wpAnyH_take (i := 6) (oi := _) (v := ?_) rfl (by kernel_rfl) (by kernel_rfl) (by kernel_rfl) (fun _ _ _ h => h) (Or.inl ⟨by rfl, fun wz hSz => ?_⟩) (by assumption) ?_
            rotate_left
            · (first | (go_simp; done) | (go_simp; with_reducible rfl))
            try simp only [Act.put, List.setIfInBounds_toArray, List.set_cons_zero, List.set_cons_succ, List.getElem_toArray, List.getElem_cons_succ, List.getElem_cons_zero]
            refine wpAnyH_take (i := 7) (oi := _) (v := ?_) rfl (by kernel_rfl) (by kernel_rfl) (by kernel_rfl) (fun _ _ _ h => h) (Or.inl ⟨by rfl, fun wz hSz => ?_⟩) (by assumption) ?_
            rotate_left
            · (first | (go_simp; done) | (go_simp; with_reducible rfl))
            try simp only [Act.put, List.setIfInBounds_toArray, List.set_cons_zero, List.set_cons_succ, List.getElem_toArray, List.getElem_cons_succ, List.getElem_cons_zero]
            refine wpAnyH_done (by kernel_rfl) ?_ _
            clear hHeld
            have HXY := hide (show ∀ b, (Value.slice A1' (16 * k + 16) c1').ownBlock = some b → (Value.slice A2 (16 * k) c3).ownBlock = some b → False from fun b e1 e2 => by
              rcases (unhide Ha).2.2 with h | ⟨g', h, h1, _⟩
              · rw [h] at e1; exact unhide HDx b e1 e2
              · rw [h] at e1; cases e1; have := ((unhide HGy).own.lt _ e2).2; exact absurd h1 (by simp; omega))
            go_wp2
            go_roundw
            case rel =>
              refine ⟨k + 1, A1', A2', c1', c3', by omega, by go_num, rfl, rfl, hide ⟨?_, ?_, ?_, ?_, ?_⟩⟩
              · rw [(unhide HFk).1]
                exact (unhide Ha).1.chgS (unhide Hb).2.1 (fun b e1 e2 => unhide HXY b e1 e2) (fun b e => ((unhide HGy2).own.lt b e).1)
              · rw [(unhide HFk).2]
                exact (unhide Hb).1
              · intro b e1 e2
                have e1' : (Value.slice A1' (16 * k + 16) c1').ownBlock = some b := e1
                have e2' : (Value.slice A2' (16 * k + 16) c3').ownBlock = some b := e2
                rcases (unhide Hb).2.2 with h | ⟨g', h, h1, _⟩
                · rw [h] at e2'; exact unhide HXY b e1' e2'
                · rw [h] at e2'; cases e2'; have := ((unhide Ha).1.own.lt _ e1').2; omega
              · exact ((unhide HOld).drew.trans ((unhide Ha).2.1.mono (fun b _ e => ((unhide HGx).own.lt b e).1))).trans ((unhide Hb).2.1.mono (fun b _ e => ((unhide HGy2).own.lt b e).1))
              · intro j' hj'
                rcases Nat.lt_or_ge j' k with h | h
                · exact (unhide HI).2.2.2.2 j' h
                · obtain rfl : j' = k := by omega
                  rw [hn]
                  exact unhide HAj
            case measure => simp [intOf]; omega
    · obtain rfl : k = 68 := by omega
      have hX : endsS (fun k => advS k (C k) (3 - digC m k)) 68 ≠ endsS (fun k => advS k (D k) (3 - digC m k)) 68 := ends_apart C D (fun k => 3 - digC m k) (unhide HCL) (unhide HSL) (unhide HI).2.2.2.2 (unhide HPl)
      have hlx : (endsS (fun k => advS k (C k) (3 - digC m k)) 68).length = 16 * 68 := (unhide HI).1.len
      have hly : (endsS (fun k => advS k (D k) (3 - digC m k)) 68).length = 16 * 68 := (unhide HI).2.1.len
      have hpl : (publicS seed index).length = 16 := digestS_length _ _
      have heq : ∀ W, (binOp .eql 23 (.agg ((publicS seed index).map u8v).toArray) (.agg ((publicS seed index).map u8v).toArray)).run Tryd.prog W = .ok (.bool true) W := same16 rfl hpl
      have HI2 := hide (And.intro (unhide HI).1 (unhide HI).2.1)
      have HKX := HKey
      generalize endsS (fun k => advS k (C k) (3 - digC m k)) 68 = X at *
      generalize endsS (fun k => advS k (D k) (3 - digC m k)) 68 = Y at *
      have HDX := hide (fun (W : World) (pv : Value) (hE : Ext wo W) (h1 : Reads W 1 pv 1 [.slice A1 (16 * 68) c1]) => digest_any 4 [X] pv W ((unhide HM).ext ((unhide HI2).1.ext.trans hE)) (Parts.one h1 (by rw [hlx]; exact (unhide HI2).1.reads.ext hE)) (by simp) (fun p hp => by simp at hp; subst hp; omega))
      have HDY := hide (fun (W : World) (pv : Value) (hE : Ext wo W) (h1 : Reads W 1 pv 1 [.slice A2 (16 * 68) c3]) => digest_any 4 [Y] pv W ((unhide HM).ext ((unhide HI2).1.ext.trans hE)) (Parts.one h1 (by rw [hly]; exact (unhide HI2).2.reads.ext hE)) (by simp) (fun p hp => by simp at hp; subst hp; omega))
      rw [(unhide HKX).1] at HDX
      rw [(unhide HKX).2] at HDY
      obtain ⟨pp, hpp⟩ : ∃ r, ((publicS seed index).map u8v).toArray = r := ⟨_, rfl⟩
      rw [hpp] at HDX HDY heq
      have hsn : ¬ (strOf X).toList = (strOf Y).toList := by rw [ByteArray.toList_eq, ByteArray.toList_eq, strOf_list, strOf_list]; exact hX
      have hsn2 : ((strOf X).toList == (strOf Y).toList) = false := by simpa using hsn
      have HC1 := hide (fun (W : World) (hE : Ext wo W) => run_str_of (P := Tryd.prog) (w := W) Tryd.underlying41 Tryd.underlying5 Tryd.underlying9 ((unhide HI2).1.reads.ext hE))
      have HC2 := hide (fun (W : World) (hE : Ext wo W) => run_str_of (P := Tryd.prog) (w := W) Tryd.underlying41 Tryd.underlying5 Tryd.underlying9 ((unhide HI2).2.reads.ext hE))
      have HE0 := hide (unhide HI2).1.ext
      simp only [Nat.reduceMul] at HDX HDY HC1 HC2
      clear HI hX hlx hly hpl hpp HKX
      go_wp2_with fail
      refine (unhide HSan _ (unhide HE0)).mono ?_
      rintro e wl ⟨rfl, hEl⟩
      have cv1 := unhide HC1 _ hEl
      have cv2 := unhide HC2 _ hEl
      have Hl := hide hEl
      clear hEl
      go_wp2_with fail
      refine (unhide HDX _ _ ((unhide Hl).alloc _) (Reads.new1 _ _ _)).mono ?_
      rintro e wm ⟨rfl, hEm⟩
      have Hm := hide (((unhide Hl).alloc _).trans hEm)
      clear hEm cv1 cv2
      go_wp2_with fail
      refine (unhide HDY _ _ ((unhide Hm).alloc _) (Reads.new1 _ _ _)).mono ?_
      rintro e wn ⟨rfl, hEn⟩
      have Hn := hide (((unhide Hm).alloc _).trans hEn)
      clear hEn
      go_wp2
      go_ret
      exact ⟨rfl, (unhide HE0).trans (unhide Hn)⟩

end Go.Proofs.YtjemfefkgfoikaaDoor
