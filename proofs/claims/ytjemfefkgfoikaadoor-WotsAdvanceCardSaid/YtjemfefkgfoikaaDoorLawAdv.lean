/-
  The law WotsAdvance.
-/
import Derived.Test.YtjemfefkgfoikaaDoorSan4
namespace Go.Proofs.YtjemfefkgfoikaaDoor
open Go.RowKit

theorem signS_get (seed : List UInt8) (index : Int) (m : List UInt8) {n k : Nat} (h : k < n) : (signS seed index m n)[k]'(by rw [signS_length]; exact h) = signAt seed index m k := by
  unfold signS
  simp
theorem Digs.signR {w : World} {b o c : Nat} {seed : List UInt8} {index : Int} {m : List UInt8} (h : Digs w (.slice (some ⟨b, o, none⟩) 68 c) (signS seed index m 68)) {k : Nat} (hk : k < 68) : w.rangeAt b (o + k * 16) ((signAt seed index m k).map u8v) := by
  obtain ⟨b2, o2, c2, e, _, _, _, hr⟩ := h.at (k := k) (by rw [signS_length]; exact hk)
  cases e
  rw [signS_get seed index m hk] at hr
  exact hr
theorem Digs.signA {w : World} {A : Option Addr} {c : Nat} {seed : List UInt8} {index : Int} {m : List UInt8} (h : Digs w (.slice A 68 c) (signS seed index m 68)) : ∃ b o, A = some ⟨b, o, none⟩ := by
  obtain ⟨b2, o2, c2, e, _⟩ := h.at (k := 0) (by rw [signS_length]; omega)
  cases e
  exact ⟨_, _, rfl⟩

set_option maxRecDepth 100000 in
set_option maxHeartbeats 8000000 in
theorem ladv_any (seed : List UInt8) (index : Int) (a b : List UInt8) (w : World) (hM : ShaMem w) (hv : seed.length = 16) (ha : a.length = 16) (hb : b.length = 16) (h1 : -9223372036854775808 ≤ index) (h2 : index < 9223372036854775808) :
    Calls Tryd.prog 7 #[.agg (seed.map u8v).toArray, .int .i64 index, .agg (a.map u8v).toArray, .agg (b.map u8v).toArray] w fun e w' => e = .returned (.bool true) ∧ Ext w w' := by
  have HDa := hide (fun W => digits_any a W ha)
  have HDb := hide (fun W => digits_any b W hb)
  have HSa := hide (fun W (hE : Ext w W) => sign_any seed index a W (hM.ext hE) hv ha h1 h2)
  have HSb := hide (fun W (hE : Ext w W) => sign_any seed index b W (hM.ext hE) hv hb h1 h2)
  have HSt := hide (fun k (v : List UInt8) (hk : k < 68) (hv : v.length = 16) W (hE : Ext w W) => lstep_any k v W (hM.ext hE) hv (by omega))
  have HSan := hide (fun W (hE : Ext w W) => sanity4_any W (hM.ext hE))
  have HAd := hide (fun k h => wots_advance seed index a b k h)
  have HL := hide (fun m k => signAt_length seed index m k)
  obtain ⟨sarr, hsarr⟩ : ∃ r, (seed.map u8v).toArray = r := ⟨_, rfl⟩
  obtain ⟨aa, haa⟩ : ∃ r, (a.map u8v).toArray = r := ⟨_, rfl⟩
  obtain ⟨bb, hbb⟩ : ∃ r, (b.map u8v).toArray = r := ⟨_, rfl⟩
  have HSZ := hide (show sarr.size = 16 ∧ aa.size = 16 ∧ bb.size = 16 from by rw [← hsarr, ← haa, ← hbb]; simp; omega)
  rw [haa] at HDa
  rw [hbb] at HDb
  rw [hsarr, haa] at HSa
  rw [hsarr, hbb] at HSb
  rw [hsarr, haa, hbb]
  have HZ := hide (show (Ext w (((w.alloc (.cells sarr 23)).alloc (.cells aa 23)).alloc (.cells bb 23)) ∧ Blk (((w.alloc (.cells sarr 23)).alloc (.cells aa 23)).alloc (.cells bb 23)) w.heap.size 23 sarr ∧ Blk (((w.alloc (.cells sarr 23)).alloc (.cells aa 23)).alloc (.cells bb 23)) (w.heap.size + 1) 23 aa ∧ Blk (((w.alloc (.cells sarr 23)).alloc (.cells aa 23)).alloc (.cells bb 23)) (w.heap.size + 1 + 1) 23 bb) from
    ⟨(((Ext.refl w).alloc _).alloc _).alloc _, ((Blk.new w _ _).alloc _).alloc _, (Blk.new' _ _ _ (by simp)).alloc _, Blk.new' _ _ _ (by simp)⟩)
  clear hM hsarr haa hbb ha hb h1 h2 hv
  go_enter Tryd.func7, Tryd.ntmps7
  go_upto_region 1 with fail
  generalize hW0 : (((w.alloc (.cells sarr 23)).alloc (.cells aa 23)).alloc (.cells bb 23)) = W0 at *
  refine wp_region_held_drew (S := fun W => Ext W0 W) (by kernel_rfl) ((Ext.refl _).drew) (fun hHeld => ?_)
  refine wpAnyH_take (i := 0) (oi := _) (v := _) rfl (by kernel_rfl) (by kernel_rfl) (by kernel_rfl) (fun _ _ _ h => h) (ylb digest_wide rfl (by rfl) rfl (unhide HSZ).2.1 (fun w' hw => (unhide HZ).2.2.1.ext hw)) (by assumption) ?_
  try simp only [Act.put, List.setIfInBounds_toArray, List.set_cons_zero, List.set_cons_succ, List.getElem_toArray, List.getElem_cons_succ, List.getElem_cons_zero]
  refine wpAnyH_take (i := 2) (oi := _) (v := _) rfl (by kernel_rfl) (by kernel_rfl) (by kernel_rfl) (fun _ _ _ h => h) (ylb digest_wide rfl (by rfl) rfl (unhide HSZ).2.2 (fun w' hw => (unhide HZ).2.2.2.ext hw)) (by assumption) ?_
  try simp only [Act.put, List.setIfInBounds_toArray, List.set_cons_zero, List.set_cons_succ, List.getElem_toArray, List.getElem_cons_succ, List.getElem_cons_zero]
  refine wpAnyH_ready (rs := [1]) (by kernel_rfl) (by simp) (AllReadyH.cons (o := _) rfl (fun K hK => ?_) AllReadyH.nil)
  try go_simp
  (refine (unhide HDa _).mono ?_; rintro e w2 ⟨ga, rfl, hba, hga, hE2⟩; have hS := Ext.trans hHeld hE2; have H2 := hide hba; clear hba hga hE2 hHeld)
  refine hK.out _ _ ?_ (fun hHeld => ?_)
  · exact hS
  clear hK K
  try simp only [Act.put, List.setIfInBounds_toArray, List.set_cons_zero, List.set_cons_succ, List.getElem_toArray, List.getElem_cons_succ, List.getElem_cons_zero]
  refine wpAnyH_ready (rs := [3]) (by kernel_rfl) (by simp) (AllReadyH.cons (o := _) rfl (fun K hK => ?_) AllReadyH.nil)
  try go_simp
  (refine (unhide HDb _).mono ?_; rintro e w3 ⟨gb, rfl, hbb, hgb, hE3⟩; have hS := Ext.trans hHeld hE3; have H3 := hide (And.intro ((unhide H2).ext hE3) hbb); clear hbb hgb hE3 hHeld H2)
  refine hK.out _ _ ?_ (fun hHeld => ?_)
  · exact hS
  clear hK K
  try simp only [Act.put, List.setIfInBounds_toArray, List.set_cons_zero, List.set_cons_succ, List.getElem_toArray, List.getElem_cons_succ, List.getElem_cons_zero]
  refine wpAnyH_take (i := 4) (oi := _) (v := ?_) rfl (by kernel_rfl) (by kernel_rfl) (by kernel_rfl) (fun _ _ _ h => h) (Or.inl ⟨by rfl, fun wz hSz => ?_⟩) (by assumption) ?_
  rotate_left
  · (first | (go_simp; done) | (go_simp; with_reducible rfl))
  try simp only [Act.put, List.setIfInBounds_toArray, List.set_cons_zero, List.set_cons_succ, List.getElem_toArray, List.getElem_cons_succ, List.getElem_cons_zero]
  refine wpAnyH_take (i := 5) (oi := _) (v := ?_) rfl (by kernel_rfl) (by kernel_rfl) (by kernel_rfl) (fun _ _ _ h => h) (Or.inl ⟨by rfl, fun wz hSz => ?_⟩) (by assumption) ?_
  rotate_left
  · (first | (go_simp; done) | (go_simp; with_reducible rfl))
  try simp only [Act.put, List.setIfInBounds_toArray, List.set_cons_zero, List.set_cons_succ, List.getElem_toArray, List.getElem_cons_succ, List.getElem_cons_zero]
  refine wpAnyH_done (by kernel_rfl) ?_ _
  have H4 := hide (And.intro ((unhide HZ).1.trans hHeld) (And.intro ((unhide HZ).2.1.ext hHeld) (And.intro ((unhide HZ).2.2.1.ext hHeld) ((unhide HZ).2.2.2.ext hHeld))))
  clear hHeld hW0 HZ HDa HDb
  go_upto_region 2 with fail
  refine wp_region_held_drew (S := fun W => Ext w3 W) (by kernel_rfl) ((Ext.refl _).drew) (fun hHeld => ?_)
  refine wpAnyH_take (i := 0) (oi := _) (v := _) rfl (by kernel_rfl) (by kernel_rfl) (by kernel_rfl) (fun _ _ _ h => h) (ylb digest_wide rfl (by rfl) rfl (unhide HSZ).1 (fun w' hw => (unhide H4).2.1.ext hw)) (by assumption) ?_
  try simp only [Act.put, List.setIfInBounds_toArray, List.set_cons_zero, List.set_cons_succ, List.getElem_toArray, List.getElem_cons_succ, List.getElem_cons_zero]
  refine wpAnyH_take (i := 1) (oi := _) (v := ?_) rfl (by kernel_rfl) (by kernel_rfl) (by kernel_rfl) (fun _ _ _ h => h) (Or.inl ⟨by rfl, fun wz hSz => ?_⟩) (by assumption) ?_
  rotate_left
  · (first | (go_simp; done) | (go_simp; with_reducible rfl))
  try simp only [Act.put, List.setIfInBounds_toArray, List.set_cons_zero, List.set_cons_succ, List.getElem_toArray, List.getElem_cons_succ, List.getElem_cons_zero]
  refine wpAnyH_take (i := 2) (oi := _) (v := _) rfl (by kernel_rfl) (by kernel_rfl) (by kernel_rfl) (fun _ _ _ h => h) (ylb digest_wide rfl (by rfl) rfl (unhide HSZ).2.1 (fun w' hw => (unhide H4).2.2.1.ext hw)) (by assumption) ?_
  try simp only [Act.put, List.setIfInBounds_toArray, List.set_cons_zero, List.set_cons_succ, List.getElem_toArray, List.getElem_cons_succ, List.getElem_cons_zero]
  refine wpAnyH_take (i := 4) (oi := _) (v := _) rfl (by kernel_rfl) (by kernel_rfl) (by kernel_rfl) (fun _ _ _ h => h) (ylb digest_wide rfl (by rfl) rfl (unhide HSZ).1 (fun w' hw => (unhide H4).2.1.ext hw)) (by assumption) ?_
  try simp only [Act.put, List.setIfInBounds_toArray, List.set_cons_zero, List.set_cons_succ, List.getElem_toArray, List.getElem_cons_succ, List.getElem_cons_zero]
  refine wpAnyH_take (i := 5) (oi := _) (v := ?_) rfl (by kernel_rfl) (by kernel_rfl) (by kernel_rfl) (fun _ _ _ h => h) (Or.inl ⟨by rfl, fun wz hSz => ?_⟩) (by assumption) ?_
  rotate_left
  · (first | (go_simp; done) | (go_simp; with_reducible rfl))
  try simp only [Act.put, List.setIfInBounds_toArray, List.set_cons_zero, List.set_cons_succ, List.getElem_toArray, List.getElem_cons_succ, List.getElem_cons_zero]
  refine wpAnyH_take (i := 6) (oi := _) (v := _) rfl (by kernel_rfl) (by kernel_rfl) (by kernel_rfl) (fun _ _ _ h => h) (ylb digest_wide rfl (by rfl) rfl (unhide HSZ).2.2 (fun w' hw => (unhide H4).2.2.2.ext hw)) (by assumption) ?_
  try simp only [Act.put, List.setIfInBounds_toArray, List.set_cons_zero, List.set_cons_succ, List.getElem_toArray, List.getElem_cons_succ, List.getElem_cons_zero]
  refine wpAnyH_ready (rs := [3]) (by kernel_rfl) (by simp) (AllReadyH.cons (o := _) rfl (fun K hK => ?_) AllReadyH.nil)
  try go_simp
  (refine (unhide HSa _ ((unhide H4).1.trans hHeld)).mono ?_; rintro e w5 ⟨A5, c5, rfl, hG⟩; have hS := Ext.trans hHeld hG.ext; have H5 := hide hG.digs; clear hG hHeld)
  refine hK.out _ _ ?_ (fun hHeld => ?_)
  · exact hS
  clear hK K
  try simp only [Act.put, List.setIfInBounds_toArray, List.set_cons_zero, List.set_cons_succ, List.getElem_toArray, List.getElem_cons_succ, List.getElem_cons_zero]
  refine wpAnyH_ready (rs := [7]) (by kernel_rfl) (by simp) (AllReadyH.cons (o := _) rfl (fun K hK => ?_) AllReadyH.nil)
  try go_simp
  (refine (unhide HSb _ ((unhide H4).1.trans hHeld)).mono ?_; rintro e w6 ⟨A6, c6, rfl, hG⟩; have hS := Ext.trans hHeld hG.ext; have H6 := hide (And.intro ((unhide H5).ext hG.ext) hG.digs); clear hG hHeld)
  refine hK.out _ _ ?_ (fun hHeld => ?_)
  · exact hS
  clear hK K
  try simp only [Act.put, List.setIfInBounds_toArray, List.set_cons_zero, List.set_cons_succ, List.getElem_toArray, List.getElem_cons_succ, List.getElem_cons_zero]
  refine wpAnyH_take (i := 8) (oi := _) (v := ?_) rfl (by kernel_rfl) (by kernel_rfl) (by kernel_rfl) (fun _ _ _ h => h) (Or.inl ⟨by rfl, fun wz hSz => ?_⟩) (by assumption) ?_
  rotate_left
  · (first | (go_simp; done) | (go_simp; with_reducible rfl))
  try simp only [Act.put, List.setIfInBounds_toArray, List.set_cons_zero, List.set_cons_succ, List.getElem_toArray, List.getElem_cons_succ, List.getElem_cons_zero]
  refine wpAnyH_take (i := 9) (oi := _) (v := ?_) rfl (by kernel_rfl) (by kernel_rfl) (by kernel_rfl) (fun _ _ _ h => h) (Or.inl ⟨by rfl, fun wz hSz => ?_⟩) (by assumption) ?_
  rotate_left
  · (first | (go_simp; done) | (go_simp; with_reducible rfl))
  try simp only [Act.put, List.setIfInBounds_toArray, List.set_cons_zero, List.set_cons_succ, List.getElem_toArray, List.getElem_cons_succ, List.getElem_cons_zero]
  refine wpAnyH_done (by kernel_rfl) ?_ _
  have H7 := hide (And.intro ((unhide H4).1.trans hHeld) (And.intro ((unhide H3).1.ext hHeld) ((unhide H3).2.ext hHeld)))
  clear hHeld H4 H3 H5 HSa HSb
  obtain ⟨ba, oa, rfl⟩ := (unhide H6).1.signA
  obtain ⟨bb', ob, rfl⟩ := (unhide H6).2.signA
  go_wp2_with fail
  go_loopw [47] (fun i wr => ∃ k : Nat, k ≤ 68 ∧ i = .int .i64 k ∧ Hid (Ext w6 wr)) (fun i _ => 68 - (intOf i).toNat)
  case atStart => exact ⟨0, by omega, rfl, hide (Ext.refl _)⟩
  case round =>
    obtain ⟨k, hk, rfl, HI⟩ := hrel
    by_cases hlt : k < 68
    · have HF : Hid (∀ W, Ext w6 W → W.cell? ⟨ga, k, none⟩ = some (.int .i64 ((digC a k : Nat) : Int)) ∧ W.cell? ⟨gb, k, none⟩ = some (.int .i64 ((digC b k : Nat) : Int))) := hide (fun W hW => ⟨by rw [((unhide H7).2.1.ext hW).cell]; exact icells_getA _ hlt, by rw [((unhide H7).2.2.ext hW).cell]; exact icells_getA _ hlt⟩)
      have HRa := hide (fun W (hW : Ext w6 W) => ((unhide H6).1.ext hW).signR hlt)
      have HRb := hide (fun W (hW : Ext w6 W) => ((unhide H6).2.ext hW).signR hlt)
      have HLa := hide (unhide HL a k)
      have HLb := hide (unhide HL b k)
      have HAk := hide (unhide HAd k)
      have hda := digC_le a k
      have hdb := digC_le b k
      have hne := fun W => ne16 (unhide HLb) (unhide HLb) W
      rw [decide_eq_true rfl] at hne
      generalize digC a k = da at *
      generalize digC b k = db at *
      generalize signAt seed index a k = sa at *
      generalize signAt seed index b k = sb at *
      have hkI : (k : Int) < 68 := by omega
      go_upto_region 8 with fail
      refine wp_region_held_drew (S := fun W => Ext w6 W) (by kernel_rfl) ((unhide HI).drew) (fun hHeld => ?_)
      refine wpAnyH_take (i := 0) (oi := _) (v := ?_) rfl (by kernel_rfl) (by kernel_rfl) (by kernel_rfl) (fun _ _ _ h => h) (Or.inl ⟨by rfl, fun wz hSz => ?_⟩) (by assumption) ?_
      rotate_left
      · (first | (go_simp; done) | (go_simp; with_reducible rfl) | (obtain ⟨f1, f2⟩ := (unhide HF) wz hSz; clear hSz; first | (go_simp; done) | (go_simp; with_reducible rfl)))
      try simp only [Act.put, List.setIfInBounds_toArray, List.set_cons_zero, List.set_cons_succ, List.getElem_toArray, List.getElem_cons_succ, List.getElem_cons_zero]
      refine wpAnyH_take (i := 1) (oi := _) (v := ?_) rfl (by kernel_rfl) (by kernel_rfl) (by kernel_rfl) (fun _ _ _ h => h) (Or.inl ⟨by rfl, fun wz hSz => ?_⟩) (by assumption) ?_
      rotate_left
      · (first | (go_simp; done) | (go_simp; with_reducible rfl) | (obtain ⟨f1, f2⟩ := (unhide HF) wz hSz; clear hSz; first | (go_simp; done) | (go_simp; with_reducible rfl)))
      try simp only [Act.put, List.setIfInBounds_toArray, List.set_cons_zero, List.set_cons_succ, List.getElem_toArray, List.getElem_cons_succ, List.getElem_cons_zero]
      refine wpAnyH_take (i := 2) (oi := _) (v := ?_) rfl (by kernel_rfl) (by kernel_rfl) (by kernel_rfl) (fun _ _ _ h => h) (Or.inl ⟨by rfl, fun wz hSz => ?_⟩) (by assumption) ?_
      rotate_left
      · (first | (go_simp; done) | (go_simp; with_reducible rfl) | (obtain ⟨f1, f2⟩ := (unhide HF) wz hSz; clear hSz; first | (go_simp; done) | (go_simp; with_reducible rfl)))
      try simp only [Act.put, List.setIfInBounds_toArray, List.set_cons_zero, List.set_cons_succ, List.getElem_toArray, List.getElem_cons_succ, List.getElem_cons_zero]
      refine wpAnyH_take (i := 3) (oi := _) (v := ?_) rfl (by kernel_rfl) (by kernel_rfl) (by kernel_rfl) (fun _ _ _ h => h) (Or.inl ⟨by rfl, fun wz hSz => ?_⟩) (by assumption) ?_
      rotate_left
      · (first | (go_simp; done) | (go_simp; with_reducible rfl) | (obtain ⟨f1, f2⟩ := (unhide HF) wz hSz; clear hSz; first | (go_simp; done) | (go_simp; with_reducible rfl)))
      try simp only [Act.put, List.setIfInBounds_toArray, List.set_cons_zero, List.set_cons_succ, List.getElem_toArray, List.getElem_cons_succ, List.getElem_cons_zero]
      refine wpAnyH_take (i := 4) (oi := _) (v := ?_) rfl (by kernel_rfl) (by kernel_rfl) (by kernel_rfl) (fun _ _ _ h => h) (Or.inl ⟨by rfl, fun wz hSz => ?_⟩) (by assumption) ?_
      rotate_left
      · (first | (go_simp; done) | (go_simp; with_reducible rfl) | (obtain ⟨f1, f2⟩ := (unhide HF) wz hSz; clear hSz; first | (go_simp; done) | (go_simp; with_reducible rfl)))
      try simp only [Act.put, List.setIfInBounds_toArray, List.set_cons_zero, List.set_cons_succ, List.getElem_toArray, List.getElem_cons_succ, List.getElem_cons_zero]
      refine wpAnyH_take (i := 5) (oi := _) (v := ?_) rfl (by kernel_rfl) (by kernel_rfl) (by kernel_rfl) (fun _ _ _ h => h) (Or.inl ⟨by rfl, fun wz hSz => ?_⟩) (by assumption) ?_
      rotate_left
      · (first | (go_simp; done) | (go_simp; with_reducible rfl) | (obtain ⟨f1, f2⟩ := (unhide HF) wz hSz; clear hSz; first | (go_simp; done) | (go_simp; with_reducible rfl)))
      try simp only [Act.put, List.setIfInBounds_toArray, List.set_cons_zero, List.set_cons_succ, List.getElem_toArray, List.getElem_cons_succ, List.getElem_cons_zero]
      refine wpAnyH_take (i := 6) (oi := _) (v := ?_) rfl (by kernel_rfl) (by kernel_rfl) (by kernel_rfl) (fun _ _ _ h => h) (Or.inl ⟨by rfl, fun wz hSz => ?_⟩) (by assumption) ?_
      rotate_left
      · (first | (go_simp; done) | (go_simp; with_reducible rfl) | (obtain ⟨f1, f2⟩ := (unhide HF) wz hSz; clear hSz; first | (go_simp; done) | (go_simp; with_reducible rfl)))
      try simp only [Act.put, List.setIfInBounds_toArray, List.set_cons_zero, List.set_cons_succ, List.getElem_toArray, List.getElem_cons_succ, List.getElem_cons_zero]
      refine wpAnyH_take (i := 7) (oi := _) (v := ?_) rfl (by kernel_rfl) (by kernel_rfl) (by kernel_rfl) (fun _ _ _ h => h) (Or.inl ⟨by rfl, fun wz hSz => ?_⟩) (by assumption) ?_
      rotate_left
      · (first | (go_simp; done) | (go_simp; with_reducible rfl) | (obtain ⟨f1, f2⟩ := (unhide HF) wz hSz; clear hSz; first | (go_simp; done) | (go_simp; with_reducible rfl)))
      try simp only [Act.put, List.setIfInBounds_toArray, List.set_cons_zero, List.set_cons_succ, List.getElem_toArray, List.getElem_cons_succ, List.getElem_cons_zero]
      refine wpAnyH_take (i := 8) (oi := _) (v := ?_) rfl (by kernel_rfl) (by kernel_rfl) (by kernel_rfl) (fun _ _ _ h => h) (Or.inl ⟨by rfl, fun wz hSz => ?_⟩) (by assumption) ?_
      rotate_left
      · (first | (go_simp; done) | (go_simp; with_reducible rfl) | (obtain ⟨f1, f2⟩ := (unhide HF) wz hSz; clear hSz; first | (go_simp; done) | (go_simp; with_reducible rfl)))
      try simp only [Act.put, List.setIfInBounds_toArray, List.set_cons_zero, List.set_cons_succ, List.getElem_toArray, List.getElem_cons_succ, List.getElem_cons_zero]
      refine wpAnyH_done (by kernel_rfl) ?_ _
      have H8 := hide hHeld
      clear hHeld HI
      by_cases hgt : db < da
      · have hgI : (db : Int) < (da : Int) := by omega
        go_wp2
        go_roundw
        case rel => exact ⟨k + 1, by omega, by go_num, H8⟩
        case measure => simp [intOf]; omega
      · have hgI : ¬ (db : Int) < (da : Int) := by omega
        obtain ⟨dd, hdd⟩ : ∃ dd, db - da = dd := ⟨_, rfl⟩
        have HAdv := hide (unhide HAk (by omega))
        rw [hdd] at HAdv
        obtain ⟨sac, hsac⟩ : ∃ l, sa.map u8v = l := ⟨_, rfl⟩
        obtain ⟨sbc, hsbc⟩ : ∃ l, sb.map u8v = l := ⟨_, rfl⟩
        have HCL := hide (show sac.length = 16 ∧ sbc.length = 16 ∧ sac.toArray.all (·.oneCell') = true from by rw [← hsac, ← hsbc]; exact ⟨by simpa using unhide HLa, by simpa using unhide HLb, bytes_one _⟩)
        have HC := hide (And.intro hsac hsbc)
        rw [hsac] at HRa
        rw [hsbc] at HRb hne
        go_upto_region 10 with (first
          | (refine wpList_loadMG (by rfl) (ty := 23) (x := .tmp 61) rfl digest_wide rfl (unhide HRa _ (unhide H8)) (unhide HCL).1 ?_)
          | (refine wpList_storeB (ty := 23) (t := 23) (x := .tmp 14) (y := .tmp 62) rfl rfl digest_wide rfl rfl (Blk.new _ _ _) rfl (by simpa using (unhide HCL).1) (unhide HCL).2.2 ?_; intro w9 hb9 hc9 hz9; have H9 := hide (And.intro (made_ext (unhide H8) hc9) hb9); clear hb9 hc9 hz9))
        have e3 : IntKind.i64.wrap ((db : Int) - (da : Int)) = (dd : Int) := by rw [IntKind.wrap_i64]; omega
        refine wp_region_held_drew (S := fun W => Ext w9 W) (by kernel_rfl) ((Ext.refl _).drew) (fun hHeld => ?_)
        have HF : Hid (∀ W, Ext w9 W → W.cell? ⟨ga, k, none⟩ = some (.int .i64 (da : Int)) ∧ W.cell? ⟨gb, k, none⟩ = some (.int .i64 (db : Int))) := hide (fun W hW => unhide HF W ((unhide H9).1.trans hW))
        refine wpAnyH_take (i := 0) (oi := _) (v := ?_) rfl (by kernel_rfl) (by kernel_rfl) (by kernel_rfl) (fun _ _ _ h => h) (Or.inl ⟨by rfl, fun wz hSz => ?_⟩) (by assumption) ?_
        rotate_left
        · (first | (go_simp; done) | (go_simp; with_reducible rfl) | (obtain ⟨f1, f2⟩ := (unhide HF) wz hSz; clear hSz; first | (go_simp; done) | (go_simp; with_reducible rfl)))
        try simp only [Act.put, List.setIfInBounds_toArray, List.set_cons_zero, List.set_cons_succ, List.getElem_toArray, List.getElem_cons_succ, List.getElem_cons_zero]
        refine wpAnyH_take (i := 1) (oi := _) (v := ?_) rfl (by kernel_rfl) (by kernel_rfl) (by kernel_rfl) (fun _ _ _ h => h) (Or.inl ⟨by rfl, fun wz hSz => ?_⟩) (by assumption) ?_
        rotate_left
        · (first | (go_simp; done) | (go_simp; with_reducible rfl) | (obtain ⟨f1, f2⟩ := (unhide HF) wz hSz; clear hSz; first | (go_simp; done) | (go_simp; with_reducible rfl)))
        try simp only [Act.put, List.setIfInBounds_toArray, List.set_cons_zero, List.set_cons_succ, List.getElem_toArray, List.getElem_cons_succ, List.getElem_cons_zero]
        refine wpAnyH_take (i := 2) (oi := _) (v := ?_) rfl (by kernel_rfl) (by kernel_rfl) (by kernel_rfl) (fun _ _ _ h => h) (Or.inl ⟨by rfl, fun wz hSz => ?_⟩) (by assumption) ?_
        rotate_left
        · (first | (go_simp; done) | (go_simp; with_reducible rfl) | (obtain ⟨f1, f2⟩ := (unhide HF) wz hSz; clear hSz; first | (go_simp; done) | (go_simp; with_reducible rfl)))
        try simp only [Act.put, List.setIfInBounds_toArray, List.set_cons_zero, List.set_cons_succ, List.getElem_toArray, List.getElem_cons_succ, List.getElem_cons_zero]
        refine wpAnyH_take (i := 3) (oi := _) (v := ?_) rfl (by kernel_rfl) (by kernel_rfl) (by kernel_rfl) (fun _ _ _ h => h) (Or.inl ⟨by rfl, fun wz hSz => ?_⟩) (by assumption) ?_
        rotate_left
        · (first | (go_simp; done) | (go_simp; with_reducible rfl) | (obtain ⟨f1, f2⟩ := (unhide HF) wz hSz; clear hSz; first | (go_simp; done) | (go_simp; with_reducible rfl)))
        try simp only [Act.put, List.setIfInBounds_toArray, List.set_cons_zero, List.set_cons_succ, List.getElem_toArray, List.getElem_cons_succ, List.getElem_cons_zero]
        refine wpAnyH_take (i := 4) (oi := _) (v := ?_) rfl (by kernel_rfl) (by kernel_rfl) (by kernel_rfl) (fun _ _ _ h => h) (Or.inl ⟨by rfl, fun wz hSz => ?_⟩) (by assumption) ?_
        rotate_left
        · (first | (go_simp; done) | (go_simp; with_reducible rfl) | (obtain ⟨f1, f2⟩ := (unhide HF) wz hSz; clear hSz; first | (go_simp; done) | (go_simp; with_reducible rfl)))
        try simp only [Act.put, List.setIfInBounds_toArray, List.set_cons_zero, List.set_cons_succ, List.getElem_toArray, List.getElem_cons_succ, List.getElem_cons_zero]
        refine wpAnyH_take (i := 5) (oi := _) (v := ?_) rfl (by kernel_rfl) (by kernel_rfl) (by kernel_rfl) (fun _ _ _ h => h) (Or.inl ⟨by rfl, fun wz hSz => ?_⟩) (by assumption) ?_
        rotate_left
        · (first | (go_simp; done) | (go_simp; with_reducible rfl) | (obtain ⟨f1, f2⟩ := (unhide HF) wz hSz; clear hSz; first | (go_simp; done) | (go_simp; with_reducible rfl)))
        try simp only [Act.put, List.setIfInBounds_toArray, List.set_cons_zero, List.set_cons_succ, List.getElem_toArray, List.getElem_cons_succ, List.getElem_cons_zero]
        refine wpAnyH_take (i := 6) (oi := _) (v := ?_) rfl (by kernel_rfl) (by kernel_rfl) (by kernel_rfl) (fun _ _ _ h => h) (Or.inl ⟨by rfl, fun wz hSz => ?_⟩) (by assumption) ?_
        rotate_left
        · (first | (go_simp; done) | (go_simp; with_reducible rfl) | (obtain ⟨f1, f2⟩ := (unhide HF) wz hSz; clear hSz; first | (go_simp; done) | (go_simp; with_reducible rfl)))
        try simp only [Act.put, List.setIfInBounds_toArray, List.set_cons_zero, List.set_cons_succ, List.getElem_toArray, List.getElem_cons_succ, List.getElem_cons_zero]
        refine wpAnyH_take (i := 7) (oi := _) (v := ?_) rfl (by kernel_rfl) (by kernel_rfl) (by kernel_rfl) (fun _ _ _ h => h) (Or.inl ⟨by rfl, fun wz hSz => ?_⟩) (by assumption) ?_
        rotate_left
        · (first | (go_simp; done) | (go_simp; with_reducible rfl) | (obtain ⟨f1, f2⟩ := (unhide HF) wz hSz; clear hSz; first | (go_simp; done) | (go_simp; with_reducible rfl)))
        try simp only [Act.put, List.setIfInBounds_toArray, List.set_cons_zero, List.set_cons_succ, List.getElem_toArray, List.getElem_cons_succ, List.getElem_cons_zero]
        refine wpAnyH_take (i := 8) (oi := _) (v := ?_) rfl (by kernel_rfl) (by kernel_rfl) (by kernel_rfl) (fun _ _ _ h => h) (Or.inl ⟨by rfl, fun wz hSz => ?_⟩) (by assumption) ?_
        rotate_left
        · (first | (go_simp; done) | (go_simp; with_reducible rfl) | (obtain ⟨f1, f2⟩ := (unhide HF) wz hSz; clear hSz; first | (go_simp; done) | (go_simp; with_reducible rfl)))
        try simp only [Act.put, List.setIfInBounds_toArray, List.set_cons_zero, List.set_cons_succ, List.getElem_toArray, List.getElem_cons_succ, List.getElem_cons_zero]
        refine wpAnyH_take (i := 9) (oi := _) (v := ?_) rfl (by kernel_rfl) (by kernel_rfl) (by kernel_rfl) (fun _ _ _ h => h) (Or.inl ⟨by rfl, fun wz hSz => ?_⟩) (by assumption) ?_
        rotate_left
        · (first | (go_simp; done) | (go_simp; with_reducible rfl) | (obtain ⟨f1, f2⟩ := (unhide HF) wz hSz; clear hSz; first | (go_simp; done) | (go_simp; with_reducible rfl)))
        try simp only [Act.put, List.setIfInBounds_toArray, List.set_cons_zero, List.set_cons_succ, List.getElem_toArray, List.getElem_cons_succ, List.getElem_cons_zero]
        refine wpAnyH_done (by kernel_rfl) ?_ _
        have H10 := hide (And.intro ((unhide H9).1.trans hHeld) ((unhide H9).2.ext hHeld))
        have hw6 : w6.heap.size ≤ wr.heap.size := (unhide H8).size'
        clear hHeld
        go_wp2_with fail
        generalize hgv : wr.heap.size = gv at *
        go_loopw [72] (fun i wx => ∃ j : Nat, j ≤ dd ∧ i = .int .i64 j ∧ Hid (Blk wx gv 23 ((advS k sa j).map u8v).toArray ∧ Ext w6 wx)) (fun i _ => dd - (intOf i).toNat)
        case atStart => exact ⟨0, by omega, rfl, hide ⟨by rw [show advS k sa 0 = sa from rfl, (unhide HC).1]; exact (unhide H10).2, (unhide H10).1⟩⟩
        case round =>
          obtain ⟨j, hj, rfl, HJ⟩ := hrel
          have HLj := hide (advS_length k sa (unhide HLa) j)
          by_cases hjt : j < dd
          · have HLj1 := hide (advS_length k sa (unhide HLa) (j + 1))
            have HSk := hide (unhide HSt k (advS k sa j) hlt (unhide HLj))
            have HE := hide (show stepS k (advS k sa j) = advS k sa (j + 1) from rfl)
            rw [unhide HE] at HSk
            have hjI : (j : Int) < (dd : Int) := by omega
            go_wp2_with (first
              | (refine wpList_loadB (ty := 23) (t := 23) (x := .tmp 14) rfl rfl digest_wide rfl (unhide HJ).1 (by simpa using unhide HLj) ?_)
              | (go_at_call 25; refine (unhide HSk _ ((unhide H7).1.trans (unhide HJ).2)).mono ?_; rintro e wy ⟨rfl, hEy⟩; have Hy := hide hEy; clear hEy)
              | (refine wpList_storeB (ty := 23) (t := 23) (x := .tmp 14) (y := .tmp 76) rfl rfl digest_wide rfl rfl ((unhide HJ).1.ext (unhide Hy)) (by simpa using unhide HLj) (by simpa using unhide HLj1) (bytes_one _) ?_; intro wz hbz hcz hzz; have Hz := hide (And.intro hbz hcz); clear hbz hcz hzz))
            go_roundw
            case rel => exact ⟨j + 1, by omega, by go_num, hide ⟨(unhide Hz).1, ((unhide HJ).2.trans (unhide Hy)).trans' (unhide Hz).2 (fun _ _ h => h) (fun i hi e => by omega)⟩⟩
            case measure => simp [intOf]; omega
          · obtain rfl : j = dd := by omega
            have HK := hide (show Blk wr gv 23 sbc.toArray ∧ Ext w6 wr from by have h := unhide HJ; rw [unhide HAdv, (unhide HC).2] at h; exact h)
            clear HJ
            go_upto_region 14 with fail
            refine wp_region_held_drew (S := fun W => Ext wr W) (by kernel_rfl) ((Ext.refl _).drew) (fun hHeld => ?_)
            refine wpAnyH_take (i := 0) (oi := _) (v := _) rfl (by kernel_rfl) (by kernel_rfl) (by kernel_rfl) (fun _ _ _ h => h) (ylb digest_wide rfl (by rfl) rfl (by simpa using (unhide HCL).2.1) (fun w' hw => (unhide HK).1.ext hw)) (by assumption) ?_
            try simp only [Act.put, List.setIfInBounds_toArray, List.set_cons_zero, List.set_cons_succ, List.getElem_toArray, List.getElem_cons_succ, List.getElem_cons_zero]
            refine wpAnyH_take (i := 1) (oi := _) (v := ?_) rfl (by kernel_rfl) (by kernel_rfl) (by kernel_rfl) (fun _ _ _ h => h) (Or.inl ⟨by rfl, fun wz hSz => ?_⟩) (by assumption) ?_
            rotate_left
            · (first | (go_simp; done) | (go_simp; with_reducible rfl))
            try simp only [Act.put, List.setIfInBounds_toArray, List.set_cons_zero, List.set_cons_succ, List.getElem_toArray, List.getElem_cons_succ, List.getElem_cons_zero]
            refine wpAnyH_take (i := 2) (oi := _) (v := ?_) rfl (by kernel_rfl) (by kernel_rfl) (by kernel_rfl) (fun _ _ _ h => h) (Or.inl ⟨by rfl, fun wz hSz => ?_⟩) (by assumption) ?_
            rotate_left
            · (first | (go_simp; done) | (go_simp; with_reducible rfl))
            try simp only [Act.put, List.setIfInBounds_toArray, List.set_cons_zero, List.set_cons_succ, List.getElem_toArray, List.getElem_cons_succ, List.getElem_cons_zero]
            refine wpAnyH_take (i := 3) (oi := _) (v := ?_) rfl (by kernel_rfl) (by kernel_rfl) (by kernel_rfl) (fun _ _ _ h => h) (Or.inl ⟨by rfl, fun wz hSz => ?_⟩) (by assumption) ?_
            rotate_left
            · (first | (go_simp; done) | (go_simp; with_reducible rfl))
            try simp only [Act.put, List.setIfInBounds_toArray, List.set_cons_zero, List.set_cons_succ, List.getElem_toArray, List.getElem_cons_succ, List.getElem_cons_zero]
            refine wpAnyH_take (i := 4) (oi := _) (v := _) rfl (by kernel_rfl) (by kernel_rfl) (by kernel_rfl) (fun _ _ _ h => h) (ylm digest_wide rfl (by rfl) rfl (unhide HCL).2.1 (fun w' hw => unhide HRb w' ((unhide HK).2.trans hw))) (by assumption) ?_
            try simp only [Act.put, List.setIfInBounds_toArray, List.set_cons_zero, List.set_cons_succ, List.getElem_toArray, List.getElem_cons_succ, List.getElem_cons_zero]
            refine wpAnyH_take (i := 5) (oi := _) (v := ?_) rfl (by kernel_rfl) (by kernel_rfl) (by kernel_rfl) (fun _ _ _ h => h) (Or.inl ⟨by rfl, fun wz hSz => ?_⟩) (by assumption) ?_
            rotate_left
            · (first | (go_simp; done) | (go_simp; with_reducible rfl))
            try simp only [Act.put, List.setIfInBounds_toArray, List.set_cons_zero, List.set_cons_succ, List.getElem_toArray, List.getElem_cons_succ, List.getElem_cons_zero]
            refine wpAnyH_done (by kernel_rfl) ?_ _
            have H11 := hide ((unhide HK).2.trans hHeld)
            clear hHeld
            go_wp2
            go_roundw
            case rel => exact ⟨k + 1, by omega, by go_num, H11⟩
            case measure => simp [intOf]; omega
    · obtain rfl : k = 68 := by omega
      go_wp2_with fail
      refine (unhide HSan _ ((unhide H7).1.trans (unhide HI))).mono ?_
      rintro e wl ⟨rfl, hEl⟩
      have Hl := hide hEl
      clear hEl
      go_wp2
      go_ret
      exact ⟨rfl, ((unhide H7).1.trans (unhide HI)).trans (unhide Hl)⟩

end Go.Proofs.YtjemfefkgfoikaaDoor
