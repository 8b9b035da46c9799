/-
  The law WotsVerifies.
-/
import Derived.Test.YtjemfefkgfoikaaDoorSan4
import Derived.Test.YtjemfefkgfoikaaDoorFacts
namespace Go.Proofs.YtjemfefkgfoikaaDoor
open Go.RowKit


def VerF (w0 : World) (marr sarr res : Array Value) (index : Int) (ds : List (List UInt8)) : Nat → Value → Value → World → Prop
  | 0, v, _, _ => v = .agg marr
  | 1, v, _, _ => v = .agg sarr
  | 2, v, _, _ => v = .int .i64 index
  | 3, v, _, _ => v = .agg marr
  | 4, v, _, W => ∃ A c, v = .slice A 68 c ∧ Digs W (.slice A 68 c) ds
  | 5, v, _, _ => v = .tuple #[.agg res, .int .i64 0]
  | 6, v, _, _ => v = .tuple #[.agg res, .int .i64 0]
  | 7, v, _, _ => v = .agg res
  | 8, v, _, _ => v = .int .i64 0
  | 9, v, _, W => ∃ g, v = .pointer (some ⟨g, 0, none⟩) ∧ w0.heap.size ≤ g ∧ ∃ cs : Array Value, cs.size = 16 ∧ Blk W g 23 cs
  | 10, _, u, W => ∃ g, u = .pointer (some ⟨g, 0, none⟩) ∧ w0.heap.size ≤ g ∧ Blk W g 23 res
  | 11, v, _, _ => v = .int .i64 0
  | _, _, _, _ => True
theorem VerF.ext {w0 : World} {marr sarr res : Array Value} {index : Int} {ds : List (List UInt8)} {i : Nat} {v u : Value} {W W' : World} (h : VerF w0 marr sarr res index ds i v u W) (hE : Ext W W') : VerF w0 marr sarr res index ds i v u W' := by
  unfold VerF at h ⊢
  split at h <;> try exact h
  · obtain ⟨A, c, h1, h2⟩ := h; exact ⟨A, c, h1, h2.ext hE⟩
  · obtain ⟨g, h1, h2, cs, h3, h4⟩ := h; exact ⟨g, h1, h2, cs, h3, h4.ext hE⟩
  · obtain ⟨g, h1, h2, h4⟩ := h; exact ⟨g, h1, h2, h4.ext hE⟩

theorem VerF.any {w0 : World} {marr sarr res : Array Value} {index : Int} {ds : List (List UInt8)} {i : Nat} {v u : Value} {W W' : World} (h4 : i ≠ 4) (h9 : i ≠ 9) (h10 : i ≠ 10) (h : VerF w0 marr sarr res index ds i v u W) : VerF w0 marr sarr res index ds i v u W' := by
  unfold VerF at h ⊢
  split at h <;> first | exact h | omega
theorem ends_congr (f g : Nat → List UInt8) : ∀ n, (∀ k, k < n → f k = g k) → endsS f n = endsS g n
  | 0, _ => rfl
  | n + 1, h => by rw [endsS_step, endsS_step, ends_congr f g n fun k hk => h k (by omega), h n (by omega)]
theorem recover_congr (m : List UInt8) (c d : Nat → List UInt8) (h : ∀ k, k < 68 → c k = d k) : recoverS m c = recoverS m d := by
  unfold recoverS keyOf
  rw [ends_congr _ _ 68 fun k hk => by rw [h k hk]]
theorem chainAt_sign (seed : List UInt8) (index : Int) (m : List UInt8) (k : Nat) (h : k < 68) : chainAt (signS seed index m 68) k = signAt seed index m k := by
  unfold chainAt signS
  rw [List.getD_eq_getElem?_getD, List.getElem?_map, List.getElem?_range h]
  rfl
theorem recover_sign (seed : List UInt8) (index : Int) (m : List UInt8) : recoverS m (chainAt (signS seed index m 68)) = publicS seed index := by
  rw [← wots_verifies seed index m]
  exact recover_congr _ _ _ (chainAt_sign seed index m)

set_option maxRecDepth 100000 in
set_option maxHeartbeats 4000000 in
theorem ver_any (seed : List UInt8) (index : Int) (m : List UInt8) (w : World) (hM : ShaMem w) (hv : seed.length = 16) (hm : m.length = 16) (h1 : -9223372036854775808 ≤ index) (h2 : index < 9223372036854775808) :
    Calls Tryd.prog 4 #[.agg (seed.map u8v).toArray, .int .i64 index, .agg (m.map u8v).toArray] w fun e w' => e = .returned (.bool true) ∧ Ext w w' := by
  have HM := hide hM
  have HSg := hide (fun W (hE : Ext w W) => sign_any seed index m W (hM.ext hE) hv hm h1 h2)
  have HRc := hide (fun (A : Option Addr) (c : Nat) W (hE : Ext w W) (hD : Digs W (.slice A 68 c) (signS seed index m 68)) => recover_yes m (signS seed index m 68) (.slice A 68 c) W (hM.ext hE) hm (signS_length _ _ _ _) hD)
  rw [recover_sign] at HRc
  have HPb := hide (fun W (hE : Ext w W) => public_any seed index W (hM.ext hE) hv h1 h2)
  have hpl : (publicS seed index).length = 16 := digestS_length _ _
  have heq : ∀ W, (binOp .eql 23 (.agg ((publicS seed index).map u8v).toArray) (.agg ((publicS seed index).map u8v).toArray)).run Tryd.prog W = .ok (.bool true) W := same16 rfl hpl
  obtain ⟨res, hres⟩ : ∃ r, ((publicS seed index).map u8v).toArray = r := ⟨_, rfl⟩
  have HRS := hide (show res.size = 16 ∧ res.all (·.oneCell') = true from by rw [← hres]; exact ⟨by simpa using hpl, bytes_one _⟩)
  rw [hres] at HRc HPb heq
  obtain ⟨ds, hds⟩ : ∃ d, signS seed index m 68 = d := ⟨_, rfl⟩
  rw [hds] at HRc HSg
  have HDL := hide (show ds.length = 68 from by rw [← hds]; exact signS_length _ _ _ _)
  obtain ⟨sarr, hsarr⟩ : ∃ r, (seed.map u8v).toArray = r := ⟨_, rfl⟩
  obtain ⟨marr, hmarr⟩ : ∃ r, (m.map u8v).toArray = r := ⟨_, rfl⟩
  rw [hsarr, hmarr] at HSg
  rw [hmarr] at HRc
  rw [hsarr] at HPb
  rw [hsarr, hmarr]
  have hss : sarr.size = 16 := by rw [← hsarr]; simpa using hv
  have hms : marr.size = 16 := by rw [← hmarr]; simpa using hm
  have HSZ := hide (And.intro hss hms)
  clear hM hres hds hsarr hmarr hv hm hss hms hpl h1 h2
  have HZ := hide (show (Ext w ((w.alloc (.cells sarr 23)).alloc (.cells marr 23)) ∧ Blk ((w.alloc (.cells sarr 23)).alloc (.cells marr 23)) w.heap.size 23 sarr ∧ Blk ((w.alloc (.cells sarr 23)).alloc (.cells marr 23)) (w.heap.size + 1) 23 marr) from ⟨((Ext.refl w).alloc _).alloc _, (Blk.new w _ _).alloc _, Blk.new' _ _ _ (by simp)⟩)
  go_enter Tryd.func4, Tryd.ntmps4
  go_upto_region 1 with fail
  generalize hW0 : ((w.alloc (.cells sarr 23)).alloc (.cells marr 23)) = W0 at *
  refine region_facts 12 _ [some 10, some 11, some 12, some 13, some 14, some 15, some 9, some 16, some 17, some 7, none, some 8] [10, 11]
    (fun _ _ W => Ext W0 W) (fun i => if i = 10 then 9 else i) (VerF W0 marr sarr res index ds) rfl (by kernel_rfl) (by simp) (by kernel_rfl) (by kernel_rfl) (by kernel_rfl) (by kernel_rfl) (.inl (by kernel_rfl)) (fun _ => (Ext.refl _).drew) ?steps ?fin
  case steps =>
    simp only [List.take_succ_cons, List.take_zero, StepsOK, Nat.zero_add, Nat.reduceAdd, and_true]
    refine ⟨?_, ?_, ?_, ?_, ?_, ?_, ?_, ?_, ?_, ?_, ?_, ?_⟩
    · intro L xs W K hB hC hd hL hK
      try dsimp only at hB hK
      simp only [setAll, putL, Act.put, List.setIfInBounds_toArray, List.set_cons_succ, List.set_cons_zero, Nat.zero_add, Nat.reduceAdd] at hK ⊢
      rw [if_pos (by rfl)]
      refine wp_loadB (ty := 23) (x := .tmp 5) rfl digest_wide rfl ((unhide HZ).2.2.ext hB) (unhide HSZ).2 ?_
      exact hK _ _ rfl (fun j _ _ _ _ h => h) hB
    · intro L xs W K hB hC hd hL hK
      try dsimp only at hB hK
      simp only [setAll, putL, Act.put, List.setIfInBounds_toArray, List.set_cons_succ, List.set_cons_zero, Nat.zero_add, Nat.reduceAdd] at hK ⊢
      rw [if_pos (by rfl)]
      refine wp_loadB (ty := 23) (x := .tmp 3) rfl digest_wide rfl ((unhide HZ).2.1.ext hB) (unhide HSZ).1 ?_
      exact hK _ _ rfl (fun j _ _ _ _ h => h) hB
    · intro L xs W K hB hC hd hL hK
      try dsimp only at hB hK
      simp only [setAll, putL, Act.put, List.setIfInBounds_toArray, List.set_cons_succ, List.set_cons_zero, Nat.zero_add, Nat.reduceAdd] at hK ⊢
      go_simp
      exact hK _ _ rfl (fun j _ _ _ _ h => h) hB
    · intro L xs W K hB hC hd hL hK
      try dsimp only at hB hK
      simp only [setAll, putL, Act.put, List.setIfInBounds_toArray, List.set_cons_succ, List.set_cons_zero, Nat.zero_add, Nat.reduceAdd] at hK ⊢
      rw [if_pos (by rfl)]
      refine wp_loadB (ty := 23) (x := .tmp 5) rfl digest_wide rfl ((unhide HZ).2.2.ext hB) (unhide HSZ).2 ?_
      exact hK _ _ rfl (fun j _ _ _ _ h => h) hB
    · intro L xs W K hB hC hd hL hK
      try dsimp only at hB hK
      simp only [setAll, putL, Act.put, List.setIfInBounds_toArray, List.set_cons_succ, List.set_cons_zero, Nat.zero_add, Nat.reduceAdd] at hK ⊢
      have d1 : xs 1 = _ := (hd 1 (by omega) (by kernel_rfl)).2
      have d2 : xs 2 = _ := (hd 2 (by omega) (by kernel_rfl)).2
      have d3 : xs 3 = _ := (hd 3 (by omega) (by kernel_rfl)).2
      simp only [d1, d2, d3] at hK ⊢
      go_simp
      refine (unhide HSg W ((unhide HZ).1.trans hB)).mono ?_
      rintro e W' ⟨A, c, rfl, h⟩
      exact hK _ _ ⟨A, c, rfl, h.digs⟩ (fun j _ _ _ _ h' => h'.ext h.ext) (hB.trans h.ext)
    · intro L xs W K hB hC hd hL hK
      try dsimp only at hB hK
      simp only [setAll, putL, Act.put, List.setIfInBounds_toArray, List.set_cons_succ, List.set_cons_zero, Nat.zero_add, Nat.reduceAdd] at hK ⊢
      have d0 : xs 0 = _ := (hd 0 (by omega) (by kernel_rfl)).2
      obtain ⟨A, c, d4, h4⟩ := (hd 4 (by omega) (by kernel_rfl)).2
      simp only [d0, d4] at hK ⊢
      go_simp
      refine (unhide HRc A c W ((unhide HZ).1.trans hB) h4).mono ?_
      rintro e W' ⟨rfl, hE⟩
      exact hK _ _ rfl (fun j _ _ _ _ h' => h'.ext hE) (hB.trans hE)
    · intro L xs W K hB hC hd hL hK
      try dsimp only at hB hK
      simp only [setAll, putL, Act.put, List.setIfInBounds_toArray, List.set_cons_succ, List.set_cons_zero, Nat.zero_add, Nat.reduceAdd] at hK ⊢
      have d5 : xs 5 = _ := (hd 5 (by omega) (by kernel_rfl)).2
      simp only [d5] at hK ⊢
      go_simp
      exact hK _ _ rfl (fun j _ _ _ _ h => h) hB
    · intro L xs W K hB hC hd hL hK
      try dsimp only at hB hK
      simp only [setAll, putL, Act.put, List.setIfInBounds_toArray, List.set_cons_succ, List.set_cons_zero, Nat.zero_add, Nat.reduceAdd] at hK ⊢
      have d6 : xs 6 = _ := (hd 6 (by omega) (by kernel_rfl)).2
      simp only [d6] at hK ⊢
      go_simp
      exact hK _ _ rfl (fun j _ _ _ _ h => h) hB
    · intro L xs W K hB hC hd hL hK
      try dsimp only at hB hK
      simp only [setAll, putL, Act.put, List.setIfInBounds_toArray, List.set_cons_succ, List.set_cons_zero, Nat.zero_add, Nat.reduceAdd] at hK ⊢
      have d6 : xs 6 = _ := (hd 6 (by omega) (by kernel_rfl)).2
      simp only [d6] at hK ⊢
      go_simp
      exact hK _ _ rfl (fun j _ _ _ _ h => h) hB
    · intro L xs W K hB hC hd hL hK
      try dsimp only at hB hK
      simp only [setAll, putL, Act.put, List.setIfInBounds_toArray, List.set_cons_succ, List.set_cons_zero, Nat.zero_add, Nat.reduceAdd] at hK ⊢
      go_simp
      exact hK _ _ ⟨_, rfl, hB.size', _, by rfl, Blk.new _ _ _⟩ (fun j _ _ _ _ h => h.ext ((Ext.refl _).alloc _)) (hB.alloc _)
    · intro L xs W K hB hC hd hL hK
      try dsimp only at hB hK
      simp only [setAll, putL, Act.put, List.setIfInBounds_toArray, List.set_cons_succ, List.set_cons_zero, Nat.zero_add, Nat.reduceAdd] at hK ⊢
      have d7 : xs 7 = _ := (hd 7 (by omega) (by kernel_rfl)).2
      obtain ⟨g, d9, hg, cs, hcs, hb⟩ := (hd 9 (by omega) (by kernel_rfl)).2
      rw [if_pos (by rfl)]
      refine wp_storeB (ty := 23) (x := .tmp 7) (y := .tmp 16) rfl digest_wide d9 d7 hb hcs (unhide HRS).1 (unhide HRS).2 ?_
      intro W' hb' hc' hz'
      refine hK undef W' ⟨g, d9, hg, hb'⟩ (fun j hj hne _ hkp h => ?_) (hB.trans' hc' (fun _ _ h => h) (fun i hi e => by omega))
      by_cases e4 : j = 4
      · subst e4; exact nomatch (hkp.symm.trans (by kernel_rfl) : true = false)
      · by_cases e9 : j = 9
        · subst e9; exact nomatch (hkp.symm.trans (by kernel_rfl) : true = false)
        · exact VerF.any e4 e9 hne h
    · intro L xs W K hB hC hd hL hK
      try dsimp only at hB hK
      simp only [setAll, putL, Act.put, List.setIfInBounds_toArray, List.set_cons_succ, List.set_cons_zero, Nat.zero_add, Nat.reduceAdd] at hK ⊢
      have d8 : xs 8 = _ := (hd 8 (by omega) (by kernel_rfl)).2
      simp only [d8] at hK ⊢
      go_simp
      exact hK _ _ rfl (fun j _ _ _ _ h => h) hB
  case fin =>
    intro L xs W hL hB hF
    try dsimp only at hB
    obtain ⟨g, d9, hg, hb⟩ := hF 10 (by omega) (by rfl)
    have d9' : xs 9 = _ := d9
    have d11 : xs 11 = _ := hF 11 (by omega) (by rfl)
    refine wpAny_done (by kernel_rfl) ?_ _
    simp only [setAll, putL, List.setIfInBounds_toArray, List.set_cons_succ, List.set_cons_zero, Nat.zero_add, Nat.reduceAdd]
    generalize xs 0 = u0
    generalize xs 1 = u1
    generalize xs 2 = u2
    generalize xs 3 = u3
    generalize xs 4 = u4
    generalize xs 5 = u5
    generalize xs 6 = u6
    generalize xs 7 = u7
    generalize xs 8 = u8
    rw [d9', d11]
    have HB := hide (And.intro hB (And.intro hb (And.intro ((unhide HZ).2.1.ext hB) ((unhide HZ).1.trans hB))))
    clear hB hF d9 d9' d11 hb
    have HSan := hide (fun X (hE : Ext W X) => sanity4_any X ((unhide HM).ext ((unhide HB).2.2.2.trans hE)))
    go_upto_region 2 with fail
    refine wp_region_held_drew (S := fun X => Ext W X) (by kernel_rfl) ((Ext.refl _).drew) (fun hHeld => ?_)
    refine wpAnyH_ready (rs := [0]) (by kernel_rfl) (by simp) (AllReadyH.cons (o := _) rfl (fun K hK => ?_) AllReadyH.nil)
    try go_simp
    (refine (unhide HSan _ hHeld).mono ?_; rintro e W2 ⟨rfl, hE⟩; have hS := Ext.trans hHeld hE; clear hHeld hE)
    refine hK.out _ _ ?_ (fun hHeld => ?_)
    · exact hS
    clear hK K
    try simp only [Act.put, List.setIfInBounds_toArray, List.set_cons_zero, List.set_cons_succ, List.getElem_toArray, List.getElem_cons_succ, List.getElem_cons_zero]
    refine wpAnyH_take (i := 1) (oi := _) (v := ?_) rfl (by kernel_rfl) (by kernel_rfl) (by kernel_rfl) (fun _ _ _ h => h) (Or.inl ⟨by rfl, fun wz hSz => ?_⟩) (by assumption) ?_
    rotate_left
    · (first | (go_simp; done) | (go_simp; with_reducible rfl))
    try simp only [Act.put, List.setIfInBounds_toArray, List.set_cons_zero, List.set_cons_succ, List.getElem_toArray, List.getElem_cons_succ, List.getElem_cons_zero]
    refine wpAnyH_take (i := 2) (oi := _) (v := ?_) rfl (by kernel_rfl) (by kernel_rfl) (by kernel_rfl) (fun _ _ _ h => h) (Or.inl ⟨by rfl, fun wz hSz => ?_⟩) (by assumption) ?_
    rotate_left
    · (first | (go_simp; done) | (go_simp; with_reducible rfl))
    try simp only [Act.put, List.setIfInBounds_toArray, List.set_cons_zero, List.set_cons_succ, List.getElem_toArray, List.getElem_cons_succ, List.getElem_cons_zero]
    refine wpAnyH_take (i := 3) (oi := _) (v := ?_) rfl (by kernel_rfl) (by kernel_rfl) (by kernel_rfl) (fun _ _ _ h => h) (Or.inl ⟨by rfl, fun wz hSz => ?_⟩) (by assumption) ?_
    rotate_left
    · (first | (go_simp; done) | (go_simp; with_reducible rfl))
    try simp only [Act.put, List.setIfInBounds_toArray, List.set_cons_zero, List.set_cons_succ, List.getElem_toArray, List.getElem_cons_succ, List.getElem_cons_zero]
    refine wpAnyH_take (i := 4) (oi := _) (v := ?_) rfl (by kernel_rfl) (by kernel_rfl) (by kernel_rfl) (fun _ _ _ h => h) (Or.inl ⟨by rfl, fun wz hSz => ?_⟩) (by assumption) ?_
    rotate_left
    · (first | (go_simp; done) | (go_simp; with_reducible rfl))
    try simp only [Act.put, List.setIfInBounds_toArray, List.set_cons_zero, List.set_cons_succ, List.getElem_toArray, List.getElem_cons_succ, List.getElem_cons_zero]
    refine wpAnyH_take (i := 5) (oi := _) (v := ?_) rfl (by kernel_rfl) (by kernel_rfl) (by kernel_rfl) (fun _ _ _ h => h) (Or.inl ⟨by rfl, fun wz hSz => ?_⟩) (by assumption) ?_
    rotate_left
    · (first | (go_simp; done) | (go_simp; with_reducible rfl))
    try simp only [Act.put, List.setIfInBounds_toArray, List.set_cons_zero, List.set_cons_succ, List.getElem_toArray, List.getElem_cons_succ, List.getElem_cons_zero]
    refine wpAnyH_take (i := 6) (oi := _) (v := _) rfl (by kernel_rfl) (by kernel_rfl) (by kernel_rfl) (fun _ _ _ h => h) (ylb digest_wide rfl (by rfl) rfl (unhide HRS).1 (fun w' hw => (unhide HB).2.1.ext hw)) (by assumption) ?_
    try simp only [Act.put, List.setIfInBounds_toArray, List.set_cons_zero, List.set_cons_succ, List.getElem_toArray, List.getElem_cons_succ, List.getElem_cons_zero]
    refine wpAnyH_take (i := 7) (oi := _) (v := _) rfl (by kernel_rfl) (by kernel_rfl) (by kernel_rfl) (fun _ _ _ h => h) (ylb digest_wide rfl (by rfl) rfl (unhide HSZ).1 (fun w' hw => (unhide HB).2.2.1.ext hw)) (by assumption) ?_
    try simp only [Act.put, List.setIfInBounds_toArray, List.set_cons_zero, List.set_cons_succ, List.getElem_toArray, List.getElem_cons_succ, List.getElem_cons_zero]
    refine wpAnyH_take (i := 8) (oi := _) (v := ?_) rfl (by kernel_rfl) (by kernel_rfl) (by kernel_rfl) (fun _ _ _ h => h) (Or.inl ⟨by rfl, fun wz hSz => ?_⟩) (by assumption) ?_
    rotate_left
    · (first | (go_simp; done) | (go_simp; with_reducible rfl))
    try simp only [Act.put, List.setIfInBounds_toArray, List.set_cons_zero, List.set_cons_succ, List.getElem_toArray, List.getElem_cons_succ, List.getElem_cons_zero]
    refine wpAnyH_ready (rs := [9]) (by kernel_rfl) (by simp) (AllReadyH.cons (o := _) rfl (fun K hK => ?_) AllReadyH.nil)
    try go_simp
    (refine (unhide HPb _ ((unhide HB).2.2.2.trans hHeld)).mono ?_; rintro e W3 ⟨rfl, hE⟩; have hS := Ext.trans hHeld hE; clear hHeld hE)
    refine hK.out _ _ ?_ (fun hHeld => ?_)
    · exact hS
    clear hK K
    try simp only [Act.put, List.setIfInBounds_toArray, List.set_cons_zero, List.set_cons_succ, List.getElem_toArray, List.getElem_cons_succ, List.getElem_cons_zero]
    refine wpAnyH_take (i := 10) (oi := _) (v := ?_) rfl (by kernel_rfl) (by kernel_rfl) (by kernel_rfl) (fun _ _ _ h => h) (Or.inl ⟨by rfl, fun wz hSz => ?_⟩) (by assumption) ?_
    rotate_left
    · (first | (go_simp; done) | (go_simp; with_reducible rfl))
    try simp only [Act.put, List.setIfInBounds_toArray, List.set_cons_zero, List.set_cons_succ, List.getElem_toArray, List.getElem_cons_succ, List.getElem_cons_zero]
    refine wpAnyH_take (i := 11) (oi := _) (v := ?_) rfl (by kernel_rfl) (by kernel_rfl) (by kernel_rfl) (fun _ _ _ h => h) (Or.inl ⟨by rfl, fun wz hSz => ?_⟩) (by assumption) ?_
    rotate_left
    · (first | (go_simp; done) | (go_simp; with_reducible rfl))
    try simp only [Act.put, List.setIfInBounds_toArray, List.set_cons_zero, List.set_cons_succ, List.getElem_toArray, List.getElem_cons_succ, List.getElem_cons_zero]
    refine wpAnyH_take (i := 12) (oi := _) (v := ?_) rfl (by kernel_rfl) (by kernel_rfl) (by kernel_rfl) (fun _ _ _ h => h) (Or.inl ⟨by rfl, fun wz hSz => ?_⟩) (by assumption) ?_
    rotate_left
    · (first | (go_simp; done) | (go_simp; with_reducible rfl))
    try simp only [Act.put, List.setIfInBounds_toArray, List.set_cons_zero, List.set_cons_succ, List.getElem_toArray, List.getElem_cons_succ, List.getElem_cons_zero]
    refine wpAnyH_done (by kernel_rfl) ?_ _
    have H9 := hide ((unhide HB).2.2.2.trans hHeld)
    clear hHeld
    go_wp2
    go_ret
    exact ⟨rfl, unhide H9⟩

end Go.Proofs.YtjemfefkgfoikaaDoor
