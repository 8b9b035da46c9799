/-
  The law TreesigRejectsMalformed: the walk.
-/
import Derived.Test.YtjemfefkgfoikaaDoorLawT4
import Derived.Test.YtjemfefkgfoikaaDoorTpK
import Derived.Test.YtjemfefkgfoikaaDoorTpL
import Derived.Deep.Cut
namespace Go.Proofs.YtjemfefkgfoikaaDoor
open Go.RowKit

/-- The blocks of seed, message and root. -/
def T4P (w : World) (g3 g6 g12 : Nat) (sl ml : List Value) (ra : Array Value) (W : World) : Prop := Ext w W ∧ Blk W g3 23 sl.toArray ∧ Blk W g6 23 ml.toArray ∧ Blk W g12 23 ra
theorem T4P.ext {w W W' : World} {g3 g6 g12 : Nat} {sl ml : List Value} {ra : Array Value} (h : T4P w g3 g6 g12 sl ml ra W) (hE : Ext W W') : T4P w g3 g6 g12 sl ml ra W' := ⟨h.1.trans hE, h.2.1.ext hE, h.2.2.1.ext hE, h.2.2.2.ext hE⟩
set_option maxRecDepth 100000 in
set_option maxHeartbeats 16000000 in
theorem lawT4_any (seed msg : List UInt8) (hh ix : Nat) (odd : Int) (what : Nat) (w : World) (hM : ShaMem w) (hv : seed.length = 16) (hm : msg.length = 16) (hb1 : hh < 256) (hb2 : ix < 256) (hbo : -9223372036854775808 ≤ odd ∧ odd ≤ 9223372036854775807) (hb3 : what < 256) :
    Calls Tryd.prog 12 #[.agg (in4L (seed.map u8v) (hh : Int) (ix : Int) (msg.map u8v) odd (what : Int)).toArray] w fun e w' => e = .returned (.bool true) ∧ Ext w w' := by
  obtain ⟨k, hk⟩ : ∃ k, hh % 5 = k := ⟨_, rfl⟩
  have hk4 : k ≤ 4 := by omega
  obtain ⟨n, hn⟩ : ∃ n, n = 2 ^ k := ⟨_, rfl⟩
  have hn1 : 1 ≤ n := by subst hn; exact Nat.one_le_two_pow
  have hn16 : n ≤ 16 := by subst hn; exact pow_le16 k k (Nat.le_refl _) hk4
  obtain ⟨j, hj⟩ : ∃ j, ix % n = j := ⟨_, rfl⟩
  have hjn : j < n := by rw [← hj]; exact Nat.mod_lt _ (by omega)
  have HSan := hide (fun W (hE : Ext w W) => sanity5_any W (hM.ext hE))
  have HMn := hide (fun W => many_yes k n hn hk4 W)
  have hrl := rootS_length (leavesS seed n)
  have hcl := signS_length seed (j : Int) msg 68
  have hpl := prove_height k n hn hk4 seed j hjn
  have hR1 := fun W (hE : Ext w W) => troot_yes seed k n hn hk4 W hv (hM.ext hE)
  have hS1 := fun W (hE : Ext w W) => (tsign_yes seed msg k n hn hk4 j hjn W hv hm (hM.ext hE)).mono fun _ _ h => SignP.of_post h
  obtain ⟨rt, hrt⟩ : ∃ x, rootS (leavesS seed n) = x := ⟨_, rfl⟩
  obtain ⟨ch, hch⟩ : ∃ x, signS seed (j : Int) msg 68 = x := ⟨_, rfl⟩
  obtain ⟨pa, hpa⟩ : ∃ x, proveS (leavesS seed n) j = x := ⟨_, rfl⟩
  rw [hrt] at hrl
  simp only [hrt] at hR1
  rw [hch] at hcl
  rw [hpa] at hpl
  simp only [hch, hpa] at hS1
  have hV0 := fun (i : Int) (hi : i < 0 ∨ (n : Int) ≤ i) cv pv W => show Calls Tryd.prog 34 #[.agg (rt.map u8v).toArray, .int .i64 (k : Int), .agg (msg.map u8v).toArray, .agg #[.int .i64 i, cv, pv]] W fun e w' => e = .returned (.bool false) ∧ Ext W w' from by
    rcases hi with hi | hi
    · exact tver_neg _ _ _ i cv pv W (okH_nat k hk4) hi
    · exact tver_big _ _ k n hn hk4 i cv pv W hi
  have hV1 := fun (cl : List (List UInt8)) (hc : ¬ cl.length = 68) cv pv W (h : Digs W cv cl) => tver_chain rt msg k n hn hk4 j hjn hm cl cv pv W h hc
  have hV3 := fun (x : List UInt8) cv pv W (hE : Ext w W) (h1 : Digs W cv ch) (h2 : Digs W pv (pa ++ [x])) => show Calls Tryd.prog 34 #[.agg (rt.map u8v).toArray, .int .i64 (k : Int), .agg (msg.map u8v).toArray, .agg #[.int .i64 (j : Int), cv, pv]] W fun e w' => e = .returned (.bool false) ∧ Ext W w' from by
    have h := tver_in rt msg k n hn hk4 j hjn ch (pa ++ [x]) cv pv W (hM.ext hE) hrl hm h1 h2 (by simp; omega) hcl
    have hs : verifyS rt n j (recoverS msg (chainAt ch)) (pa ++ [x]) = false := by
      have := sides_pow_length k hk4 j (by rw [← hn]; exact hjn)
      unfold verifyS
      rw [hn, this]
      simp [hpl]
    rwa [hs] at h
  have hVh := fun (h : Int) (hx : ¬ okH h) i cv pv W => tver_height (rt.map u8v).toArray (msg.map u8v).toArray h i cv pv W hx
  have HS1 := hide (fun W hE => show Calls Tryd.prog 30 #[.agg (seed.map u8v).toArray, .int .i64 (k : Int), .int .i64 (j : Int), .agg (msg.map u8v).toArray] W fun e w' => ∃ A c B d, e = .returned (.tuple #[.agg #[.int .i64 (j : Int), .slice A 68 c, .slice B k d], .int .i64 0]) ∧ Digs w' (.slice A 68 c) ch ∧ Digs w' (.slice B k d) pa ∧ Ext W w' from by
    refine (hS1 W hE).mono fun e w' h => ?_
    obtain ⟨A, c, B, d, h1, h2, h3, h4⟩ := h
    rw [hcl] at h1 h2
    rw [hpl] at h1 h3
    exact ⟨A, c, B, d, h1, h2, h3, h4⟩)
  have HR1 := hide hR1
  have HV0 := hide hV0
  have HV1 := hide hV1
  have HV3 := hide hV3
  have HVh := hide hVh
  have HB := hide (fun (W : World) (hb : Blk W w.heap.size 62 (in4L (seed.map u8v) (hh : Int) (ix : Int) (msg.map u8v) odd (what : Int)).toArray) =>
    show W.rangeAt w.heap.size 0 (seed.map u8v) ∧ W.rangeAt w.heap.size 18 (msg.map u8v) ∧ W.cell? ⟨w.heap.size, 16, none⟩ = some (.int .u8 (hh : Int)) ∧ W.cell? ⟨w.heap.size, 17, none⟩ = some (.int .u8 (ix : Int)) ∧ W.cell? ⟨w.heap.size, 34, none⟩ = some (.int .i64 odd) ∧ W.cell? ⟨w.heap.size, 35, none⟩ = some (.int .u8 (what : Int)) from
      ⟨blk_part (pre := []) hb rfl, by
        have h18 : (seed.map u8v ++ [Value.int .u8 (hh : Int), Value.int .u8 (ix : Int)]).length = 18 := by simp [hv]
        have := blk_part (pre := seed.map u8v ++ [Value.int .u8 (hh : Int), Value.int .u8 (ix : Int)]) (l := msg.map u8v) (post := [.int .i64 odd, .int .u8 (what : Int)]) hb (by simp [in4L])
        rw [h18] at this
        exact this, blk_at (pre := seed.map u8v) hb rfl 16 (by simpa using hv), blk_at (pre := seed.map u8v ++ [.int .u8 (hh : Int)]) (post := msg.map u8v ++ [.int .i64 odd, .int .u8 (what : Int)]) hb (by simp [in4L]) 17 (by simp [hv]),
        blk_at (pre := seed.map u8v ++ [.int .u8 (hh : Int), .int .u8 (ix : Int)] ++ msg.map u8v) (post := [.int .u8 (what : Int)]) hb (by simp [in4L]) 34 (by simp [hv, hm]),
        blk_at (pre := seed.map u8v ++ [.int .u8 (hh : Int), .int .u8 (ix : Int)] ++ msg.map u8v ++ [.int .i64 odd]) (post := []) hb (by simp [in4L]) 35 (by simp [hv, hm])⟩)
  obtain ⟨P, hP⟩ : ∃ P, (in4L (seed.map u8v) (hh : Int) (ix : Int) (msg.map u8v) odd (what : Int)).toArray = P := ⟨_, rfl⟩
  rw [hP]
  have HL := hide (show (seed.map u8v).length = 16 ∧ (msg.map u8v).length = 16 from ⟨by simpa using hv, by simpa using hm⟩)
  obtain ⟨sl, hsl⟩ : ∃ x, seed.map u8v = x := ⟨_, rfl⟩
  obtain ⟨ml, hml⟩ : ∃ x, msg.map u8v = x := ⟨_, rfl⟩
  have HO := hide (show sl.toArray.all (·.oneCell') = true ∧ ml.toArray.all (·.oneCell') = true from ⟨by rw [← hsl]; exact bytes_one _, by rw [← hml]; exact bytes_one _⟩)
  rw [hsl, hml] at HL
  rw [hP, hsl, hml] at HB
  rw [hsl] at HR1 HS1
  rw [hml] at HS1 HV0 HV1 HV3 HVh
  obtain ⟨ra, hra⟩ : ∃ x, (rt.map u8v).toArray = x := ⟨_, rfl⟩
  have HRA := hide (show ra.size = 16 ∧ ra.all (·.oneCell') = true from by rw [← hra]; exact ⟨by simpa using hrl, bytes_one _⟩)
  rw [hra] at HR1 HV0 HV1 HV3 HVh
  have e5 : (hh : Int) % 5 = (k : Int) := by omega
  have e6 : (ix : Int) % (n : Int) = (j : Int) := by rw [← hj]; exact (Int.natCast_emod ix n).symm
  obtain ⟨q, hq⟩ : ∃ q, what % 5 = q := ⟨_, rfl⟩
  have hq5 : q < 5 := by omega
  have e7 : (what : Int) % 5 = (q : Int) := by omega
  have HE6 := hide (And.intro e6 e7)
  have HN := hide (And.intro hcl hpl)
  clear hM hR1 hS1 hV0 hV1 hV3 hVh hP hv hm hrl hcl hpl hrt hch hpa hsl hml hra hk hn hj e6 e7 hq
  go_enter Tryd.func12, Tryd.ntmps12
  go_upto_region 1 with fail
  have HP0 := hide (Blk.new w 62 P)
  have HE0 := hide ((Ext.refl w).alloc (.cells P 62))
  generalize w.alloc (.cells P 62) = W0 at *
  go_upto_region 2 with (first
    | (refine wpList_loadMG (by rfl) (ty := 23) (x := .tmp 17) rfl digest_wide rfl (unhide HB _ (unhide HP0)).1 (unhide HL).1 ?_)
    | (refine wpList_storeB (ty := 23) (t := 23) (x := .tmp 3) (y := .tmp 18) rfl rfl digest_wide rfl rfl (Blk.new W0 _ _) rfl (by simpa using (unhide HL).1) (unhide HO).1 ?_; intro w1 hb1 hc1 hz1; have H1 := hide (And.intro (made_ext1 hc1) hb1); clear hb1 hc1 hz1))
  obtain ⟨g3, hg3⟩ : ∃ x, W0.heap.size = x := ⟨_, rfl⟩
  rw [hg3] at H1 ⊢
  clear hg3
  have HC1 := (unhide HB _ ((unhide HP0).ext (unhide H1).1)).2.2
  go_upto_region 7 with (first
    | (refine wpList_loadMG (by rfl) (ty := 23) (x := .tmp 23) rfl digest_wide rfl (unhide HB _ ((unhide HP0).ext (unhide H1).1)).2.1 (unhide HL).2 ?_)
    | (refine wpList_storeB (ty := 23) (t := 23) (x := .tmp 6) (y := .tmp 24) rfl rfl digest_wide rfl rfl (Blk.new w1 _ _) rfl (by simpa using (unhide HL).2) (unhide HO).2 ?_; intro w2 hb2 hc2 hz2; have H2 := hide (show Ext w w2 ∧ Blk w2 g3 23 sl.toArray ∧ Blk w2 w1.heap.size 23 ml.toArray ∧ Blk w2 w.heap.size 62 P from ⟨((unhide HE0).trans (unhide H1).1).trans (made_ext1 hc2), (unhide H1).2.ext (made_ext1 hc2), hb2, (unhide HP0).ext ((unhide H1).1.trans (made_ext1 hc2))⟩); have HC2 := (unhide HB _ (unhide H2).2.2.2).2.2; clear hb2 hc2 hz2))
  obtain ⟨g6, hg6⟩ : ∃ x, w1.heap.size = x := ⟨_, rfl⟩
  rw [hg6] at H2 ⊢
  clear hg6 HC1 H1 HP0 HE0
  clear HC2 HB
  go_upto_region 10 with (first
    | (go_at_call 27; refine (unhide HSan _ (unhide H2).1).mono ?_; rintro e w3 ⟨rfl, hE3⟩; have H3 := hide (show Ext w w3 ∧ Blk w3 g3 23 sl.toArray ∧ Blk w3 g6 23 ml.toArray from ⟨(unhide H2).1.trans hE3, (unhide H2).2.1.ext hE3, (unhide H2).2.2.1.ext hE3⟩); clear hE3)
    | (go_at_call 37; refine (unhide HMn _).mono ?_; rintro e wz ⟨rfl, rfl⟩))
  clear e5 H2
  go_upto_region 11 with (first
    | (refine wpList_loadB (ty := 23) (t := 23) (x := .tmp 3) rfl rfl digest_wide rfl (cs := sl.toArray) (unhide H3).2.1 (by simpa using (unhide HL).1) ?_)
    | (go_at_call 28; refine (unhide HR1 _ (unhide H3).1).mono ?_; rintro e w4 ⟨rfl, hE4⟩; have H4 := hide hE4; clear hE4)
    | (refine wpList_storeB (ty := 23) (t := 23) (x := .tmp 12) (y := .tmp 39) rfl rfl digest_wide rfl rfl (Blk.new w4 _ _) rfl (unhide HRA).1 (unhide HRA).2 ?_; intro w5 hb5 hc5 hz5; have H5 := hide (show T4P w g3 g6 w4.heap.size sl ml ra w5 from ⟨(unhide H3).1.trans ((unhide H4).trans (made_ext1 hc5)), (unhide H3).2.1.ext ((unhide H4).trans (made_ext1 hc5)), (unhide H3).2.2.ext ((unhide H4).trans (made_ext1 hc5)), hb5⟩); clear hb5 hc5 hz5))
  obtain ⟨g12, hg12⟩ : ∃ x, w4.heap.size = x := ⟨_, rfl⟩
  rw [hg12] at H5 ⊢
  clear hg12 H4 H3
  go_cut [14, 15] (fun s t wx => ∃ g A c B d, s = .pointer (some ⟨g, 0, none⟩) ∧ t = .int .i64 0 ∧ Hid (T4 w g6 g12 g ml.toArray ra (j : Int) A B c d k ch pa wx))
  case first =>
    have hn0 : ¬ n = 0 := by omega
    have hmod : (IntKind.i64.wrap (ix : Int)).tmod (n : Int) = (j : Int) := by
      rw [IntWalk.i64_in _ (by omega), Int.tmod_eq_emod_of_nonneg (by omega)]
      exact (unhide HE6).1
    refine wp_region_held_drew (S := T4P w g3 g6 g12 sl ml ra) (by kernel_rfl) ((unhide H5).ext (Ext.refl _).drew) (fun hHeld => ?_)
    refine wpAnyH_take (i := 0) (oi := _) (v := _) rfl (by kernel_rfl) (by kernel_rfl) (by kernel_rfl) (fun _ _ _ h => h) (ylb digest_wide rfl (by rfl) rfl (by simpa using (unhide HL).1) (fun w' hw => hw.2.1)) (by assumption) ?_
    try simp only [Act.put, List.setIfInBounds_toArray, List.set_cons_zero, List.set_cons_succ, List.getElem_toArray, List.getElem_cons_succ, List.getElem_cons_zero]
    refine wpAnyH_take (i := 1) (oi := _) (v := ?_) rfl (by kernel_rfl) (by kernel_rfl) (by kernel_rfl) (fun _ _ _ h => h) (Or.inl ⟨by rfl, fun wz hSz => ?_⟩) (by assumption) ?_
    rotate_left
    · (first | (go_simp; done) | (go_simp; with_reducible rfl))
    try simp only [Act.put, List.setIfInBounds_toArray, List.set_cons_zero, List.set_cons_succ, List.getElem_toArray, List.getElem_cons_succ, List.getElem_cons_zero]
    refine wpAnyH_take (i := 2) (oi := _) (v := ?_) rfl (by kernel_rfl) (by kernel_rfl) (by kernel_rfl) (fun _ _ _ h => h) (Or.inl ⟨by rfl, fun wz hSz => ?_⟩) (by assumption) ?_
    rotate_left
    · (first | (go_simp; done) | (go_simp; with_reducible rfl))
    try simp only [Act.put, List.setIfInBounds_toArray, List.set_cons_zero, List.set_cons_succ, List.getElem_toArray, List.getElem_cons_succ, List.getElem_cons_zero]
    refine wpAnyH_take (i := 3) (oi := _) (v := ?_) rfl (by kernel_rfl) (by kernel_rfl) (by kernel_rfl) (fun _ _ _ h => h) (Or.inl ⟨by rfl, fun wz hSz => ?_⟩) (by assumption) ?_
    rotate_left
    · (first | (go_simp; done) | (go_simp; with_reducible rfl))
    try simp only [Act.put, List.setIfInBounds_toArray, List.set_cons_zero, List.set_cons_succ, List.getElem_toArray, List.getElem_cons_succ, List.getElem_cons_zero]
    refine wpAnyH_take (i := 4) (oi := _) (v := ?_) rfl (by kernel_rfl) (by kernel_rfl) (by kernel_rfl) (fun _ _ _ h => h) (Or.inl ⟨by rfl, fun wz hSz => ?_⟩) (by assumption) ?_
    rotate_left
    · (first | (go_simp; done) | (go_simp; with_reducible rfl))
    try simp only [Act.put, List.setIfInBounds_toArray, List.set_cons_zero, List.set_cons_succ, List.getElem_toArray, List.getElem_cons_succ, List.getElem_cons_zero]
    refine wpAnyH_take (i := 5) (oi := _) (v := ?_) rfl (by kernel_rfl) (by kernel_rfl) (by kernel_rfl) (fun _ _ _ h => h) (Or.inl ⟨by rfl, fun wz hSz => ?_⟩) (by assumption) ?_
    rotate_left
    · (first | (go_simp; done) | (go_simp; with_reducible rfl))
    try simp only [Act.put, List.setIfInBounds_toArray, List.set_cons_zero, List.set_cons_succ, List.getElem_toArray, List.getElem_cons_succ, List.getElem_cons_zero]
    refine wpAnyH_take (i := 6) (oi := _) (v := _) rfl (by kernel_rfl) (by kernel_rfl) (by kernel_rfl) (fun _ _ _ h => h) (ylb digest_wide rfl (by rfl) rfl (by simpa using (unhide HL).2) (fun w' hw => hw.2.2.1)) (by assumption) ?_
    try simp only [Act.put, List.setIfInBounds_toArray, List.set_cons_zero, List.set_cons_succ, List.getElem_toArray, List.getElem_cons_succ, List.getElem_cons_zero]
    refine wpAnyH_ready (rs := [7, 11]) (by kernel_rfl) (by simp) (AllReadyH.cons (o := _) rfl (fun K hK => ?_) (AllReadyH.cons (o := _) rfl (fun K hK => ?_) AllReadyH.nil))
    · try go_simp
      refine (unhide HS1 _ hHeld.1).mono ?_
      rintro e w8 ⟨A, c, B, d, rfl, hd1, hd2, hE8⟩
      have H8 := hide (And.intro hd1 (And.intro hd2 (T4P.ext hHeld hE8)))
      have hS := T4P.ext hHeld hE8
      clear hHeld hE8 hd1 hd2
      refine hK.out _ _ ?_ (fun hHeld => ?_)
      · exact hS
      clear hK K
      try simp only [Act.put, List.setIfInBounds_toArray, List.set_cons_zero, List.set_cons_succ, List.getElem_toArray, List.getElem_cons_succ, List.getElem_cons_zero]
      refine wpAnyH_take (i := 8) (oi := _) (v := ?_) rfl (by kernel_rfl) (by kernel_rfl) (by kernel_rfl) (fun _ _ _ h => h) (Or.inl ⟨by rfl, fun wz hSz => ?_⟩) (by assumption) ?_
      rotate_left
      · (first | (go_simp; done) | (go_simp; with_reducible rfl))
      try simp only [Act.put, List.setIfInBounds_toArray, List.set_cons_zero, List.set_cons_succ, List.getElem_toArray, List.getElem_cons_succ, List.getElem_cons_zero]
      refine wpAnyH_take (i := 9) (oi := _) (v := ?_) rfl (by kernel_rfl) (by kernel_rfl) (by kernel_rfl) (fun _ _ _ h => h) (Or.inl ⟨by rfl, fun wz hSz => ?_⟩) (by assumption) ?_
      rotate_left
      · (first | (go_simp; done) | (go_simp; with_reducible rfl))
      try simp only [Act.put, List.setIfInBounds_toArray, List.set_cons_zero, List.set_cons_succ, List.getElem_toArray, List.getElem_cons_succ, List.getElem_cons_zero]
      refine wpAnyH_take (i := 10) (oi := _) (v := ?_) rfl (by kernel_rfl) (by kernel_rfl) (by kernel_rfl) (fun _ _ _ h => h) (Or.inl ⟨by rfl, fun wz hSz => ?_⟩) (by assumption) ?_
      rotate_left
      · (first | (go_simp; done) | (go_simp; with_reducible rfl))
      try simp only [Act.put, List.setIfInBounds_toArray, List.set_cons_zero, List.set_cons_succ, List.getElem_toArray, List.getElem_cons_succ, List.getElem_cons_zero]
      refine wpAnyH_ready (rs := [11]) (by kernel_rfl) (by simp) (AllReadyH.cons (o := _) rfl (fun K hK => ?_) AllReadyH.nil)
      (go_simp; have hS := T4P.ext hHeld ((Ext.refl _).alloc (.cells #[.int .i64 0, .slice none 0 0, .slice none 0 0] 47)); clear hHeld)
      refine hK.out _ _ ?_ (fun hHeld => ?_)
      · exact hS
      clear hK K
      try simp only [Act.put, List.setIfInBounds_toArray, List.set_cons_zero, List.set_cons_succ, List.getElem_toArray, List.getElem_cons_succ, List.getElem_cons_zero]
      have HT := hide (show T4 w g6 g12 w8.heap.size ml.toArray ra (j : Int) A B c d k ch pa (w8.alloc (.cells #[.int .i64 (j : Int), .slice A 68 c, .slice B k d] 47)) from
        ⟨(unhide H8).2.2.1.alloc _, (unhide H8).2.2.2.2.1.alloc _, (unhide H8).2.2.2.2.2.alloc _, Blk.new _ _ _, (unhide H8).1.ext ((Ext.refl _).alloc _), (unhide H8).2.1.ext ((Ext.refl _).alloc _)⟩)
      have HZ := hide (Blk.new w8 47 #[.int .i64 0, .slice none 0 0, .slice none 0 0])
      refine wpAnyH_ready (rs := [12]) (by kernel_rfl) (by simp) (AllReadyH.cons (o := _) rfl (fun K hK => ?_) AllReadyH.nil)
      (obtain ⟨z0, z1, z2, zf, zl⟩ := (unhide HZ).cells3; go_simp; have hS := T4P.ext (unhide H8).2.2 ((Ext.refl _).alloc (.cells #[.int .i64 (j : Int), .slice A 68 c, .slice B k d] 47)); clear hHeld z0 z1 z2 zf zl)
      refine hK.out _ _ ?_ (fun hHeld => ?_)
      · exact hS
      clear hK K
      try simp only [Act.put, List.setIfInBounds_toArray, List.set_cons_zero, List.set_cons_succ, List.getElem_toArray, List.getElem_cons_succ, List.getElem_cons_zero]
      refine wpAnyH_take (i := 13) (oi := _) (v := ?_) rfl (by kernel_rfl) (by kernel_rfl) (by kernel_rfl) (fun _ _ _ h => h) (Or.inl ⟨by rfl, fun wz hSz => ?_⟩) (by assumption) ?_
      rotate_left
      · (first | (go_simp; done) | (go_simp; with_reducible rfl))
      try simp only [Act.put, List.setIfInBounds_toArray, List.set_cons_zero, List.set_cons_succ, List.getElem_toArray, List.getElem_cons_succ, List.getElem_cons_zero]
      refine wpAnyH_done (by kernel_rfl) ?_ _
      go_wp2_with fail
      go_meet
      exact ⟨_, _, _, _, _, rfl, rfl, HT⟩
    · go_simp
      clear hHeld
      refine hK.out _ _ ?_ (fun hHeld => ?_)
      · exact ((unhide H5).ext (Ext.refl _).drew).ext ((Ext.refl _).alloc _)
      clear hK K
      try simp only [Act.put, List.setIfInBounds_toArray, List.set_cons_zero, List.set_cons_succ, List.getElem_toArray, List.getElem_cons_succ, List.getElem_cons_zero]
      have HA := hide (And.intro (((Ext.refl w5).drew.alloc (.cells #[.int .i64 0, .slice none 0 0, .slice none 0 0] 47))) (Blk.new' w5.drew 47 #[.int .i64 0, .slice none 0 0, .slice none 0 0] (g := w5.heap.size) (by simp)))
      refine wpAnyH_ready (rs := [7]) (by kernel_rfl) (by simp) (AllReadyH.cons (o := _) rfl (fun K hK => ?_) AllReadyH.nil)
      try go_simp
      (refine (unhide HS1 _ hHeld.1).mono ?_; rintro e w8 ⟨A, c, B, d, rfl, hd1, hd2, hE8⟩; have hS := T4P.ext hHeld hE8; have H8 := hide (And.intro hd1 (And.intro hd2 (And.intro hS ((unhide HA).2.ext hE8)))); clear hHeld hE8 hd1 hd2)
      refine hK.out _ _ ?_ (fun hHeld => ?_)
      · exact hS
      clear hK K
      try simp only [Act.put, List.setIfInBounds_toArray, List.set_cons_zero, List.set_cons_succ, List.getElem_toArray, List.getElem_cons_succ, List.getElem_cons_zero]
      refine wpAnyH_take (i := 8) (oi := _) (v := ?_) rfl (by kernel_rfl) (by kernel_rfl) (by kernel_rfl) (fun _ _ _ h => h) (Or.inl ⟨by rfl, fun wz hSz => ?_⟩) (by assumption) ?_
      rotate_left
      · (first | (go_simp; done) | (go_simp; with_reducible rfl))
      try simp only [Act.put, List.setIfInBounds_toArray, List.set_cons_zero, List.set_cons_succ, List.getElem_toArray, List.getElem_cons_succ, List.getElem_cons_zero]
      refine wpAnyH_take (i := 9) (oi := _) (v := ?_) rfl (by kernel_rfl) (by kernel_rfl) (by kernel_rfl) (fun _ _ _ h => h) (Or.inl ⟨by rfl, fun wz hSz => ?_⟩) (by assumption) ?_
      rotate_left
      · (first | (go_simp; done) | (go_simp; with_reducible rfl))
      try simp only [Act.put, List.setIfInBounds_toArray, List.set_cons_zero, List.set_cons_succ, List.getElem_toArray, List.getElem_cons_succ, List.getElem_cons_zero]
      refine wpAnyH_take (i := 10) (oi := _) (v := ?_) rfl (by kernel_rfl) (by kernel_rfl) (by kernel_rfl) (fun _ _ _ h => h) (Or.inl ⟨by rfl, fun wz hSz => ?_⟩) (by assumption) ?_
      rotate_left
      · (first | (go_simp; done) | (go_simp; with_reducible rfl))
      try simp only [Act.put, List.setIfInBounds_toArray, List.set_cons_zero, List.set_cons_succ, List.getElem_toArray, List.getElem_cons_succ, List.getElem_cons_zero]
      have HT := hide (T4.made (j := (j : Int)) (unhide H8).2.2.1.1 (unhide H8).2.2.1.2.2.1 (unhide H8).2.2.1.2.2.2 (unhide H8).2.2.2 (unhide H8).1 (unhide H8).2.1 (by have := (unhide HN).1; omega) (unhide H5).1.size' (unhide H5).2.2.1.lt (unhide H5).2.2.2.lt)
      refine wpAnyH_ready (rs := [12]) (by kernel_rfl) (by simp) (AllReadyH.cons (o := _) rfl (fun K hK => ?_) AllReadyH.nil)
      (obtain ⟨z0, z1, z2, zf, zl⟩ := (unhide H8).2.2.2.cells3; go_simp; have hS : T4P w g3 g6 g12 sl ml ra _ := ⟨(unhide HT).ext, Blk.chg (unhide H8).2.2.1.2.1 ((((Chg.refl (fun x => x = w5.heap.size) w8).setCell (p := ⟨w5.heap.size, 0, none⟩) (.inl rfl) _).setCell (p := ⟨w5.heap.size, 1, none⟩) (.inl rfl) _).setCell (p := ⟨w5.heap.size, 2, none⟩) (.inl rfl) _) (by have := (unhide H5).2.1.lt; omega), (unhide HT).msg, (unhide HT).root⟩; clear hHeld z0 z1 z2 zf zl)
      refine hK.out _ _ ?_ (fun hHeld => ?_)
      · exact hS
      clear hK K
      try simp only [Act.put, List.setIfInBounds_toArray, List.set_cons_zero, List.set_cons_succ, List.getElem_toArray, List.getElem_cons_succ, List.getElem_cons_zero]
      refine wpAnyH_take (i := 13) (oi := _) (v := ?_) rfl (by kernel_rfl) (by kernel_rfl) (by kernel_rfl) (fun _ _ _ h => h) (Or.inl ⟨by rfl, fun wz hSz => ?_⟩) (by assumption) ?_
      rotate_left
      · (first | (go_simp; done) | (go_simp; with_reducible rfl))
      try simp only [Act.put, List.setIfInBounds_toArray, List.set_cons_zero, List.set_cons_succ, List.getElem_toArray, List.getElem_cons_succ, List.getElem_cons_zero]
      refine wpAnyH_done (by kernel_rfl) ?_ _
      go_wp2_with fail
      go_meet
      exact ⟨_, _, _, _, _, rfl, rfl, HT⟩
  case rest =>
    obtain ⟨gs, A, c, B, d, rfl, rfl, HC⟩ := hcut
    obtain ⟨a0, a1, a2, _, _⟩ := (unhide HC).sig.cells3
    have e7 := (unhide HE6).2
    go_upto_region 15 with fail
    have H6 := hide ((unhide HC).to ((Ext.refl wc).alloc (.cells #[.int .i64 (j : Int), .slice A 68 c, .slice B k d] 47)))
    have HC6 := hide (Blk.new wc 47 #[.int .i64 (j : Int), .slice A 68 c, .slice B k d])
    have HBd := hide ((unhide HC).bounds (by have := (unhide HN).1; omega))
    generalize (wc.alloc (.cells #[.int .i64 (j : Int), .slice A 68 c, .slice B k d] 47)) = w6 at *
    obtain ⟨g16, hg16⟩ : ∃ x, wc.heap.size = x := ⟨_, rfl⟩
    rw [hg16] at HC6 HBd ⊢
    clear hg16 HC a0 a1 a2
    rcases (by omega : q = 0 ∨ q = 1 ∨ q = 2 ∨ q = 3 ∨ q = 4) with rfl | rfl | rfl | rfl | rfl
    · have e7 : (what : Int) % 5 = 0 := (unhide HE6).2
      by_cases ho1 : 0 ≤ odd
      · by_cases ho2 : odd < (n : Int)
        · go_wp2_with fail
          go_ret
          exact ⟨rfl, (unhide H6).ext⟩
        · obtain ⟨z0, z1, z2, zf, zl⟩ := (unhide HC6).cells3
          go_upto_region 29 with fail
          clear z0 z1 z2 zf zl
          have HT9 := hide ((unhide H6).set (unhide HBd) 0 (.int .i64 odd))
          have HC9 := hide (show Blk (w6.setCell ⟨g16, 0, none⟩ (.int .i64 odd)) g16 47 #[.int .i64 odd, .slice A 68 c, .slice B k d] from (unhide HC6).set_ 0 _)
          obtain ⟨z0, z1, z2, _, _⟩ := (unhide HC9).cells3
          go_wp2_with (first
            | (refine wpList_loadBG (by rfl) (ty := 23) (x := .tmp 12) rfl digest_wide rfl (unhide HT9).root (unhide HRA).1 ?_)
            | (refine wpList_loadBG (by rfl) (ty := 23) (x := .tmp 6) rfl digest_wide rfl (unhide HT9).msg (by simpa using (unhide HL).2) ?_)
            | (go_at_call 34; refine (unhide HV0 odd (.inr (by omega)) _ _ _).mono ?_; rintro e wv ⟨rfl, hEv⟩; have Hv := hide hEv; clear hEv))
          go_ret
          exact ⟨rfl, (unhide HT9).ext.trans (unhide Hv)⟩
      · obtain ⟨z0, z1, z2, zf, zl⟩ := (unhide HC6).cells3
        go_upto_region 29 with fail
        clear z0 z1 z2 zf zl
        have HT9 := hide ((unhide H6).set (unhide HBd) 0 (.int .i64 odd))
        have HC9 := hide (show Blk (w6.setCell ⟨g16, 0, none⟩ (.int .i64 odd)) g16 47 #[.int .i64 odd, .slice A 68 c, .slice B k d] from (unhide HC6).set_ 0 _)
        obtain ⟨z0, z1, z2, _, _⟩ := (unhide HC9).cells3
        go_wp2_with (first
          | (refine wpList_loadBG (by rfl) (ty := 23) (x := .tmp 12) rfl digest_wide rfl (unhide HT9).root (unhide HRA).1 ?_)
          | (refine wpList_loadBG (by rfl) (ty := 23) (x := .tmp 6) rfl digest_wide rfl (unhide HT9).msg (by simpa using (unhide HL).2) ?_)
          | (go_at_call 34; refine (unhide HV0 odd (.inl (by omega)) _ _ _).mono ?_; rintro e wv ⟨rfl, hEv⟩; have Hv := hide hEv; clear hEv))
        go_ret
        exact ⟨rfl, (unhide HT9).ext.trans (unhide Hv)⟩
    · have e7 : (what : Int) % 5 = 1 := (unhide HE6).2
      obtain ⟨_, hc1, hc2⟩ : ∃ _ : True, 68 ≤ c ∧ c ≤ maxLen := by
        obtain ⟨A', c', e, h1, h2⟩ := (unhide H6).chain.form
        injection e with _ _ e3
        subst e3
        have := (unhide HN).1
        exact ⟨trivial, by omega, h2⟩
      obtain ⟨b, o, c0, e0, hD⟩ := (unhide H6).chain.sub 1 67 (c - 1) (by have := (unhide HN).1; omega) (by omega) (by omega) (by omega)
      injection e0 with e1 e2 e3
      subst e1 e3
      have HD := hide hD
      clear hD e2
      obtain ⟨a0, a1, a2, _, _⟩ := (unhide H6).sig.cells3
      obtain ⟨z0, z1, z2, zf, zl⟩ := (unhide HC6).cells3
      go_upto_region 29 with fail
      clear z0 z1 z2 zf zl a0 a1 a2
      have HT9 := hide ((unhide H6).set (unhide HBd) 1 (.slice (some ⟨b, o + 16, none⟩) 67 (c - 1)))
      have HC9 := hide (show Blk (w6.setCell ⟨g16, 1, none⟩ (.slice (some ⟨b, o + 16, none⟩) 67 (c - 1))) g16 47 #[.int .i64 (j : Int), .slice (some ⟨b, o + 16, none⟩) 67 (c - 1), .slice B k d] from (unhide HC6).set_ 1 _)
      have HD9 := hide ((show Digs w6 (.slice (some ⟨b, o + 16, none⟩) 67 (c - 1)) ((ch.drop 1).take 67) from unhide HD).chg ((Chg.refl (fun y => y = g16) w6).setCell (p := ⟨g16, 1, none⟩) (.inl rfl) (.slice (some ⟨b, o + 16, none⟩) 67 (c - 1))) (fun x hx e => by have := (unhide HBd).chain b rfl; simp [Value.ownBlock] at hx; omega))
      obtain ⟨z0, z1, z2, _, _⟩ := (unhide HC9).cells3
      go_wp2_with (first
        | (refine wpList_loadBG (by rfl) (ty := 23) (x := .tmp 12) rfl digest_wide rfl (unhide HT9).root (unhide HRA).1 ?_)
        | (refine wpList_loadBG (by rfl) (ty := 23) (x := .tmp 6) rfl digest_wide rfl (unhide HT9).msg (by simpa using (unhide HL).2) ?_)
        | (go_at_call 34; refine (unhide HV1 _ (by simp; omega) _ _ _ (unhide HD9)).mono ?_; rintro e wv ⟨rfl, hEv⟩; have Hv := hide hEv; clear hEv))
      go_ret
      exact ⟨rfl, (unhide HT9).ext.trans (unhide Hv)⟩
    · have e7 : (what : Int) % 5 = 2 := (unhide HE6).2
      obtain ⟨b, o, c0, e0, hc1, hc2, _, _⟩ := (unhide H6).chain.at (k := 0) (by have := (unhide HN).1; omega)
      injection e0 with e1 e2 e3
      subst e1 e3
      have HX0 := hide (fun W (h : T4 w g6 g12 gs ml.toArray ra (j : Int) (some ⟨b, o, none⟩) B c d k ch pa W) => show ∃ hc : 0 < ch.length, W.rangeAt b (o + 0 * 16) ((ch[0]'hc).map u8v) from by
        obtain ⟨b', o', c', e, _, _, _, hr⟩ := h.chain.at (k := 0) (by have := (unhide HN).1; omega)
        simp only [Value.slice.injEq, Option.some.injEq, Addr.mk.injEq] at e
        obtain ⟨⟨rfl, rfl, _⟩, _, _⟩ := e
        exact ⟨_, hr⟩)
      have h68 : 0 < ch.length := by have := (unhide HN).1; omega
      obtain ⟨x, hx⟩ : ∃ x, ch[0] = x := ⟨_, rfl⟩
      have HX16 := hide (show x.length = 16 from by rw [← hx]; exact (unhide H6).chain.1 _ (List.getElem_mem h68))
      have HXR := hide (show (x.map u8v).length = 16 ∧ ∀ W, T4 w g6 g12 gs ml.toArray ra (j : Int) (some ⟨b, o, none⟩) B c d k ch pa W → W.rangeAt b (o + 0 * 16) (x.map u8v) from ⟨by simpa using unhide HX16, fun W h => by rw [← hx]; exact (unhide HX0 W h).2⟩)
      have HRD := hide (fun W (h : T4 w g6 g12 gs ml.toArray ra (j : Int) (some ⟨b, o, none⟩) B c d k ch pa W) => show Reads W 16 (.slice (some ⟨b, o, none⟩) 68 c) 68 (dcells ch) from by have h2 := h.chain.2; rwa [(unhide HN).1] at h2)
      have HDD := hide (And.intro (unhide H6).chain.1 (unhide HN).1)
      clear HX0 hx e2 h68
      obtain ⟨a0, a1, a2, _, _⟩ := (unhide H6).sig.cells3
      obtain ⟨z0, z1, z2, zf, zl⟩ := (unhide HC6).cells3
      go_upto_region 26 with fail
      have HF : Hid (∀ W, T4 w g6 g12 gs ml.toArray ra (j : Int) (some ⟨b, o, none⟩) B c d k ch pa W → W.cell? ⟨gs, 1, none⟩ = some (.slice (some ⟨b, o, none⟩) 68 c) ∧ W.cell? ⟨gs, 2, none⟩ = some (.slice B k d)) := hide (fun W hW => ⟨hW.sig.cells3.2.1, hW.sig.cells3.2.2.1⟩)
      refine wp_region_held_drew (S := T4 w g6 g12 gs ml.toArray ra (j : Int) (some ⟨b, o, none⟩) B c d k ch pa) (by kernel_rfl) ((unhide H6).to (Ext.refl _).drew) (fun hHeld => ?_)
      refine wpAnyH_take (i := 1) (oi := _) (v := ?_) rfl (by kernel_rfl) (by kernel_rfl) (by kernel_rfl) (fun _ _ _ h => h) (Or.inl ⟨by rfl, fun wz hSz => ?_⟩) (by assumption) ?_
      rotate_left
      · (first | (go_simp; done) | (go_simp; with_reducible rfl) | (obtain ⟨f1, f2⟩ := (unhide HF) wz hSz; clear hSz; first | (go_simp; done) | (go_simp; with_reducible rfl)))
      try simp only [Act.put, List.setIfInBounds_toArray, List.set_cons_zero, List.set_cons_succ, List.getElem_toArray, List.getElem_cons_succ, List.getElem_cons_zero]
      refine wpAnyH_take (i := 2) (oi := _) (v := ?_) rfl (by kernel_rfl) (by kernel_rfl) (by kernel_rfl) (fun _ _ _ h => h) (Or.inl ⟨by rfl, fun wz hSz => ?_⟩) (by assumption) ?_
      rotate_left
      · (first | (go_simp; done) | (go_simp; with_reducible rfl) | (obtain ⟨f1, f2⟩ := (unhide HF) wz hSz; clear hSz; first | (go_simp; done) | (go_simp; with_reducible rfl)))
      try simp only [Act.put, List.setIfInBounds_toArray, List.set_cons_zero, List.set_cons_succ, List.getElem_toArray, List.getElem_cons_succ, List.getElem_cons_zero]
      refine wpAnyH_take (i := 4) (oi := _) (v := ?_) rfl (by kernel_rfl) (by kernel_rfl) (by kernel_rfl) (fun _ _ _ h => h) (Or.inl ⟨by rfl, fun wz hSz => ?_⟩) (by assumption) ?_
      rotate_left
      · (first | (go_simp; done) | (go_simp; with_reducible rfl) | (obtain ⟨f1, f2⟩ := (unhide HF) wz hSz; clear hSz; first | (go_simp; done) | (go_simp; with_reducible rfl)))
      try simp only [Act.put, List.setIfInBounds_toArray, List.set_cons_zero, List.set_cons_succ, List.getElem_toArray, List.getElem_cons_succ, List.getElem_cons_zero]
      refine wpAnyH_take (i := 5) (oi := _) (v := ?_) rfl (by kernel_rfl) (by kernel_rfl) (by kernel_rfl) (fun _ _ _ h => h) (Or.inl ⟨by rfl, fun wz hSz => ?_⟩) (by assumption) ?_
      rotate_left
      · (first | (go_simp; done) | (go_simp; with_reducible rfl) | (obtain ⟨f1, f2⟩ := (unhide HF) wz hSz; clear hSz; first | (go_simp; done) | (go_simp; with_reducible rfl)))
      try simp only [Act.put, List.setIfInBounds_toArray, List.set_cons_zero, List.set_cons_succ, List.getElem_toArray, List.getElem_cons_succ, List.getElem_cons_zero]
      refine wpAnyH_take (i := 6) (oi := _) (v := ?_) rfl (by kernel_rfl) (by kernel_rfl) (by kernel_rfl) (fun _ _ _ h => h) (Or.inl ⟨by rfl, fun wz hSz => ?_⟩) (by assumption) ?_
      rotate_left
      · (first | (go_simp; done) | (go_simp; with_reducible rfl) | (obtain ⟨f1, f2⟩ := (unhide HF) wz hSz; clear hSz; first | (go_simp; done) | (go_simp; with_reducible rfl)))
      try simp only [Act.put, List.setIfInBounds_toArray, List.set_cons_zero, List.set_cons_succ, List.getElem_toArray, List.getElem_cons_succ, List.getElem_cons_zero]
      refine wpAnyH_take (i := 7) (oi := _) (v := _) rfl (by kernel_rfl) (by kernel_rfl) (by kernel_rfl) (fun _ _ _ h => h) (ylm digest_wide rfl (by rfl) rfl (unhide HXR).1 (fun w' hw => (unhide HXR).2 w' hw)) (by assumption) ?_
      try simp only [Act.put, List.setIfInBounds_toArray, List.set_cons_zero, List.set_cons_succ, List.getElem_toArray, List.getElem_cons_succ, List.getElem_cons_zero]
      refine wpAnyH_ready (rs := [0, 8]) (by kernel_rfl) (by simp) (AllReadyH.cons (o := _) rfl (fun K hK => ?_) (AllReadyH.cons (o := _) rfl (fun K hK => ?_) AllReadyH.nil))
      · go_simp
        have hS := T4.to hHeld ((Ext.refl _).alloc (.cells #[] 23))
        clear hHeld
        refine hK.out _ _ ?_ (fun hHeld => ?_)
        · exact hS
        clear hK K
        try simp only [Act.put, List.setIfInBounds_toArray, List.set_cons_zero, List.set_cons_succ, List.getElem_toArray, List.getElem_cons_succ, List.getElem_cons_zero]
        refine wpAnyH_ready (rs := [3, 8]) (by kernel_rfl) (by simp) (AllReadyH.cons (o := _) rfl (fun K hK => ?_) (AllReadyH.cons (o := _) rfl (fun K hK => ?_) AllReadyH.nil))
        · refine step_app rfl rfl digs_row rfl (empty_row w6.drew (B := w6.heap.size) (g := w6.heap.size) (by simp) (by simp)) rfl (unhide HRD _ hHeld) dcells_one' (by omega) (by simp <;> omega) ?_
          intro A1 c1 w7 ho7 hc7 _; replace hc7 := show Chg (fun k_1 => (Value.slice (some ⟨w6.heap.size, 0, none⟩) 0 0).ownBlock = some k_1) _ w7 from hc7
          have H7 := hide (And.intro ho7 (show Ext w6 w7 from ((Ext.refl w6).drew.alloc _).trans' hc7 (fun _ _ h => h) (fun i hi e => by simp [Value.ownBlock] at e; omega)))
          have hS := (unhide H6).to (unhide H7).2
          clear hHeld ho7 hc7
          refine hK.out _ _ ?_ (fun hHeld => ?_)
          · exact hS
          clear hK K
          try simp only [Act.put, List.setIfInBounds_toArray, List.set_cons_zero, List.set_cons_succ, List.getElem_toArray, List.getElem_cons_succ, List.getElem_cons_zero]
          refine wpAnyH_ready (rs := [8]) (by kernel_rfl) (by simp) (AllReadyH.cons (o := _) rfl (fun K hK => ?_) AllReadyH.nil)
          (rw [if_pos (by rfl)]; refine wp_build1 (t := 24) (x := .tmp 98) digs_row (by omega) rfl rfl (by simpa using unhide HX16) ?_; have hS := hHeld.to ((Ext.refl w7).alloc (.cells (x.map u8v).toArray 23)); clear hHeld)
          refine hK.out _ _ ?_ (fun hHeld => ?_)
          · exact hS
          clear hK K
          try simp only [Act.put, List.setIfInBounds_toArray, List.set_cons_zero, List.set_cons_succ, List.getElem_toArray, List.getElem_cons_succ, List.getElem_cons_zero]
          refine wpAnyH_ready (rs := [9]) (by kernel_rfl) (by simp) (AllReadyH.cons (o := _) rfl (fun K hK => ?_) AllReadyH.nil)
          (refine step_app rfl rfl digs_row rfl (ownsRow_ext (unhide H7).1 ((Ext.refl w7).alloc _)) rfl (Reads.newD _ _ _ (unhide HX16) rfl) (AllOne.u8 x) (by omega) (by have := (unhide H7).2.size'; simp; omega) ?_; intro A2 c2 w8 ho8 hc8 _; replace hc8 := show Chg (fun k_1 => (Value.slice A1 (0 + 68) c1).ownBlock = some k_1) _ w8 from hc8; have H8 := hide (Longer.of (W0 := w6) ((unhide HDD).1) (unhide HX16) ((unhide HDD).2) ho8 (((unhide H7).2.alloc _).trans' hc8 (fun _ _ h => h) (fun i hi e => by have := ((unhide H7).1.lt i e).1; omega)) (Nat.le_refl _)); have hS := (unhide H6).to (unhide H8).choose_spec.choose_spec.2.2.1; clear ho8 hc8 hHeld)
          refine hK.out _ _ ?_ (fun hHeld => ?_)
          · exact hS
          clear hK K
          try simp only [Act.put, List.setIfInBounds_toArray, List.set_cons_zero, List.set_cons_succ, List.getElem_toArray, List.getElem_cons_succ, List.getElem_cons_zero]
          try simp only [Nat.zero_add, Nat.reduceAdd]
          replace H8 := hide (show Longer w6 (68) ch x (.slice A2 (69) c2) w8 from by have h := unhide H8; rw [Nat.zero_add] at h; exact h)
          refine wpAnyH_take (i := 10) (oi := _) (v := ?_) rfl (by kernel_rfl) (by kernel_rfl) (by kernel_rfl) (fun _ _ _ h => h) (Or.inl ⟨by rfl, fun wz hSz => ?_⟩) (by assumption) ?_
          rotate_left
          · (first | (go_simp; done) | (go_simp; with_reducible rfl) | (obtain ⟨f1, f2⟩ := (unhide HF) wz hSz; clear hSz; first | (go_simp; done) | (go_simp; with_reducible rfl)))
          try simp only [Act.put, List.setIfInBounds_toArray, List.set_cons_zero, List.set_cons_succ, List.getElem_toArray, List.getElem_cons_succ, List.getElem_cons_zero]
          have HS8 := hide hHeld
          have HC8 := hide ((unhide HC6).ext (unhide H8).choose_spec.choose_spec.2.2.1)
          have HT9 := hide ((unhide HS8).set (unhide HBd) 1 (.slice A2 (69) c2))
          have HD9 := hide (show Digs (w8.setCell ⟨g16, 1, none⟩ (.slice A2 (69) c2)) (.slice A2 (69) c2) (ch ++ [x]) from by
            obtain ⟨A', c', e, h⟩ := (unhide H8).set (i := 1) (u := .slice A2 (69) c2) (show g16 < w6.heap.size from (unhide HC6).lt)
            injection e with e1 e2 e3
            subst e1 e3
            exact h)
          have HC9 := hide (show Blk (w8.setCell ⟨g16, 1, none⟩ (.slice A2 (69) c2)) g16 47 #[.int .i64 (j : Int), .slice A2 69 c2, .slice B k d] from (unhide HC8).set_ 1 _)
          refine wpAnyH_ready (rs := [11]) (by kernel_rfl) (by simp) (AllReadyH.cons (o := _) rfl (fun K hK => ?_) AllReadyH.nil)
          (obtain ⟨z0, z1, z2, zf, zl⟩ := (unhide HC8).cells3; go_simp; have hS := unhide HT9; clear hHeld z0 z1 z2 zf zl)
          refine hK.out _ _ ?_ (fun hHeld => ?_)
          · exact hS
          clear hK K
          try simp only [Act.put, List.setIfInBounds_toArray, List.set_cons_zero, List.set_cons_succ, List.getElem_toArray, List.getElem_cons_succ, List.getElem_cons_zero]
          refine wpAnyH_done (by kernel_rfl) ?_ _
          obtain ⟨z0, z1, z2, _, _⟩ := (unhide HC9).cells3
          go_wp2_with (first
            | (refine wpList_loadBG (by rfl) (ty := 23) (x := .tmp 12) rfl digest_wide rfl (unhide HT9).root (unhide HRA).1 ?_)
            | (refine wpList_loadBG (by rfl) (ty := 23) (x := .tmp 6) rfl digest_wide rfl (unhide HT9).msg (by simpa using (unhide HL).2) ?_)
            | (go_at_call 34; refine (unhide HV1 (ch ++ [x]) (by have := (unhide HN).1; simp; omega) _ _ _ (unhide HD9)).mono ?_; rintro e wv ⟨rfl, hEv⟩; have Hv := hide hEv; clear hEv))
          go_ret
          exact ⟨rfl, (unhide HT9).ext.trans (unhide Hv)⟩
        · rw [if_pos (by rfl)]
          refine wp_build1 (t := 24) (x := .tmp 98) digs_row (by omega) rfl rfl (by simpa using unhide HX16) ?_
          have hS := hHeld.to ((Ext.refl _).alloc (.cells (x.map u8v).toArray 23))
          clear hHeld
          refine hK.out _ _ ?_ (fun hHeld => ?_)
          · exact hS
          clear hK K
          try simp only [Act.put, List.setIfInBounds_toArray, List.set_cons_zero, List.set_cons_succ, List.getElem_toArray, List.getElem_cons_succ, List.getElem_cons_zero]
          refine wpAnyH_ready (rs := [3]) (by kernel_rfl) (by simp) (AllReadyH.cons (o := _) rfl (fun K hK => ?_) AllReadyH.nil)
          (refine step_app rfl rfl digs_row rfl (ownsRow_ext (empty_row w6.drew (B := w6.heap.size) (g := w6.heap.size) (by simp) (by simp)) ((Ext.refl _).alloc _)) rfl (unhide HRD _ hHeld) dcells_one' (by omega) (by simp <;> omega) ?_; intro A1 c1 w7 ho7 hc7 _; replace hc7 := show Chg (fun k_1 => (Value.slice (some ⟨w6.heap.size, 0, none⟩) 0 0).ownBlock = some k_1) _ w7 from hc7; have H7 := hide (And.intro ho7 (And.intro (show Ext w6 w7 from (((Ext.refl w6).drew.alloc _).alloc _).trans' hc7 (fun _ _ h => h) (fun i hi e => by simp [Value.ownBlock] at e; omega)) ((Reads.newD (w6.drew.alloc (.cells #[] 23)) 23 x (unhide HX16) (g := (w6.drew.alloc (.cells #[] 23)).heap.size) rfl).chg hc7 (fun k _ hk e => by simp [Value.ownBlock] at e hk; omega)))); have hS := (unhide H6).to (unhide H7).2.1; clear hHeld ho7 hc7)
          refine hK.out _ _ ?_ (fun hHeld => ?_)
          · exact hS
          clear hK K
          try simp only [Act.put, List.setIfInBounds_toArray, List.set_cons_zero, List.set_cons_succ, List.getElem_toArray, List.getElem_cons_succ, List.getElem_cons_zero]
          refine wpAnyH_ready (rs := [9]) (by kernel_rfl) (by simp) (AllReadyH.cons (o := _) rfl (fun K hK => ?_) AllReadyH.nil)
          (refine step_app rfl rfl digs_row rfl (unhide H7).1 rfl (unhide H7).2.2 (AllOne.u8 x) (by omega) (unhide H7).2.1.size' ?_; intro A2 c2 w8 ho8 hc8 _; replace hc8 := show Chg (fun k_1 => (Value.slice A1 (0 + 68) c1).ownBlock = some k_1) _ w8 from hc8; have H8 := hide (Longer.of (W0 := w6) ((unhide HDD).1) (unhide HX16) ((unhide HDD).2) ho8 ((unhide H7).2.1.trans' hc8 (fun _ _ h => h) (fun i hi e => by have := ((unhide H7).1.lt i e).1; omega)) (Nat.le_refl _)); have hS := (unhide H6).to (unhide H8).choose_spec.choose_spec.2.2.1; clear ho8 hc8 hHeld)
          refine hK.out _ _ ?_ (fun hHeld => ?_)
          · exact hS
          clear hK K
          try simp only [Act.put, List.setIfInBounds_toArray, List.set_cons_zero, List.set_cons_succ, List.getElem_toArray, List.getElem_cons_succ, List.getElem_cons_zero]
          try simp only [Nat.zero_add, Nat.reduceAdd]
          replace H8 := hide (show Longer w6 (68) ch x (.slice A2 (69) c2) w8 from by have h := unhide H8; rw [Nat.zero_add] at h; exact h)
          refine wpAnyH_take (i := 10) (oi := _) (v := ?_) rfl (by kernel_rfl) (by kernel_rfl) (by kernel_rfl) (fun _ _ _ h => h) (Or.inl ⟨by rfl, fun wz hSz => ?_⟩) (by assumption) ?_
          rotate_left
          · (first | (go_simp; done) | (go_simp; with_reducible rfl) | (obtain ⟨f1, f2⟩ := (unhide HF) wz hSz; clear hSz; first | (go_simp; done) | (go_simp; with_reducible rfl)))
          try simp only [Act.put, List.setIfInBounds_toArray, List.set_cons_zero, List.set_cons_succ, List.getElem_toArray, List.getElem_cons_succ, List.getElem_cons_zero]
          have HS8 := hide hHeld
          have HC8 := hide ((unhide HC6).ext (unhide H8).choose_spec.choose_spec.2.2.1)
          have HT9 := hide ((unhide HS8).set (unhide HBd) 1 (.slice A2 (69) c2))
          have HD9 := hide (show Digs (w8.setCell ⟨g16, 1, none⟩ (.slice A2 (69) c2)) (.slice A2 (69) c2) (ch ++ [x]) from by
            obtain ⟨A', c', e, h⟩ := (unhide H8).set (i := 1) (u := .slice A2 (69) c2) (show g16 < w6.heap.size from (unhide HC6).lt)
            injection e with e1 e2 e3
            subst e1 e3
            exact h)
          have HC9 := hide (show Blk (w8.setCell ⟨g16, 1, none⟩ (.slice A2 (69) c2)) g16 47 #[.int .i64 (j : Int), .slice A2 69 c2, .slice B k d] from (unhide HC8).set_ 1 _)
          refine wpAnyH_ready (rs := [11]) (by kernel_rfl) (by simp) (AllReadyH.cons (o := _) rfl (fun K hK => ?_) AllReadyH.nil)
          (obtain ⟨z0, z1, z2, zf, zl⟩ := (unhide HC8).cells3; go_simp; have hS := unhide HT9; clear hHeld z0 z1 z2 zf zl)
          refine hK.out _ _ ?_ (fun hHeld => ?_)
          · exact hS
          clear hK K
          try simp only [Act.put, List.setIfInBounds_toArray, List.set_cons_zero, List.set_cons_succ, List.getElem_toArray, List.getElem_cons_succ, List.getElem_cons_zero]
          refine wpAnyH_done (by kernel_rfl) ?_ _
          obtain ⟨z0, z1, z2, _, _⟩ := (unhide HC9).cells3
          go_wp2_with (first
            | (refine wpList_loadBG (by rfl) (ty := 23) (x := .tmp 12) rfl digest_wide rfl (unhide HT9).root (unhide HRA).1 ?_)
            | (refine wpList_loadBG (by rfl) (ty := 23) (x := .tmp 6) rfl digest_wide rfl (unhide HT9).msg (by simpa using (unhide HL).2) ?_)
            | (go_at_call 34; refine (unhide HV1 (ch ++ [x]) (by have := (unhide HN).1; simp; omega) _ _ _ (unhide HD9)).mono ?_; rintro e wv ⟨rfl, hEv⟩; have Hv := hide hEv; clear hEv))
          go_ret
          exact ⟨rfl, (unhide HT9).ext.trans (unhide Hv)⟩
      · rw [if_pos (by rfl)]
        refine wp_build1 (t := 24) (x := .tmp 98) digs_row (by omega) rfl rfl (by simpa using unhide HX16) ?_
        have hS := hHeld.to ((Ext.refl _).alloc (.cells (x.map u8v).toArray 23))
        clear hHeld
        refine hK.out _ _ ?_ (fun hHeld => ?_)
        · exact hS
        clear hK K
        try simp only [Act.put, List.setIfInBounds_toArray, List.set_cons_zero, List.set_cons_succ, List.getElem_toArray, List.getElem_cons_succ, List.getElem_cons_zero]
        refine wpAnyH_ready (rs := [0]) (by kernel_rfl) (by simp) (AllReadyH.cons (o := _) rfl (fun K hK => ?_) AllReadyH.nil)
        go_simp
        have hS := T4.to hHeld ((Ext.refl _).alloc (.cells #[] 23))
        clear hHeld
        refine hK.out _ _ ?_ (fun hHeld => ?_)
        · exact hS
        clear hK K
        try simp only [Act.put, List.setIfInBounds_toArray, List.set_cons_zero, List.set_cons_succ, List.getElem_toArray, List.getElem_cons_succ, List.getElem_cons_zero]
        refine wpAnyH_ready (rs := [3]) (by kernel_rfl) (by simp) (AllReadyH.cons (o := _) rfl (fun K hK => ?_) AllReadyH.nil)
        (refine step_app rfl rfl digs_row rfl (empty_row (w6.drew.alloc (.cells (x.map u8v).toArray 23)) (B := w6.heap.size) (g := w6.heap.size + 1) (by simp) (by simp)) rfl (unhide HRD _ hHeld) dcells_one' (by omega) (by simp <;> omega) ?_; intro A1 c1 w7 ho7 hc7 _; replace hc7 := show Chg (fun k_1 => (Value.slice (some ⟨w6.heap.size + 1, 0, none⟩) 0 0).ownBlock = some k_1) _ w7 from hc7; have H7 := hide (And.intro ho7 (And.intro (show Ext w6 w7 from (((Ext.refl w6).drew.alloc _).alloc _).trans' hc7 (fun _ _ h => h) (fun i hi e => by simp [Value.ownBlock] at e; omega)) (((Reads.newD w6.drew 23 x (unhide HX16) (g := w6.heap.size) (by simp)).ext ((Ext.refl _).alloc _)).chg hc7 (fun k _ hk e => by simp [Value.ownBlock] at e hk; omega)))); have hS := (unhide H6).to (unhide H7).2.1; clear hHeld ho7 hc7)
        refine hK.out _ _ ?_ (fun hHeld => ?_)
        · exact hS
        clear hK K
        try simp only [Act.put, List.setIfInBounds_toArray, List.set_cons_zero, List.set_cons_succ, List.getElem_toArray, List.getElem_cons_succ, List.getElem_cons_zero]
        refine wpAnyH_ready (rs := [9]) (by kernel_rfl) (by simp) (AllReadyH.cons (o := _) rfl (fun K hK => ?_) AllReadyH.nil)
        (refine step_app rfl rfl digs_row rfl (unhide H7).1 rfl (unhide H7).2.2 (AllOne.u8 x) (by omega) (unhide H7).2.1.size' ?_; intro A2 c2 w8 ho8 hc8 _; replace hc8 := show Chg (fun k_1 => (Value.slice A1 (0 + 68) c1).ownBlock = some k_1) _ w8 from hc8; have H8 := hide (Longer.of (W0 := w6) ((unhide HDD).1) (unhide HX16) ((unhide HDD).2) ho8 ((unhide H7).2.1.trans' hc8 (fun _ _ h => h) (fun i hi e => by have := ((unhide H7).1.lt i e).1; omega)) (Nat.le_refl _)); have hS := (unhide H6).to (unhide H8).choose_spec.choose_spec.2.2.1; clear ho8 hc8 hHeld)
        refine hK.out _ _ ?_ (fun hHeld => ?_)
        · exact hS
        clear hK K
        try simp only [Act.put, List.setIfInBounds_toArray, List.set_cons_zero, List.set_cons_succ, List.getElem_toArray, List.getElem_cons_succ, List.getElem_cons_zero]
        try simp only [Nat.zero_add, Nat.reduceAdd]
        replace H8 := hide (show Longer w6 (68) ch x (.slice A2 (69) c2) w8 from by have h := unhide H8; rw [Nat.zero_add] at h; exact h)
        refine wpAnyH_take (i := 10) (oi := _) (v := ?_) rfl (by kernel_rfl) (by kernel_rfl) (by kernel_rfl) (fun _ _ _ h => h) (Or.inl ⟨by rfl, fun wz hSz => ?_⟩) (by assumption) ?_
        rotate_left
        · (first | (go_simp; done) | (go_simp; with_reducible rfl) | (obtain ⟨f1, f2⟩ := (unhide HF) wz hSz; clear hSz; first | (go_simp; done) | (go_simp; with_reducible rfl)))
        try simp only [Act.put, List.setIfInBounds_toArray, List.set_cons_zero, List.set_cons_succ, List.getElem_toArray, List.getElem_cons_succ, List.getElem_cons_zero]
        have HS8 := hide hHeld
        have HC8 := hide ((unhide HC6).ext (unhide H8).choose_spec.choose_spec.2.2.1)
        have HT9 := hide ((unhide HS8).set (unhide HBd) 1 (.slice A2 (69) c2))
        have HD9 := hide (show Digs (w8.setCell ⟨g16, 1, none⟩ (.slice A2 (69) c2)) (.slice A2 (69) c2) (ch ++ [x]) from by
          obtain ⟨A', c', e, h⟩ := (unhide H8).set (i := 1) (u := .slice A2 (69) c2) (show g16 < w6.heap.size from (unhide HC6).lt)
          injection e with e1 e2 e3
          subst e1 e3
          exact h)
        have HC9 := hide (show Blk (w8.setCell ⟨g16, 1, none⟩ (.slice A2 (69) c2)) g16 47 #[.int .i64 (j : Int), .slice A2 69 c2, .slice B k d] from (unhide HC8).set_ 1 _)
        refine wpAnyH_ready (rs := [11]) (by kernel_rfl) (by simp) (AllReadyH.cons (o := _) rfl (fun K hK => ?_) AllReadyH.nil)
        (obtain ⟨z0, z1, z2, zf, zl⟩ := (unhide HC8).cells3; go_simp; have hS := unhide HT9; clear hHeld z0 z1 z2 zf zl)
        refine hK.out _ _ ?_ (fun hHeld => ?_)
        · exact hS
        clear hK K
        try simp only [Act.put, List.setIfInBounds_toArray, List.set_cons_zero, List.set_cons_succ, List.getElem_toArray, List.getElem_cons_succ, List.getElem_cons_zero]
        refine wpAnyH_done (by kernel_rfl) ?_ _
        obtain ⟨z0, z1, z2, _, _⟩ := (unhide HC9).cells3
        go_wp2_with (first
          | (refine wpList_loadBG (by rfl) (ty := 23) (x := .tmp 12) rfl digest_wide rfl (unhide HT9).root (unhide HRA).1 ?_)
          | (refine wpList_loadBG (by rfl) (ty := 23) (x := .tmp 6) rfl digest_wide rfl (unhide HT9).msg (by simpa using (unhide HL).2) ?_)
          | (go_at_call 34; refine (unhide HV1 (ch ++ [x]) (by have := (unhide HN).1; simp; omega) _ _ _ (unhide HD9)).mono ?_; rintro e wv ⟨rfl, hEv⟩; have Hv := hide hEv; clear hEv))
        go_ret
        exact ⟨rfl, (unhide HT9).ext.trans (unhide Hv)⟩
    · have e7 : (what : Int) % 5 = 3 := (unhide HE6).2
      obtain ⟨b, o, c0, e0, hc1, hc2, _, _⟩ := (unhide H6).chain.at (k := 0) (by have := (unhide HN).1; omega)
      injection e0 with e1 e2 e3
      subst e1 e3
      have HX0 := hide (fun W (h : T4 w g6 g12 gs ml.toArray ra (j : Int) (some ⟨b, o, none⟩) B c d k ch pa W) => show ∃ hc : 0 < ch.length, W.rangeAt b (o + 0 * 16) ((ch[0]'hc).map u8v) from by
        obtain ⟨b', o', c', e, _, _, _, hr⟩ := h.chain.at (k := 0) (by have := (unhide HN).1; omega)
        simp only [Value.slice.injEq, Option.some.injEq, Addr.mk.injEq] at e
        obtain ⟨⟨rfl, rfl, _⟩, _, _⟩ := e
        exact ⟨_, hr⟩)
      have h68 : 0 < ch.length := by have := (unhide HN).1; omega
      obtain ⟨x, hx⟩ : ∃ x, ch[0] = x := ⟨_, rfl⟩
      have HX16 := hide (show x.length = 16 from by rw [← hx]; exact (unhide H6).chain.1 _ (List.getElem_mem h68))
      have HXR := hide (show (x.map u8v).length = 16 ∧ ∀ W, T4 w g6 g12 gs ml.toArray ra (j : Int) (some ⟨b, o, none⟩) B c d k ch pa W → W.rangeAt b (o + 0 * 16) (x.map u8v) from ⟨by simpa using unhide HX16, fun W h => by rw [← hx]; exact (unhide HX0 W h).2⟩)
      have HRD := hide (fun W (h : T4 w g6 g12 gs ml.toArray ra (j : Int) (some ⟨b, o, none⟩) B c d k ch pa W) => show Reads W 16 (.slice B k d) k (dcells pa) from by have h2 := h.path.2; rwa [(unhide HN).2] at h2)
      have HDD := hide (And.intro (unhide H6).path.1 (unhide HN).2)
      clear HX0 hx e2 h68
      obtain ⟨a0, a1, a2, _, _⟩ := (unhide H6).sig.cells3
      obtain ⟨z0, z1, z2, zf, zl⟩ := (unhide HC6).cells3
      go_upto_region 28 with fail
      have HF : Hid (∀ W, T4 w g6 g12 gs ml.toArray ra (j : Int) (some ⟨b, o, none⟩) B c d k ch pa W → W.cell? ⟨gs, 1, none⟩ = some (.slice (some ⟨b, o, none⟩) 68 c) ∧ W.cell? ⟨gs, 2, none⟩ = some (.slice B k d)) := hide (fun W hW => ⟨hW.sig.cells3.2.1, hW.sig.cells3.2.2.1⟩)
      refine wp_region_held_drew (S := T4 w g6 g12 gs ml.toArray ra (j : Int) (some ⟨b, o, none⟩) B c d k ch pa) (by kernel_rfl) ((unhide H6).to (Ext.refl _).drew) (fun hHeld => ?_)
      refine wpAnyH_take (i := 1) (oi := _) (v := ?_) rfl (by kernel_rfl) (by kernel_rfl) (by kernel_rfl) (fun _ _ _ h => h) (Or.inl ⟨by rfl, fun wz hSz => ?_⟩) (by assumption) ?_
      rotate_left
      · (first | (go_simp; done) | (go_simp; with_reducible rfl) | (obtain ⟨f1, f2⟩ := (unhide HF) wz hSz; clear hSz; first | (go_simp; done) | (go_simp; with_reducible rfl)))
      try simp only [Act.put, List.setIfInBounds_toArray, List.set_cons_zero, List.set_cons_succ, List.getElem_toArray, List.getElem_cons_succ, List.getElem_cons_zero]
      refine wpAnyH_take (i := 2) (oi := _) (v := ?_) rfl (by kernel_rfl) (by kernel_rfl) (by kernel_rfl) (fun _ _ _ h => h) (Or.inl ⟨by rfl, fun wz hSz => ?_⟩) (by assumption) ?_
      rotate_left
      · (first | (go_simp; done) | (go_simp; with_reducible rfl) | (obtain ⟨f1, f2⟩ := (unhide HF) wz hSz; clear hSz; first | (go_simp; done) | (go_simp; with_reducible rfl)))
      try simp only [Act.put, List.setIfInBounds_toArray, List.set_cons_zero, List.set_cons_succ, List.getElem_toArray, List.getElem_cons_succ, List.getElem_cons_zero]
      refine wpAnyH_take (i := 4) (oi := _) (v := ?_) rfl (by kernel_rfl) (by kernel_rfl) (by kernel_rfl) (fun _ _ _ h => h) (Or.inl ⟨by rfl, fun wz hSz => ?_⟩) (by assumption) ?_
      rotate_left
      · (first | (go_simp; done) | (go_simp; with_reducible rfl) | (obtain ⟨f1, f2⟩ := (unhide HF) wz hSz; clear hSz; first | (go_simp; done) | (go_simp; with_reducible rfl)))
      try simp only [Act.put, List.setIfInBounds_toArray, List.set_cons_zero, List.set_cons_succ, List.getElem_toArray, List.getElem_cons_succ, List.getElem_cons_zero]
      refine wpAnyH_take (i := 5) (oi := _) (v := ?_) rfl (by kernel_rfl) (by kernel_rfl) (by kernel_rfl) (fun _ _ _ h => h) (Or.inl ⟨by rfl, fun wz hSz => ?_⟩) (by assumption) ?_
      rotate_left
      · (first | (go_simp; done) | (go_simp; with_reducible rfl) | (obtain ⟨f1, f2⟩ := (unhide HF) wz hSz; clear hSz; first | (go_simp; done) | (go_simp; with_reducible rfl)))
      try simp only [Act.put, List.setIfInBounds_toArray, List.set_cons_zero, List.set_cons_succ, List.getElem_toArray, List.getElem_cons_succ, List.getElem_cons_zero]
      refine wpAnyH_take (i := 6) (oi := _) (v := ?_) rfl (by kernel_rfl) (by kernel_rfl) (by kernel_rfl) (fun _ _ _ h => h) (Or.inl ⟨by rfl, fun wz hSz => ?_⟩) (by assumption) ?_
      rotate_left
      · (first | (go_simp; done) | (go_simp; with_reducible rfl) | (obtain ⟨f1, f2⟩ := (unhide HF) wz hSz; clear hSz; first | (go_simp; done) | (go_simp; with_reducible rfl)))
      try simp only [Act.put, List.setIfInBounds_toArray, List.set_cons_zero, List.set_cons_succ, List.getElem_toArray, List.getElem_cons_succ, List.getElem_cons_zero]
      refine wpAnyH_take (i := 7) (oi := _) (v := _) rfl (by kernel_rfl) (by kernel_rfl) (by kernel_rfl) (fun _ _ _ h => h) (ylm digest_wide rfl (by rfl) rfl (unhide HXR).1 (fun w' hw => (unhide HXR).2 w' hw)) (by assumption) ?_
      try simp only [Act.put, List.setIfInBounds_toArray, List.set_cons_zero, List.set_cons_succ, List.getElem_toArray, List.getElem_cons_succ, List.getElem_cons_zero]
      refine wpAnyH_ready (rs := [0, 8]) (by kernel_rfl) (by simp) (AllReadyH.cons (o := _) rfl (fun K hK => ?_) (AllReadyH.cons (o := _) rfl (fun K hK => ?_) AllReadyH.nil))
      · go_simp
        have hS := T4.to hHeld ((Ext.refl _).alloc (.cells #[] 23))
        clear hHeld
        refine hK.out _ _ ?_ (fun hHeld => ?_)
        · exact hS
        clear hK K
        try simp only [Act.put, List.setIfInBounds_toArray, List.set_cons_zero, List.set_cons_succ, List.getElem_toArray, List.getElem_cons_succ, List.getElem_cons_zero]
        refine wpAnyH_ready (rs := [3, 8]) (by kernel_rfl) (by simp) (AllReadyH.cons (o := _) rfl (fun K hK => ?_) (AllReadyH.cons (o := _) rfl (fun K hK => ?_) AllReadyH.nil))
        · refine step_app rfl rfl digs_row rfl (empty_row w6.drew (B := w6.heap.size) (g := w6.heap.size) (by simp) (by simp)) rfl (unhide HRD _ hHeld) dcells_one' (by omega) (by simp <;> omega) ?_
          intro A1 c1 w7 ho7 hc7 _; replace hc7 := show Chg (fun k_1 => (Value.slice (some ⟨w6.heap.size, 0, none⟩) 0 0).ownBlock = some k_1) _ w7 from hc7
          have H7 := hide (And.intro ho7 (show Ext w6 w7 from ((Ext.refl w6).drew.alloc _).trans' hc7 (fun _ _ h => h) (fun i hi e => by simp [Value.ownBlock] at e; omega)))
          have hS := (unhide H6).to (unhide H7).2
          clear hHeld ho7 hc7
          refine hK.out _ _ ?_ (fun hHeld => ?_)
          · exact hS
          clear hK K
          try simp only [Act.put, List.setIfInBounds_toArray, List.set_cons_zero, List.set_cons_succ, List.getElem_toArray, List.getElem_cons_succ, List.getElem_cons_zero]
          refine wpAnyH_ready (rs := [8]) (by kernel_rfl) (by simp) (AllReadyH.cons (o := _) rfl (fun K hK => ?_) AllReadyH.nil)
          (rw [if_pos (by rfl)]; refine wp_build1 (t := 24) (x := .tmp 111) digs_row (by omega) rfl rfl (by simpa using unhide HX16) ?_; have hS := hHeld.to ((Ext.refl w7).alloc (.cells (x.map u8v).toArray 23)); clear hHeld)
          refine hK.out _ _ ?_ (fun hHeld => ?_)
          · exact hS
          clear hK K
          try simp only [Act.put, List.setIfInBounds_toArray, List.set_cons_zero, List.set_cons_succ, List.getElem_toArray, List.getElem_cons_succ, List.getElem_cons_zero]
          refine wpAnyH_ready (rs := [9]) (by kernel_rfl) (by simp) (AllReadyH.cons (o := _) rfl (fun K hK => ?_) AllReadyH.nil)
          (refine step_app rfl rfl digs_row rfl (ownsRow_ext (unhide H7).1 ((Ext.refl w7).alloc _)) rfl (Reads.newD _ _ _ (unhide HX16) rfl) (AllOne.u8 x) (by omega) (by have := (unhide H7).2.size'; simp; omega) ?_; intro A2 c2 w8 ho8 hc8 _; replace hc8 := show Chg (fun k_1 => (Value.slice A1 (0 + k) c1).ownBlock = some k_1) _ w8 from hc8; have H8 := hide (Longer.of (W0 := w6) ((unhide HDD).1) (unhide HX16) ((unhide HDD).2) ho8 (((unhide H7).2.alloc _).trans' hc8 (fun _ _ h => h) (fun i hi e => by have := ((unhide H7).1.lt i e).1; omega)) (Nat.le_refl _)); have hS := (unhide H6).to (unhide H8).choose_spec.choose_spec.2.2.1; clear ho8 hc8 hHeld)
          refine hK.out _ _ ?_ (fun hHeld => ?_)
          · exact hS
          clear hK K
          try simp only [Act.put, List.setIfInBounds_toArray, List.set_cons_zero, List.set_cons_succ, List.getElem_toArray, List.getElem_cons_succ, List.getElem_cons_zero]
          try simp only [Nat.zero_add, Nat.reduceAdd]
          replace H8 := hide (show Longer w6 (k) pa x (.slice A2 (k + 1) c2) w8 from by have h := unhide H8; rw [Nat.zero_add] at h; exact h)
          refine wpAnyH_take (i := 10) (oi := _) (v := ?_) rfl (by kernel_rfl) (by kernel_rfl) (by kernel_rfl) (fun _ _ _ h => h) (Or.inl ⟨by rfl, fun wz hSz => ?_⟩) (by assumption) ?_
          rotate_left
          · (first | (go_simp; done) | (go_simp; with_reducible rfl) | (obtain ⟨f1, f2⟩ := (unhide HF) wz hSz; clear hSz; first | (go_simp; done) | (go_simp; with_reducible rfl)))
          try simp only [Act.put, List.setIfInBounds_toArray, List.set_cons_zero, List.set_cons_succ, List.getElem_toArray, List.getElem_cons_succ, List.getElem_cons_zero]
          have HS8 := hide hHeld
          have HC8 := hide ((unhide HC6).ext (unhide H8).choose_spec.choose_spec.2.2.1)
          have HT9 := hide ((unhide HS8).set (unhide HBd) 2 (.slice A2 (k + 1) c2))
          have HD9 := hide (show Digs (w8.setCell ⟨g16, 2, none⟩ (.slice A2 (k + 1) c2)) (.slice A2 (k + 1) c2) (pa ++ [x]) from by
            obtain ⟨A', c', e, h⟩ := (unhide H8).set (i := 2) (u := .slice A2 (k + 1) c2) (show g16 < w6.heap.size from (unhide HC6).lt)
            injection e with e1 e2 e3
            subst e1 e3
            exact h)
          have HC9 := hide (show Blk (w8.setCell ⟨g16, 2, none⟩ (.slice A2 (k + 1) c2)) g16 47 #[.int .i64 (j : Int), .slice (some ⟨b, o, none⟩) 68 c, .slice A2 (k + 1) c2] from (unhide HC8).set_ 2 _)
          refine wpAnyH_ready (rs := [11]) (by kernel_rfl) (by simp) (AllReadyH.cons (o := _) rfl (fun K hK => ?_) AllReadyH.nil)
          (obtain ⟨z0, z1, z2, zf, zl⟩ := (unhide HC8).cells3; go_simp; have hS := unhide HT9; clear hHeld z0 z1 z2 zf zl)
          refine hK.out _ _ ?_ (fun hHeld => ?_)
          · exact hS
          clear hK K
          try simp only [Act.put, List.setIfInBounds_toArray, List.set_cons_zero, List.set_cons_succ, List.getElem_toArray, List.getElem_cons_succ, List.getElem_cons_zero]
          refine wpAnyH_done (by kernel_rfl) ?_ _
          obtain ⟨z0, z1, z2, _, _⟩ := (unhide HC9).cells3
          go_wp2_with (first
            | (refine wpList_loadBG (by rfl) (ty := 23) (x := .tmp 12) rfl digest_wide rfl (unhide HT9).root (unhide HRA).1 ?_)
            | (refine wpList_loadBG (by rfl) (ty := 23) (x := .tmp 6) rfl digest_wide rfl (unhide HT9).msg (by simpa using (unhide HL).2) ?_)
            | (go_at_call 34; refine (unhide HV3 x _ _ _ (unhide HT9).ext (unhide HT9).chain (unhide HD9)).mono ?_; rintro e wv ⟨rfl, hEv⟩; have Hv := hide hEv; clear hEv))
          go_ret
          exact ⟨rfl, (unhide HT9).ext.trans (unhide Hv)⟩
        · rw [if_pos (by rfl)]
          refine wp_build1 (t := 24) (x := .tmp 111) digs_row (by omega) rfl rfl (by simpa using unhide HX16) ?_
          have hS := hHeld.to ((Ext.refl _).alloc (.cells (x.map u8v).toArray 23))
          clear hHeld
          refine hK.out _ _ ?_ (fun hHeld => ?_)
          · exact hS
          clear hK K
          try simp only [Act.put, List.setIfInBounds_toArray, List.set_cons_zero, List.set_cons_succ, List.getElem_toArray, List.getElem_cons_succ, List.getElem_cons_zero]
          refine wpAnyH_ready (rs := [3]) (by kernel_rfl) (by simp) (AllReadyH.cons (o := _) rfl (fun K hK => ?_) AllReadyH.nil)
          (refine step_app rfl rfl digs_row rfl (ownsRow_ext (empty_row w6.drew (B := w6.heap.size) (g := w6.heap.size) (by simp) (by simp)) ((Ext.refl _).alloc _)) rfl (unhide HRD _ hHeld) dcells_one' (by omega) (by simp <;> omega) ?_; intro A1 c1 w7 ho7 hc7 _; replace hc7 := show Chg (fun k_1 => (Value.slice (some ⟨w6.heap.size, 0, none⟩) 0 0).ownBlock = some k_1) _ w7 from hc7; have H7 := hide (And.intro ho7 (And.intro (show Ext w6 w7 from (((Ext.refl w6).drew.alloc _).alloc _).trans' hc7 (fun _ _ h => h) (fun i hi e => by simp [Value.ownBlock] at e; omega)) ((Reads.newD (w6.drew.alloc (.cells #[] 23)) 23 x (unhide HX16) (g := (w6.drew.alloc (.cells #[] 23)).heap.size) rfl).chg hc7 (fun k _ hk e => by simp [Value.ownBlock] at e hk; omega)))); have hS := (unhide H6).to (unhide H7).2.1; clear hHeld ho7 hc7)
          refine hK.out _ _ ?_ (fun hHeld => ?_)
          · exact hS
          clear hK K
          try simp only [Act.put, List.setIfInBounds_toArray, List.set_cons_zero, List.set_cons_succ, List.getElem_toArray, List.getElem_cons_succ, List.getElem_cons_zero]
          refine wpAnyH_ready (rs := [9]) (by kernel_rfl) (by simp) (AllReadyH.cons (o := _) rfl (fun K hK => ?_) AllReadyH.nil)
          (refine step_app rfl rfl digs_row rfl (unhide H7).1 rfl (unhide H7).2.2 (AllOne.u8 x) (by omega) (unhide H7).2.1.size' ?_; intro A2 c2 w8 ho8 hc8 _; replace hc8 := show Chg (fun k_1 => (Value.slice A1 (0 + k) c1).ownBlock = some k_1) _ w8 from hc8; have H8 := hide (Longer.of (W0 := w6) ((unhide HDD).1) (unhide HX16) ((unhide HDD).2) ho8 ((unhide H7).2.1.trans' hc8 (fun _ _ h => h) (fun i hi e => by have := ((unhide H7).1.lt i e).1; omega)) (Nat.le_refl _)); have hS := (unhide H6).to (unhide H8).choose_spec.choose_spec.2.2.1; clear ho8 hc8 hHeld)
          refine hK.out _ _ ?_ (fun hHeld => ?_)
          · exact hS
          clear hK K
          try simp only [Act.put, List.setIfInBounds_toArray, List.set_cons_zero, List.set_cons_succ, List.getElem_toArray, List.getElem_cons_succ, List.getElem_cons_zero]
          try simp only [Nat.zero_add, Nat.reduceAdd]
          replace H8 := hide (show Longer w6 (k) pa x (.slice A2 (k + 1) c2) w8 from by have h := unhide H8; rw [Nat.zero_add] at h; exact h)
          refine wpAnyH_take (i := 10) (oi := _) (v := ?_) rfl (by kernel_rfl) (by kernel_rfl) (by kernel_rfl) (fun _ _ _ h => h) (Or.inl ⟨by rfl, fun wz hSz => ?_⟩) (by assumption) ?_
          rotate_left
          · (first | (go_simp; done) | (go_simp; with_reducible rfl) | (obtain ⟨f1, f2⟩ := (unhide HF) wz hSz; clear hSz; first | (go_simp; done) | (go_simp; with_reducible rfl)))
          try simp only [Act.put, List.setIfInBounds_toArray, List.set_cons_zero, List.set_cons_succ, List.getElem_toArray, List.getElem_cons_succ, List.getElem_cons_zero]
          have HS8 := hide hHeld
          have HC8 := hide ((unhide HC6).ext (unhide H8).choose_spec.choose_spec.2.2.1)
          have HT9 := hide ((unhide HS8).set (unhide HBd) 2 (.slice A2 (k + 1) c2))
          have HD9 := hide (show Digs (w8.setCell ⟨g16, 2, none⟩ (.slice A2 (k + 1) c2)) (.slice A2 (k + 1) c2) (pa ++ [x]) from by
            obtain ⟨A', c', e, h⟩ := (unhide H8).set (i := 2) (u := .slice A2 (k + 1) c2) (show g16 < w6.heap.size from (unhide HC6).lt)
            injection e with e1 e2 e3
            subst e1 e3
            exact h)
          have HC9 := hide (show Blk (w8.setCell ⟨g16, 2, none⟩ (.slice A2 (k + 1) c2)) g16 47 #[.int .i64 (j : Int), .slice (some ⟨b, o, none⟩) 68 c, .slice A2 (k + 1) c2] from (unhide HC8).set_ 2 _)
          refine wpAnyH_ready (rs := [11]) (by kernel_rfl) (by simp) (AllReadyH.cons (o := _) rfl (fun K hK => ?_) AllReadyH.nil)
          (obtain ⟨z0, z1, z2, zf, zl⟩ := (unhide HC8).cells3; go_simp; have hS := unhide HT9; clear hHeld z0 z1 z2 zf zl)
          refine hK.out _ _ ?_ (fun hHeld => ?_)
          · exact hS
          clear hK K
          try simp only [Act.put, List.setIfInBounds_toArray, List.set_cons_zero, List.set_cons_succ, List.getElem_toArray, List.getElem_cons_succ, List.getElem_cons_zero]
          refine wpAnyH_done (by kernel_rfl) ?_ _
          obtain ⟨z0, z1, z2, _, _⟩ := (unhide HC9).cells3
          go_wp2_with (first
            | (refine wpList_loadBG (by rfl) (ty := 23) (x := .tmp 12) rfl digest_wide rfl (unhide HT9).root (unhide HRA).1 ?_)
            | (refine wpList_loadBG (by rfl) (ty := 23) (x := .tmp 6) rfl digest_wide rfl (unhide HT9).msg (by simpa using (unhide HL).2) ?_)
            | (go_at_call 34; refine (unhide HV3 x _ _ _ (unhide HT9).ext (unhide HT9).chain (unhide HD9)).mono ?_; rintro e wv ⟨rfl, hEv⟩; have Hv := hide hEv; clear hEv))
          go_ret
          exact ⟨rfl, (unhide HT9).ext.trans (unhide Hv)⟩
      · rw [if_pos (by rfl)]
        refine wp_build1 (t := 24) (x := .tmp 111) digs_row (by omega) rfl rfl (by simpa using unhide HX16) ?_
        have hS := hHeld.to ((Ext.refl _).alloc (.cells (x.map u8v).toArray 23))
        clear hHeld
        refine hK.out _ _ ?_ (fun hHeld => ?_)
        · exact hS
        clear hK K
        try simp only [Act.put, List.setIfInBounds_toArray, List.set_cons_zero, List.set_cons_succ, List.getElem_toArray, List.getElem_cons_succ, List.getElem_cons_zero]
        refine wpAnyH_ready (rs := [0]) (by kernel_rfl) (by simp) (AllReadyH.cons (o := _) rfl (fun K hK => ?_) AllReadyH.nil)
        go_simp
        have hS := T4.to hHeld ((Ext.refl _).alloc (.cells #[] 23))
        clear hHeld
        refine hK.out _ _ ?_ (fun hHeld => ?_)
        · exact hS
        clear hK K
        try simp only [Act.put, List.setIfInBounds_toArray, List.set_cons_zero, List.set_cons_succ, List.getElem_toArray, List.getElem_cons_succ, List.getElem_cons_zero]
        refine wpAnyH_ready (rs := [3]) (by kernel_rfl) (by simp) (AllReadyH.cons (o := _) rfl (fun K hK => ?_) AllReadyH.nil)
        (refine step_app rfl rfl digs_row rfl (empty_row (w6.drew.alloc (.cells (x.map u8v).toArray 23)) (B := w6.heap.size) (g := w6.heap.size + 1) (by simp) (by simp)) rfl (unhide HRD _ hHeld) dcells_one' (by omega) (by simp <;> omega) ?_; intro A1 c1 w7 ho7 hc7 _; replace hc7 := show Chg (fun k_1 => (Value.slice (some ⟨w6.heap.size + 1, 0, none⟩) 0 0).ownBlock = some k_1) _ w7 from hc7; have H7 := hide (And.intro ho7 (And.intro (show Ext w6 w7 from (((Ext.refl w6).drew.alloc _).alloc _).trans' hc7 (fun _ _ h => h) (fun i hi e => by simp [Value.ownBlock] at e; omega)) (((Reads.newD w6.drew 23 x (unhide HX16) (g := w6.heap.size) (by simp)).ext ((Ext.refl _).alloc _)).chg hc7 (fun k _ hk e => by simp [Value.ownBlock] at e hk; omega)))); have hS := (unhide H6).to (unhide H7).2.1; clear hHeld ho7 hc7)
        refine hK.out _ _ ?_ (fun hHeld => ?_)
        · exact hS
        clear hK K
        try simp only [Act.put, List.setIfInBounds_toArray, List.set_cons_zero, List.set_cons_succ, List.getElem_toArray, List.getElem_cons_succ, List.getElem_cons_zero]
        refine wpAnyH_ready (rs := [9]) (by kernel_rfl) (by simp) (AllReadyH.cons (o := _) rfl (fun K hK => ?_) AllReadyH.nil)
        (refine step_app rfl rfl digs_row rfl (unhide H7).1 rfl (unhide H7).2.2 (AllOne.u8 x) (by omega) (unhide H7).2.1.size' ?_; intro A2 c2 w8 ho8 hc8 _; replace hc8 := show Chg (fun k_1 => (Value.slice A1 (0 + k) c1).ownBlock = some k_1) _ w8 from hc8; have H8 := hide (Longer.of (W0 := w6) ((unhide HDD).1) (unhide HX16) ((unhide HDD).2) ho8 ((unhide H7).2.1.trans' hc8 (fun _ _ h => h) (fun i hi e => by have := ((unhide H7).1.lt i e).1; omega)) (Nat.le_refl _)); have hS := (unhide H6).to (unhide H8).choose_spec.choose_spec.2.2.1; clear ho8 hc8 hHeld)
        refine hK.out _ _ ?_ (fun hHeld => ?_)
        · exact hS
        clear hK K
        try simp only [Act.put, List.setIfInBounds_toArray, List.set_cons_zero, List.set_cons_succ, List.getElem_toArray, List.getElem_cons_succ, List.getElem_cons_zero]
        try simp only [Nat.zero_add, Nat.reduceAdd]
        replace H8 := hide (show Longer w6 (k) pa x (.slice A2 (k + 1) c2) w8 from by have h := unhide H8; rw [Nat.zero_add] at h; exact h)
        refine wpAnyH_take (i := 10) (oi := _) (v := ?_) rfl (by kernel_rfl) (by kernel_rfl) (by kernel_rfl) (fun _ _ _ h => h) (Or.inl ⟨by rfl, fun wz hSz => ?_⟩) (by assumption) ?_
        rotate_left
        · (first | (go_simp; done) | (go_simp; with_reducible rfl) | (obtain ⟨f1, f2⟩ := (unhide HF) wz hSz; clear hSz; first | (go_simp; done) | (go_simp; with_reducible rfl)))
        try simp only [Act.put, List.setIfInBounds_toArray, List.set_cons_zero, List.set_cons_succ, List.getElem_toArray, List.getElem_cons_succ, List.getElem_cons_zero]
        have HS8 := hide hHeld
        have HC8 := hide ((unhide HC6).ext (unhide H8).choose_spec.choose_spec.2.2.1)
        have HT9 := hide ((unhide HS8).set (unhide HBd) 2 (.slice A2 (k + 1) c2))
        have HD9 := hide (show Digs (w8.setCell ⟨g16, 2, none⟩ (.slice A2 (k + 1) c2)) (.slice A2 (k + 1) c2) (pa ++ [x]) from by
          obtain ⟨A', c', e, h⟩ := (unhide H8).set (i := 2) (u := .slice A2 (k + 1) c2) (show g16 < w6.heap.size from (unhide HC6).lt)
          injection e with e1 e2 e3
          subst e1 e3
          exact h)
        have HC9 := hide (show Blk (w8.setCell ⟨g16, 2, none⟩ (.slice A2 (k + 1) c2)) g16 47 #[.int .i64 (j : Int), .slice (some ⟨b, o, none⟩) 68 c, .slice A2 (k + 1) c2] from (unhide HC8).set_ 2 _)
        refine wpAnyH_ready (rs := [11]) (by kernel_rfl) (by simp) (AllReadyH.cons (o := _) rfl (fun K hK => ?_) AllReadyH.nil)
        (obtain ⟨z0, z1, z2, zf, zl⟩ := (unhide HC8).cells3; go_simp; have hS := unhide HT9; clear hHeld z0 z1 z2 zf zl)
        refine hK.out _ _ ?_ (fun hHeld => ?_)
        · exact hS
        clear hK K
        try simp only [Act.put, List.setIfInBounds_toArray, List.set_cons_zero, List.set_cons_succ, List.getElem_toArray, List.getElem_cons_succ, List.getElem_cons_zero]
        refine wpAnyH_done (by kernel_rfl) ?_ _
        obtain ⟨z0, z1, z2, _, _⟩ := (unhide HC9).cells3
        go_wp2_with (first
          | (refine wpList_loadBG (by rfl) (ty := 23) (x := .tmp 12) rfl digest_wide rfl (unhide HT9).root (unhide HRA).1 ?_)
          | (refine wpList_loadBG (by rfl) (ty := 23) (x := .tmp 6) rfl digest_wide rfl (unhide HT9).msg (by simpa using (unhide HL).2) ?_)
          | (go_at_call 34; refine (unhide HV3 x _ _ _ (unhide HT9).ext (unhide HT9).chain (unhide HD9)).mono ?_; rintro e wv ⟨rfl, hEv⟩; have Hv := hide hEv; clear hEv))
        go_ret
        exact ⟨rfl, (unhide HT9).ext.trans (unhide Hv)⟩
    · have e7 : (what : Int) % 5 = 4 := (unhide HE6).2
      by_cases ho1 : 0 ≤ odd
      · by_cases ho2 : odd ≤ 4
        · go_wp2_with fail
          go_ret
          exact ⟨rfl, (unhide H6).ext⟩
        · go_upto_region 29 with fail
          obtain ⟨z0, z1, z2, _, _⟩ := (unhide HC6).cells3
          go_wp2_with (first
            | (refine wpList_loadBG (by rfl) (ty := 23) (x := .tmp 12) rfl digest_wide rfl (unhide H6).root (unhide HRA).1 ?_)
            | (refine wpList_loadBG (by rfl) (ty := 23) (x := .tmp 6) rfl digest_wide rfl (unhide H6).msg (by simpa using (unhide HL).2) ?_)
            | (go_at_call 34; refine (unhide HVh odd (fun h => ho2 h.2) _ _ _ _).mono ?_; rintro e wv ⟨rfl, hEv⟩; have Hv := hide hEv; clear hEv))
          go_ret
          exact ⟨rfl, (unhide H6).ext.trans (unhide Hv)⟩
      · go_upto_region 29 with fail
        obtain ⟨z0, z1, z2, _, _⟩ := (unhide HC6).cells3
        go_wp2_with (first
          | (refine wpList_loadBG (by rfl) (ty := 23) (x := .tmp 12) rfl digest_wide rfl (unhide H6).root (unhide HRA).1 ?_)
          | (refine wpList_loadBG (by rfl) (ty := 23) (x := .tmp 6) rfl digest_wide rfl (unhide H6).msg (by simpa using (unhide HL).2) ?_)
          | (go_at_call 34; refine (unhide HVh odd (fun h => ho1 h.1) _ _ _ _).mono ?_; rintro e wv ⟨rfl, hEv⟩; have Hv := hide hEv; clear hEv))
        go_ret
        exact ⟨rfl, (unhide H6).ext.trans (unhide Hv)⟩

end Go.Proofs.YtjemfefkgfoikaaDoor
