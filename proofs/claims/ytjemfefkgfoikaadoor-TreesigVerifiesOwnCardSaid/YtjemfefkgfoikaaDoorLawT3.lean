/-
  The law TreesigVerifiesOwn.
-/
import Derived.Test.YtjemfefkgfoikaaDoorTpK
import Derived.Test.YtjemfefkgfoikaaDoorTpL
namespace Go.Proofs.YtjemfefkgfoikaaDoor
open Go.RowKit

set_option maxRecDepth 100000 in
set_option maxHeartbeats 16000000 in
theorem lawT3_any (seed msg : List UInt8) (hh ix : Nat) (w : World) (hM : ShaMem w) (hv : seed.length = 16) (hm : msg.length = 16) (hb1 : hh < 256) (hb2 : ix < 256) :
    Calls Tryd.prog 11 #[.agg (in3L (seed.map u8v) (hh : Int) (ix : Int) (msg.map u8v)).toArray] w fun e w' => e = .returned (.bool true) ∧ Ext w w' := by
  obtain ⟨k, hk⟩ : ∃ k, hh % 5 = k := ⟨_, rfl⟩
  have hk4 : k ≤ 4 := by omega
  obtain ⟨n, hn⟩ : ∃ n, n = 2 ^ k := ⟨_, rfl⟩
  have hn1 : 1 ≤ n := by subst hn; exact Nat.one_le_two_pow
  have hn16 : n ≤ 16 := by subst hn; exact pow_le16 k k (Nat.le_refl _) hk4
  obtain ⟨j, hj⟩ : ∃ j, ix % n = j := ⟨_, rfl⟩
  have hjn : j < n := by rw [← hj]; exact Nat.mod_lt _ (by omega)
  have HSan := hide (fun W (hE : Ext w W) => sanity5_any W (hM.ext hE))
  have HMn := hide (fun W => many_yes k n hn hk4 W)
  have hov := own_verifies seed msg n j hjn
  have hrl := rootS_length (leavesS seed n)
  have hcl := signS_length seed (j : Int) msg 68
  have hpl := prove_height k n hn hk4 seed j hjn
  have hR1 := fun W (hE : Ext w W) => troot_yes seed k n hn hk4 W hv (hM.ext hE)
  have hS1 := fun W (hE : Ext w W) => (tsign_yes seed msg k n hn hk4 j hjn W hv hm (hM.ext hE)).mono fun _ _ h => SignP.of_post h
  obtain ⟨rt, hrt⟩ : ∃ x, rootS (leavesS seed n) = x := ⟨_, rfl⟩
  obtain ⟨ch, hch⟩ : ∃ x, signS seed (j : Int) msg 68 = x := ⟨_, rfl⟩
  obtain ⟨pa, hpa⟩ : ∃ x, proveS (leavesS seed n) j = x := ⟨_, rfl⟩
  rw [hrt] at hov hrl
  simp only [hrt] at hR1
  rw [hch] at hov hcl
  rw [hpa] at hov hpl
  simp only [hch, hpa] at hS1
  have hV := fun (cv pv : Value) W (hE : Ext w W) (h1 : Digs W cv ch) (h2 : Digs W pv pa) => tver_in rt msg k n hn hk4 j hjn ch pa cv pv W (hM.ext hE) hrl hm h1 h2 (by omega) hcl
  simp only [hov] at hV
  have HS1 := hide (fun W hE => show Calls Tryd.prog 30 #[.agg (seed.map u8v).toArray, .int .i64 (k : Int), .int .i64 (j : Int), .agg (msg.map u8v).toArray] W fun e w' => ∃ A c B d, e = .returned (.tuple #[.agg #[.int .i64 (j : Int), .slice A 68 c, .slice B k d], .int .i64 0]) ∧ Digs w' (.slice A 68 c) ch ∧ Digs w' (.slice B k d) pa ∧ Ext W w' from by
    refine (hS1 W hE).mono fun e w' h => ?_
    obtain ⟨A, c, B, d, h1, h2, h3, h4⟩ := h
    rw [hcl] at h1 h2
    rw [hpl] at h1 h3
    exact ⟨A, c, B, d, h1, h2, h3, h4⟩)
  have HR1 := hide hR1
  have HV := hide hV
  have HB := hide (fun (W : World) (hb : Blk W w.heap.size 58 (in3L (seed.map u8v) (hh : Int) (ix : Int) (msg.map u8v)).toArray) =>
    show W.rangeAt w.heap.size 0 (seed.map u8v) ∧ W.rangeAt w.heap.size 18 (msg.map u8v) ∧ W.cell? ⟨w.heap.size, 16, none⟩ = some (.int .u8 (hh : Int)) ∧ W.cell? ⟨w.heap.size, 17, none⟩ = some (.int .u8 (ix : Int)) from
      ⟨blk_part (pre := []) hb rfl, by
        have h18 : (seed.map u8v ++ [Value.int .u8 (hh : Int), Value.int .u8 (ix : Int)]).length = 18 := by simp [hv]
        have := blk_part (pre := seed.map u8v ++ [Value.int .u8 (hh : Int), Value.int .u8 (ix : Int)]) (l := msg.map u8v) (post := []) hb (by simp [in3L])
        rw [h18] at this
        exact this, blk_at (pre := seed.map u8v) hb rfl 16 (by simpa using hv), blk_at (pre := seed.map u8v ++ [.int .u8 (hh : Int)]) (post := msg.map u8v ++ []) hb (by simp [in3L]) 17 (by simp [hv])⟩)
  obtain ⟨P, hP⟩ : ∃ P, (in3L (seed.map u8v) (hh : Int) (ix : Int) (msg.map u8v)).toArray = P := ⟨_, rfl⟩
  rw [hP]
  have HL := hide (show (seed.map u8v).length = 16 ∧ (msg.map u8v).length = 16 from ⟨by simpa using hv, by simpa using hm⟩)
  obtain ⟨sl, hsl⟩ : ∃ x, seed.map u8v = x := ⟨_, rfl⟩
  obtain ⟨ml, hml⟩ : ∃ x, msg.map u8v = x := ⟨_, rfl⟩
  have HO := hide (show sl.toArray.all (·.oneCell') = true ∧ ml.toArray.all (·.oneCell') = true from ⟨by rw [← hsl]; exact bytes_one _, by rw [← hml]; exact bytes_one _⟩)
  rw [hsl, hml] at HL
  rw [hP, hsl, hml] at HB
  rw [hsl] at HR1 HS1
  rw [hml] at HS1 HV
  obtain ⟨ra, hra⟩ : ∃ x, (rt.map u8v).toArray = x := ⟨_, rfl⟩
  have HRA := hide (show ra.size = 16 ∧ ra.all (·.oneCell') = true from by rw [← hra]; exact ⟨by simpa using hrl, bytes_one _⟩)
  rw [hra] at HR1 HV
  have e5 : (hh : Int) % 5 = (k : Int) := by omega
  have e6 : (ix : Int) % (n : Int) = (j : Int) := by rw [← hj]; exact (Int.natCast_emod ix n).symm
  have HE6 := hide e6
  clear hM hR1 hS1 hV hP hv hm hrl hov hcl hpl hrt hch hpa hsl hml hra hk hn hj e6
  go_enter Tryd.func11, Tryd.ntmps11
  go_upto_region 1 with fail
  have HP0 := hide (Blk.new w 58 P)
  have HE0 := hide ((Ext.refl w).alloc (.cells P 58))
  generalize w.alloc (.cells P 58) = W0 at *
  go_upto_region 2 with (first
    | (refine wpList_loadMG (by rfl) (ty := 23) (x := .tmp 14) rfl digest_wide rfl (unhide HB _ (unhide HP0)).1 (unhide HL).1 ?_)
    | (refine wpList_storeB (ty := 23) (t := 23) (x := .tmp 3) (y := .tmp 15) rfl rfl digest_wide rfl rfl (Blk.new W0 _ _) rfl (by simpa using (unhide HL).1) (unhide HO).1 ?_; intro w1 hb1 hc1 hz1; have H1 := hide (And.intro (made_ext1 hc1) hb1); clear hb1 hc1 hz1))
  obtain ⟨g3, hg3⟩ : ∃ x, W0.heap.size = x := ⟨_, rfl⟩
  rw [hg3] at H1 ⊢
  clear hg3
  have HC1 := (unhide HB _ ((unhide HP0).ext (unhide H1).1)).2.2
  go_upto_region 5 with (first
    | (refine wpList_loadMG (by rfl) (ty := 23) (x := .tmp 20) rfl digest_wide rfl (unhide HB _ ((unhide HP0).ext (unhide H1).1)).2.1 (unhide HL).2 ?_)
    | (refine wpList_storeB (ty := 23) (t := 23) (x := .tmp 6) (y := .tmp 21) rfl rfl digest_wide rfl rfl (Blk.new w1 _ _) rfl (by simpa using (unhide HL).2) (unhide HO).2 ?_; intro w2 hb2 hc2 hz2; have H2 := hide (show Ext w w2 ∧ Blk w2 g3 23 sl.toArray ∧ Blk w2 w1.heap.size 23 ml.toArray ∧ Blk w2 w.heap.size 58 P from ⟨((unhide HE0).trans (unhide H1).1).trans (made_ext1 hc2), (unhide H1).2.ext (made_ext1 hc2), hb2, (unhide HP0).ext ((unhide H1).1.trans (made_ext1 hc2))⟩); have HC2 := (unhide HB _ (unhide H2).2.2.2).2.2; clear hb2 hc2 hz2))
  obtain ⟨g6, hg6⟩ : ∃ x, w1.heap.size = x := ⟨_, rfl⟩
  rw [hg6] at H2 ⊢
  clear hg6 HC1 H1 HP0 HE0
  clear HC2 HB
  have e6 := unhide HE6
  go_upto_region 8 with (first
    | (go_at_call 27; refine (unhide HSan _ (unhide H2).1).mono ?_; rintro e w3 ⟨rfl, hE3⟩; have H3 := hide (show Ext w w3 ∧ Blk w3 g3 23 sl.toArray ∧ Blk w3 g6 23 ml.toArray from ⟨(unhide H2).1.trans hE3, (unhide H2).2.1.ext hE3, (unhide H2).2.2.1.ext hE3⟩); clear hE3)
    | (go_at_call 37; refine (unhide HMn _).mono ?_; rintro e wz ⟨rfl, rfl⟩))
  rw [e6]
  clear e5 e6 H2
  go_upto_region 9 with (first
    | (refine wpList_loadB (ty := 23) (t := 23) (x := .tmp 3) rfl rfl digest_wide rfl (cs := sl.toArray) (unhide H3).2.1 (by simpa using (unhide HL).1) ?_)
    | (go_at_call 28; refine (unhide HR1 _ (unhide H3).1).mono ?_; rintro e w4 ⟨rfl, hE4⟩; have H4 := hide hE4; clear hE4)
    | (refine wpList_storeB (ty := 23) (t := 23) (x := .tmp 10) (y := .tmp 35) rfl rfl digest_wide rfl rfl (Blk.new w4 _ _) rfl (unhide HRA).1 (unhide HRA).2 ?_; intro w5 hb5 hc5 hz5; have H5 := hide (show Ext w w5 ∧ Blk w5 g3 23 sl.toArray ∧ Blk w5 g6 23 ml.toArray ∧ Blk w5 w4.heap.size 23 ra from ⟨(unhide H3).1.trans ((unhide H4).trans (made_ext1 hc5)), (unhide H3).2.1.ext ((unhide H4).trans (made_ext1 hc5)), (unhide H3).2.2.ext ((unhide H4).trans (made_ext1 hc5)), hb5⟩); clear hb5 hc5 hz5))
  obtain ⟨g10, hg10⟩ : ∃ x, w4.heap.size = x := ⟨_, rfl⟩
  rw [hg10] at H5 ⊢
  clear hg10 H4 H3
  go_upto_region 10 with (first
    | (refine wpList_loadB (ty := 23) (t := 23) (x := .tmp 3) rfl rfl digest_wide rfl (cs := sl.toArray) (unhide H5).2.1 (by simpa using (unhide HL).1) ?_)
    | (refine wpList_loadB (ty := 23) (t := 23) (x := .tmp 6) rfl rfl digest_wide rfl (cs := ml.toArray) (unhide H5).2.2.1 (by simpa using (unhide HL).2) ?_)
    | (go_at_call 30; refine (unhide HS1 _ (unhide H5).1).mono ?_; rintro e w8 ⟨A, c, B, d, rfl, hd1, hd2, hE8⟩; have H8 := hide (And.intro hE8 (And.intro hd1 hd2)); clear hE8 hd1 hd2))
  have H9 := hide (show Ext w5 (w8.alloc (.cells #[.int .i64 (j : Int), .slice A 68 c, .slice B k d] 47)) ∧ Blk (w8.alloc (.cells #[.int .i64 (j : Int), .slice A 68 c, .slice B k d] 47)) w8.heap.size 47 #[.int .i64 (j : Int), .slice A 68 c, .slice B k d] ∧ Digs (w8.alloc (.cells #[.int .i64 (j : Int), .slice A 68 c, .slice B k d] 47)) (.slice A 68 c) ch ∧ Digs (w8.alloc (.cells #[.int .i64 (j : Int), .slice A 68 c, .slice B k d] 47)) (.slice B k d) pa from
    ⟨(unhide H8).1.alloc _, Blk.new _ _ _, (unhide H8).2.1.ext ((Ext.refl _).alloc _), (unhide H8).2.2.ext ((Ext.refl _).alloc _)⟩)
  generalize w8.alloc (.cells #[.int .i64 (j : Int), .slice A 68 c, .slice B k d] 47) = W9 at *
  obtain ⟨g12, hg12⟩ : ∃ x, w8.heap.size = x := ⟨_, rfl⟩
  rw [hg12] at H9 ⊢
  clear hg12 H8
  obtain ⟨a0, a1, a2, _, _⟩ := (unhide H9).2.1.cells3
  go_wp2_with (first
    | (refine wpList_loadBG (by rfl) (ty := 23) (x := .tmp 10) rfl digest_wide rfl ((unhide H5).2.2.2.ext (unhide H9).1) (unhide HRA).1 ?_)
    | (refine wpList_loadBG (by rfl) (ty := 23) (x := .tmp 6) rfl digest_wide rfl ((unhide H5).2.2.1.ext (unhide H9).1) (by simpa using (unhide HL).2) ?_)
    | (go_at_call 34; refine (unhide HV _ _ _ ((unhide H5).1.trans (unhide H9).1) (unhide H9).2.2.1 (unhide H9).2.2.2).mono ?_; rintro e w12 ⟨rfl, hE12⟩; have H12 := hide hE12; clear hE12))
  go_ret
  exact ⟨rfl, (unhide H5).1.trans ((unhide H9).1.trans (unhide H12))⟩

end Go.Proofs.YtjemfefkgfoikaaDoor
