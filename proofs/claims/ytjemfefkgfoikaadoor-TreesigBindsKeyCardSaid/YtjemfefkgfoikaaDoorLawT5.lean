/-
  The law TreesigBindsKey.
-/
import Derived.Test.YtjemfefkgfoikaaDoorLawT2
namespace Go.Proofs.YtjemfefkgfoikaaDoor
open Go.RowKit

def T5 (w : World) (g3 g6 gs : Nat) (ra ma sg : Array Value) (W : World) : Prop := Ext w W ∧ Blk W g3 23 ra ∧ Blk W g6 23 ma ∧ Blk W gs 47 sg
theorem T5.to {w : World} {g3 g6 gs : Nat} {ra ma sg : Array Value} {W W' : World} (h : T5 w g3 g6 gs ra ma sg W) (hE : Ext W W') : T5 w g3 g6 gs ra ma sg W' := ⟨h.1.trans hE, h.2.1.ext hE, h.2.2.1.ext hE, h.2.2.2.ext hE⟩
set_option maxRecDepth 100000 in
set_option maxHeartbeats 16000000 in
theorem lawT5_no (root msg : List UInt8) (hh si : Int) (scv spv : Value) (sc sp : List (List UInt8)) (w : World) (hM : ShaMem w) (hv : root.length = 16) (hm : msg.length = 16) (hsc : Digs w scv sc) (hsp : Digs w spv sp)
    (h1 : smallB sc sp = false ∨ (smallB sc sp = true ∧ ∀ W, Ext w W → Calls Tryd.prog 34 #[.agg (root.map u8v).toArray, .int .i64 hh, .agg (msg.map u8v).toArray, .agg #[.int .i64 si, scv, spv]] W fun e w' => e = .returned (.bool false) ∧ Ext W w')) :
    Calls Tryd.prog 13 #[.agg (in5L (root.map u8v) hh (msg.map u8v) [.int .i64 si, scv, spv]).toArray] w fun e w' => e = .returned (.bool true) ∧ Ext w w' := by
  rcases h1 with h1 | ⟨h1, hV⟩
  · obtain ⟨A1, c1, rfl, _, _⟩ := hsc.form
    obtain ⟨A2, c2, rfl, _, _⟩ := hsp.form
    have HB := hide (fun (W : World) (hb : Blk W w.heap.size 65 (in5L (root.map u8v) hh (msg.map u8v) [.int .i64 si, .slice A1 sc.length c1, .slice A2 sp.length c2]).toArray) =>
      show W.rangeAt w.heap.size 0 (root.map u8v) ∧ W.rangeAt w.heap.size 17 (msg.map u8v) ∧ W.cell? ⟨w.heap.size, 16, none⟩ = some (.int .i64 hh) ∧ W.cell? ⟨w.heap.size, 33, none⟩ = some (.int .i64 si) ∧ W.cell? ⟨w.heap.size, 34, none⟩ = some (.slice A1 sc.length c1) ∧ W.cell? ⟨w.heap.size, 35, none⟩ = some (.slice A2 sp.length c2) from
        ⟨blk_part (pre := []) hb rfl, by
          have h17 : (root.map u8v ++ [Value.int .i64 hh]).length = 17 := by simp [hv]
          have := blk_part (pre := root.map u8v ++ [Value.int .i64 hh]) (l := msg.map u8v) (post := [.int .i64 si, .slice A1 sc.length c1, .slice A2 sp.length c2] ++ []) hb (by simp [in5L])
          rw [h17] at this
          exact this, blk_at (pre := root.map u8v) hb rfl 16 (by simpa using hv),
         blk_at (pre := root.map u8v ++ [.int .i64 hh] ++ msg.map u8v) (post := [.slice A1 sc.length c1, .slice A2 sp.length c2]) hb (by simp [in5L]) 33 (by simp [hv, hm]),
         blk_at (pre := root.map u8v ++ [.int .i64 hh] ++ msg.map u8v ++ [.int .i64 si]) (post := [.slice A2 sp.length c2]) hb (by simp [in5L]) 34 (by simp [hv, hm]),
         blk_at (pre := root.map u8v ++ [.int .i64 hh] ++ msg.map u8v ++ [.int .i64 si, .slice A1 sc.length c1]) (post := []) hb (by simp [in5L]) 35 (by simp [hv, hm])⟩)
    have HSan := hide (fun W (hE : Ext w W) => sanity5_any W (hM.ext hE))
    have HSm1 := hide (fun W (hE : Ext w W) => small_any si sc sp (.agg #[.int .i64 si, .slice A1 sc.length c1, .slice A2 sp.length c2]) W ⟨_, _, rfl, hsc.ext hE, hsp.ext hE⟩)
    have HS1 := hide h1
    obtain ⟨P, hP⟩ : ∃ P, (in5L (root.map u8v) hh (msg.map u8v) [.int .i64 si, .slice A1 sc.length c1, .slice A2 sp.length c2]).toArray = P := ⟨_, rfl⟩
    rw [hP]
    have HL := hide (show (root.map u8v).length = 16 ∧ (msg.map u8v).length = 16 from ⟨by simpa using hv, by simpa using hm⟩)
    obtain ⟨sl, hsl⟩ : ∃ x, root.map u8v = x := ⟨_, rfl⟩
    obtain ⟨ml, hml⟩ : ∃ x, msg.map u8v = x := ⟨_, rfl⟩
    have HO := hide (show sl.toArray.all (·.oneCell') = true ∧ ml.toArray.all (·.oneCell') = true from ⟨by rw [← hsl]; exact bytes_one _, by rw [← hml]; exact bytes_one _⟩)
    rw [hsl, hml] at HL
    rw [hP, hsl, hml] at HB
    clear hM hP hv hm hsl hml hsc hsp h1
    go_enter Tryd.func13, Tryd.ntmps13
    go_upto_region 1 with fail
    have HP0 := hide (Blk.new w 65 P)
    have HE0 := hide ((Ext.refl w).alloc (.cells P 65))
    generalize w.alloc (.cells P 65) = W0 at *
    go_upto_region 2 with (first
      | (refine wpList_loadMG (by rfl) (ty := 23) (x := .tmp 14) rfl digest_wide rfl (unhide HB _ (unhide HP0)).1 (unhide HL).1 ?_)
      | (refine wpList_storeB (ty := 23) (t := 23) (x := .tmp 3) (y := .tmp 15) rfl rfl digest_wide rfl rfl (Blk.new W0 _ _) rfl (by simpa using (unhide HL).1) (unhide HO).1 ?_; intro w1 hb1 hc1 hz1; have H1 := hide (And.intro (made_ext1 hc1) hb1); clear hb1 hc1 hz1))
    obtain ⟨g3, hg3⟩ : ∃ x, W0.heap.size = x := ⟨_, rfl⟩
    rw [hg3] at H1 ⊢
    clear hg3
    have HC1 := (unhide HB _ ((unhide HP0).ext (unhide H1).1)).2.2
    go_upto_region 4 with (first
      | (refine wpList_loadMG (by rfl) (ty := 23) (x := .tmp 18) rfl digest_wide rfl (unhide HB _ ((unhide HP0).ext (unhide H1).1)).2.1 (unhide HL).2 ?_)
      | (refine wpList_storeB (ty := 23) (t := 23) (x := .tmp 5) (y := .tmp 19) rfl rfl digest_wide rfl rfl (Blk.new w1 _ _) rfl (by simpa using (unhide HL).2) (unhide HO).2 ?_; intro w2 hb2 hc2 hz2; have H2 := hide (show Ext w w2 ∧ Blk w2 g3 23 sl.toArray ∧ Blk w2 w1.heap.size 23 ml.toArray ∧ Blk w2 w.heap.size 65 P from ⟨((unhide HE0).trans (unhide H1).1).trans (made_ext1 hc2), (unhide H1).2.ext (made_ext1 hc2), hb2, (unhide HP0).ext ((unhide H1).1.trans (made_ext1 hc2))⟩); have HC2 := (unhide HB _ (unhide H2).2.2.2).2.2; clear hb2 hc2 hz2))
    obtain ⟨g6, hg6⟩ : ∃ x, w1.heap.size = x := ⟨_, rfl⟩
    rw [hg6] at H2 ⊢
    clear hg6 HC1 H1 HP0 HE0
    obtain ⟨k16, k33, k34, k35⟩ := HC2
    have hlw := (unhide H2).2.2.2.lt
    go_upto_region 5 with fail
    have H3 := hide (show Ext w (w2.alloc (.cells #[.int .i64 si, .slice A1 sc.length c1, .slice A2 sp.length c2] 47)) ∧ Blk (w2.alloc (.cells #[.int .i64 si, .slice A1 sc.length c1, .slice A2 sp.length c2] 47)) g3 23 sl.toArray ∧
      Blk (w2.alloc (.cells #[.int .i64 si, .slice A1 sc.length c1, .slice A2 sp.length c2] 47)) g6 23 ml.toArray ∧ Blk (w2.alloc (.cells #[.int .i64 si, .slice A1 sc.length c1, .slice A2 sp.length c2] 47)) w2.heap.size 47 #[.int .i64 si, .slice A1 sc.length c1, .slice A2 sp.length c2] from
      ⟨(unhide H2).1.alloc _, (unhide H2).2.1.alloc _, (unhide H2).2.2.1.alloc _, Blk.new _ _ _⟩)
    generalize (w2.alloc (.cells #[.int .i64 si, .slice A1 sc.length c1, .slice A2 sp.length c2] 47)) = W3 at *
    obtain ⟨gs, hgs⟩ : ∃ x, w2.heap.size = x := ⟨_, rfl⟩
    rw [hgs] at H3 ⊢
    clear hgs k16 k33 k34 k35 H2 HB hlw
    go_upto_region 6 with (go_at_call 27; refine (unhide HSan _ (unhide H3).1).mono ?_; rintro e w4 ⟨rfl, hE4⟩; have H4 := hide (show T5 w g3 g6 gs sl.toArray ml.toArray #[.int .i64 si, .slice A1 sc.length c1, .slice A2 sp.length c2] w4 from ⟨(unhide H3).1.trans hE4, (unhide H3).2.1.ext hE4, (unhide H3).2.2.1.ext hE4, (unhide H3).2.2.2.ext hE4⟩); clear hE4)
    clear H3
    obtain ⟨a0, a1, a2, _, _⟩ := (unhide H4).2.2.2.cells3
    go_wp2_with (first
      | (go_at_call 33; refine (unhide HSm1 _ (unhide H4).1).mono ?_; rintro e w5 ⟨rfl, hE5⟩; rw [unhide HS1]; have H5 := hide hE5; clear hE5))
    go_ret
    exact ⟨rfl, (unhide H4).1.trans (unhide H5)⟩
  · obtain ⟨A1, c1, rfl, _, _⟩ := hsc.form
    obtain ⟨A2, c2, rfl, _, _⟩ := hsp.form
    have HB := hide (fun (W : World) (hb : Blk W w.heap.size 65 (in5L (root.map u8v) hh (msg.map u8v) [.int .i64 si, .slice A1 sc.length c1, .slice A2 sp.length c2]).toArray) =>
      show W.rangeAt w.heap.size 0 (root.map u8v) ∧ W.rangeAt w.heap.size 17 (msg.map u8v) ∧ W.cell? ⟨w.heap.size, 16, none⟩ = some (.int .i64 hh) ∧ W.cell? ⟨w.heap.size, 33, none⟩ = some (.int .i64 si) ∧ W.cell? ⟨w.heap.size, 34, none⟩ = some (.slice A1 sc.length c1) ∧ W.cell? ⟨w.heap.size, 35, none⟩ = some (.slice A2 sp.length c2) from
        ⟨blk_part (pre := []) hb rfl, by
          have h17 : (root.map u8v ++ [Value.int .i64 hh]).length = 17 := by simp [hv]
          have := blk_part (pre := root.map u8v ++ [Value.int .i64 hh]) (l := msg.map u8v) (post := [.int .i64 si, .slice A1 sc.length c1, .slice A2 sp.length c2] ++ []) hb (by simp [in5L])
          rw [h17] at this
          exact this, blk_at (pre := root.map u8v) hb rfl 16 (by simpa using hv),
         blk_at (pre := root.map u8v ++ [.int .i64 hh] ++ msg.map u8v) (post := [.slice A1 sc.length c1, .slice A2 sp.length c2]) hb (by simp [in5L]) 33 (by simp [hv, hm]),
         blk_at (pre := root.map u8v ++ [.int .i64 hh] ++ msg.map u8v ++ [.int .i64 si]) (post := [.slice A2 sp.length c2]) hb (by simp [in5L]) 34 (by simp [hv, hm]),
         blk_at (pre := root.map u8v ++ [.int .i64 hh] ++ msg.map u8v ++ [.int .i64 si, .slice A1 sc.length c1]) (post := []) hb (by simp [in5L]) 35 (by simp [hv, hm])⟩)
    have HSan := hide (fun W (hE : Ext w W) => sanity5_any W (hM.ext hE))
    have HSm1 := hide (fun W (hE : Ext w W) => small_any si sc sp (.agg #[.int .i64 si, .slice A1 sc.length c1, .slice A2 sp.length c2]) W ⟨_, _, rfl, hsc.ext hE, hsp.ext hE⟩)
    have HS1 := hide h1
    have HV := hide hV
    obtain ⟨P, hP⟩ : ∃ P, (in5L (root.map u8v) hh (msg.map u8v) [.int .i64 si, .slice A1 sc.length c1, .slice A2 sp.length c2]).toArray = P := ⟨_, rfl⟩
    rw [hP]
    have HL := hide (show (root.map u8v).length = 16 ∧ (msg.map u8v).length = 16 from ⟨by simpa using hv, by simpa using hm⟩)
    obtain ⟨sl, hsl⟩ : ∃ x, root.map u8v = x := ⟨_, rfl⟩
    obtain ⟨ml, hml⟩ : ∃ x, msg.map u8v = x := ⟨_, rfl⟩
    have HO := hide (show sl.toArray.all (·.oneCell') = true ∧ ml.toArray.all (·.oneCell') = true from ⟨by rw [← hsl]; exact bytes_one _, by rw [← hml]; exact bytes_one _⟩)
    rw [hsl, hml] at HL
    rw [hP, hsl, hml] at HB
    rw [hsl, hml] at HV
    clear hM hP hv hm hsl hml hsc hsp h1 hV
    go_enter Tryd.func13, Tryd.ntmps13
    go_upto_region 1 with fail
    have HP0 := hide (Blk.new w 65 P)
    have HE0 := hide ((Ext.refl w).alloc (.cells P 65))
    generalize w.alloc (.cells P 65) = W0 at *
    go_upto_region 2 with (first
      | (refine wpList_loadMG (by rfl) (ty := 23) (x := .tmp 14) rfl digest_wide rfl (unhide HB _ (unhide HP0)).1 (unhide HL).1 ?_)
      | (refine wpList_storeB (ty := 23) (t := 23) (x := .tmp 3) (y := .tmp 15) rfl rfl digest_wide rfl rfl (Blk.new W0 _ _) rfl (by simpa using (unhide HL).1) (unhide HO).1 ?_; intro w1 hb1 hc1 hz1; have H1 := hide (And.intro (made_ext1 hc1) hb1); clear hb1 hc1 hz1))
    obtain ⟨g3, hg3⟩ : ∃ x, W0.heap.size = x := ⟨_, rfl⟩
    rw [hg3] at H1 ⊢
    clear hg3
    have HC1 := (unhide HB _ ((unhide HP0).ext (unhide H1).1)).2.2
    go_upto_region 4 with (first
      | (refine wpList_loadMG (by rfl) (ty := 23) (x := .tmp 18) rfl digest_wide rfl (unhide HB _ ((unhide HP0).ext (unhide H1).1)).2.1 (unhide HL).2 ?_)
      | (refine wpList_storeB (ty := 23) (t := 23) (x := .tmp 5) (y := .tmp 19) rfl rfl digest_wide rfl rfl (Blk.new w1 _ _) rfl (by simpa using (unhide HL).2) (unhide HO).2 ?_; intro w2 hb2 hc2 hz2; have H2 := hide (show Ext w w2 ∧ Blk w2 g3 23 sl.toArray ∧ Blk w2 w1.heap.size 23 ml.toArray ∧ Blk w2 w.heap.size 65 P from ⟨((unhide HE0).trans (unhide H1).1).trans (made_ext1 hc2), (unhide H1).2.ext (made_ext1 hc2), hb2, (unhide HP0).ext ((unhide H1).1.trans (made_ext1 hc2))⟩); have HC2 := (unhide HB _ (unhide H2).2.2.2).2.2; clear hb2 hc2 hz2))
    obtain ⟨g6, hg6⟩ : ∃ x, w1.heap.size = x := ⟨_, rfl⟩
    rw [hg6] at H2 ⊢
    clear hg6 HC1 H1 HP0 HE0
    obtain ⟨k16, k33, k34, k35⟩ := HC2
    have hlw := (unhide H2).2.2.2.lt
    go_upto_region 5 with fail
    have H3 := hide (show Ext w (w2.alloc (.cells #[.int .i64 si, .slice A1 sc.length c1, .slice A2 sp.length c2] 47)) ∧ Blk (w2.alloc (.cells #[.int .i64 si, .slice A1 sc.length c1, .slice A2 sp.length c2] 47)) g3 23 sl.toArray ∧
      Blk (w2.alloc (.cells #[.int .i64 si, .slice A1 sc.length c1, .slice A2 sp.length c2] 47)) g6 23 ml.toArray ∧ Blk (w2.alloc (.cells #[.int .i64 si, .slice A1 sc.length c1, .slice A2 sp.length c2] 47)) w2.heap.size 47 #[.int .i64 si, .slice A1 sc.length c1, .slice A2 sp.length c2] from
      ⟨(unhide H2).1.alloc _, (unhide H2).2.1.alloc _, (unhide H2).2.2.1.alloc _, Blk.new _ _ _⟩)
    generalize (w2.alloc (.cells #[.int .i64 si, .slice A1 sc.length c1, .slice A2 sp.length c2] 47)) = W3 at *
    obtain ⟨gs, hgs⟩ : ∃ x, w2.heap.size = x := ⟨_, rfl⟩
    rw [hgs] at H3 ⊢
    clear hgs k16 k33 k34 k35 H2 HB hlw
    go_upto_region 6 with (go_at_call 27; refine (unhide HSan _ (unhide H3).1).mono ?_; rintro e w4 ⟨rfl, hE4⟩; have H4 := hide (show T5 w g3 g6 gs sl.toArray ml.toArray #[.int .i64 si, .slice A1 sc.length c1, .slice A2 sp.length c2] w4 from ⟨(unhide H3).1.trans hE4, (unhide H3).2.1.ext hE4, (unhide H3).2.2.1.ext hE4, (unhide H3).2.2.2.ext hE4⟩); clear hE4)
    clear H3
    obtain ⟨a0, a1, a2, _, _⟩ := (unhide H4).2.2.2.cells3
    go_wp2_with (first
      | (go_at_call 33; refine (unhide HSm1 _ (unhide H4).1).mono ?_; rintro e w5 ⟨rfl, hE5⟩; rw [unhide HS1]; have H5 := hide ((unhide H4).to hE5); obtain ⟨b0, b1, b2, _, _⟩ := (unhide H5).2.2.2.cells3; clear hE5)
      | (refine wpList_loadBG (by rfl) (ty := 23) (x := .tmp 3) rfl digest_wide rfl (unhide H5).2.1 (by simpa using (unhide HL).1) ?_)
      | (refine wpList_loadBG (by rfl) (ty := 23) (x := .tmp 5) rfl digest_wide rfl (unhide H5).2.2.1 (by simpa using (unhide HL).2) ?_)
      | (go_at_call 34; refine (unhide HV _ (unhide H5).1).mono ?_; rintro e w6 ⟨rfl, hE6⟩; have H6 := hide ((unhide H5).1.trans hE6); clear hE6))
    go_ret
    exact ⟨rfl, unhide H6⟩

end Go.Proofs.YtjemfefkgfoikaaDoor
