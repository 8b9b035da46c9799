/-
  The law TreesigMatchesSpec.
-/
import Derived.Test.YtjemfefkgfoikaaDoorTpK
import Derived.Test.YtjemfefkgfoikaaDoorTpL
namespace Go.Proofs.YtjemfefkgfoikaaDoor
open Go.RowKit

set_option maxRecDepth 100000 in
set_option maxHeartbeats 16000000 in
theorem lawT1_any (seed msg : List UInt8) (h i : Int) (w : World) (hM : ShaMem w) (hv : seed.length = 16) (hm : msg.length = 16) :
    Calls Tryd.prog 9 #[.agg (in1L (seed.map u8v) h i (msg.map u8v)).toArray] w fun e w' => e = .returned (.bool true) ∧ Ext w w' := by
  have HSan := hide (fun W (hE : Ext w W) => sanity5_any W (hM.ext hE))
  obtain ⟨r, err, hr, hR1, hR2⟩ := roots_agree seed h w hM hv
  obtain ⟨serr, i', chain, path, hcl, hpl, hS1, hS2⟩ := signs_agree seed msg h i w hM hv hm
  have HR1 := hide hR1
  have HR2 := hide hR2
  have HS1 := hide hS1
  have HS2 := hide hS2
  have HSame := hide (fun (x y : Value) W (hx : SigR W x i' chain path) (hy : SigR W y i' chain path) => rsame5_any i' i' chain chain path path x y W hx hy (by omega) (by omega))
  simp only [same_self] at HSame
  obtain ⟨P, hP⟩ : ∃ P, (in1L (seed.map u8v) h i (msg.map u8v)).toArray = P := ⟨_, rfl⟩
  rw [hP]
  have HB := hide (fun (W : World) (hb : Blk W w.heap.size 44 P) => by
    rw [← hP] at hb
    exact show W.rangeAt w.heap.size 0 (seed.map u8v) ∧ W.cell? ⟨w.heap.size, 16, none⟩ = some (.int .i64 h) ∧ W.cell? ⟨w.heap.size, 17, none⟩ = some (.int .i64 i) ∧ W.rangeAt w.heap.size 18 (msg.map u8v) from
      ⟨blk_part (pre := []) hb rfl, blk_at (pre := seed.map u8v) hb rfl 16 (by simpa using hv), blk_at (pre := seed.map u8v ++ [.int .i64 h]) (post := msg.map u8v ++ []) hb (by simp [in1L]) 17 (by simp [hv]), by
        have h18 : (seed.map u8v ++ [Value.int .i64 h, Value.int .i64 i]).length = 18 := by simp [hv]
        have := blk_part (pre := seed.map u8v ++ [Value.int .i64 h, Value.int .i64 i]) (l := msg.map u8v) (post := []) hb (by simp [in1L])
        rw [h18] at this
        exact this⟩)
  have HL := hide (show (seed.map u8v).length = 16 ∧ (msg.map u8v).length = 16 from ⟨by simpa using hv, by simpa using hm⟩)
  obtain ⟨sl, hsl⟩ : ∃ x, seed.map u8v = x := ⟨_, rfl⟩
  obtain ⟨ml, hml⟩ : ∃ x, msg.map u8v = x := ⟨_, rfl⟩
  have HO := hide (show sl.toArray.all (·.oneCell') = true ∧ ml.toArray.all (·.oneCell') = true from ⟨by rw [← hsl]; exact bytes_one _, by rw [← hml]; exact bytes_one _⟩)
  rw [hsl] at HR1 HR2 HS1 HS2 HB HL
  rw [hml] at HS1 HS2 HB HL
  have heq := same16 (r := (r.map u8v).toArray) rfl hr
  obtain ⟨ra, hra⟩ : ∃ x, (r.map u8v).toArray = x := ⟨_, rfl⟩
  have HRA := hide (show ra.size = 16 ∧ ra.all (·.oneCell') = true from by rw [← hra]; exact ⟨by simpa using hr, bytes_one _⟩)
  have HR1' := hide (fun W hE => show Calls Tryd.prog 28 #[.agg sl.toArray, .int .i64 h] W fun e w' => e = .returned (.tuple #[.agg ra, .int .i64 err]) ∧ Ext W w' from by rw [← hra]; exact unhide HR1 W hE)
  have HR2' := hide (fun W => show Calls Tryd.prog 29 #[.agg sl.toArray, .int .i64 h] W fun e w' => e = .returned (.tuple #[.agg ra, .int .i64 err]) ∧ Ext W w' from by rw [← hra]; exact unhide HR2 W)
  rw [hra] at heq
  clear hM hR1 hR2 hS1 hS2 HR1 HR2 hP hv hm hr hra hsl hml hcl hpl
  have HP0 := hide (Blk.new w 44 P)
  have HE0 := hide ((Ext.refl w).alloc (.cells P 44))
  go_enter Tryd.func9, Tryd.ntmps9
  go_upto_region 1 with fail
  generalize w.alloc (.cells P 44) = W0 at *
  go_upto_region 2 with (first
    | (refine wpList_loadMG (by rfl) (ty := 23) (x := .tmp 16) rfl digest_wide rfl (unhide HB _ (unhide HP0)).1 (unhide HL).1 ?_)
    | (refine wpList_storeB (ty := 23) (t := 23) (x := .tmp 3) (y := .tmp 17) rfl rfl digest_wide rfl rfl (Blk.new W0 _ _) rfl (by simpa using (unhide HL).1) (unhide HO).1 ?_; intro w1 hb1 hc1 hz1; have H1 := hide (And.intro (made_ext1 hc1) hb1); clear hb1 hc1 hz1))
  obtain ⟨g3, hg3⟩ : ∃ x, W0.heap.size = x := ⟨_, rfl⟩
  rw [hg3] at H1 ⊢
  clear hg3
  obtain ⟨_, k16, k17, _⟩ := unhide HB _ ((unhide HP0).ext (unhide H1).1)
  go_upto_region 5 with (first
    | (refine wpList_loadMG (by rfl) (ty := 23) (x := .tmp 22) rfl digest_wide rfl (unhide HB _ ((unhide HP0).ext (unhide H1).1)).2.2.2 (unhide HL).2 ?_)
    | (refine wpList_storeB (ty := 23) (t := 23) (x := .tmp 6) (y := .tmp 23) rfl rfl digest_wide rfl rfl (Blk.new w1 _ _) rfl (by simpa using (unhide HL).2) (unhide HO).2 ?_; intro w2 hb2 hc2 hz2; have H2 := hide (show Ext w w2 ∧ Blk w2 g3 23 sl.toArray ∧ Blk w2 w1.heap.size 23 ml.toArray from ⟨((unhide HE0).trans (unhide H1).1).trans (made_ext1 hc2), (unhide H1).2.ext (made_ext1 hc2), hb2⟩); clear hb2 hc2 hz2))
  obtain ⟨g6, hg6⟩ : ∃ x, w1.heap.size = x := ⟨_, rfl⟩
  rw [hg6] at H2 ⊢
  clear hg6 k16 k17 H1 HP0 HE0 HB
  go_upto_region 7 with (first
    | (go_at_call 27; refine (unhide HSan _ (unhide H2).1).mono ?_; rintro e w3 ⟨rfl, hE3⟩; have H3 := hide (show Ext w w3 ∧ Blk w3 g3 23 sl.toArray ∧ Blk w3 g6 23 ml.toArray from ⟨(unhide H2).1.trans hE3, (unhide H2).2.1.ext hE3, (unhide H2).2.2.ext hE3⟩); clear hE3)
    | (refine wpList_loadB (ty := 23) (t := 23) (x := .tmp 3) rfl rfl digest_wide rfl (cs := sl.toArray) (unhide H3).2.1 (by simpa using (unhide HL).1) ?_)
    | (go_at_call 28; refine (unhide HR1' _ (unhide H3).1).mono ?_; rintro e w4 ⟨rfl, hE4⟩; have H4 := hide hE4; clear hE4)
    | (refine wpList_storeB (ty := 23) (t := 23) (x := .tmp 8) (y := .tmp 29) rfl rfl digest_wide rfl rfl (Blk.new w4 _ _) rfl (unhide HRA).1 (unhide HRA).2 ?_; intro w5 hb5 hc5 hz5; have H5 := hide (show Ext w w5 ∧ Blk w5 g3 23 sl.toArray ∧ Blk w5 g6 23 ml.toArray ∧ Blk w5 w4.heap.size 23 ra from ⟨(unhide H3).1.trans ((unhide H4).trans (made_ext1 hc5)), (unhide H3).2.1.ext ((unhide H4).trans (made_ext1 hc5)), (unhide H3).2.2.ext ((unhide H4).trans (made_ext1 hc5)), hb5⟩); clear hb5 hc5 hz5))
  obtain ⟨g8, hg8⟩ : ∃ x, w4.heap.size = x := ⟨_, rfl⟩
  rw [hg8] at H5 ⊢
  clear hg8 H4 H3 H2
  go_upto_region 8 with (first
    | (refine wpList_loadB (ty := 23) (t := 23) (x := .tmp 3) rfl rfl digest_wide rfl (cs := sl.toArray) (unhide H5).2.1 (by simpa using (unhide HL).1) ?_)
    | (go_at_call 29; refine (unhide HR2' _).mono ?_; rintro e w6 ⟨rfl, hE6⟩; have H6 := hide hE6; clear hE6)
    | (refine wpList_storeB (ty := 23) (t := 23) (x := .tmp 10) (y := .tmp 35) rfl rfl digest_wide rfl rfl (Blk.new w6 _ _) rfl (unhide HRA).1 (unhide HRA).2 ?_; intro w7 hb7 hc7 hz7; have H7 := hide (show Ext w w7 ∧ Blk w7 g3 23 sl.toArray ∧ Blk w7 g6 23 ml.toArray ∧ Blk w7 g8 23 ra ∧ Blk w7 w6.heap.size 23 ra from ⟨(unhide H5).1.trans ((unhide H6).trans (made_ext1 hc7)), (unhide H5).2.1.ext ((unhide H6).trans (made_ext1 hc7)), (unhide H5).2.2.1.ext ((unhide H6).trans (made_ext1 hc7)), (unhide H5).2.2.2.ext ((unhide H6).trans (made_ext1 hc7)), hb7⟩); clear hb7 hc7 hz7))
  obtain ⟨g10, hg10⟩ : ∃ x, w6.heap.size = x := ⟨_, rfl⟩
  rw [hg10] at H7 ⊢
  clear hg10 H6 H5
  go_upto_region 9 with (first
    | (refine wpList_loadB (ty := 23) (t := 23) (x := .tmp 3) rfl rfl digest_wide rfl (cs := sl.toArray) (unhide H7).2.1 (by simpa using (unhide HL).1) ?_)
    | (refine wpList_loadB (ty := 23) (t := 23) (x := .tmp 6) rfl rfl digest_wide rfl (cs := ml.toArray) (unhide H7).2.2.1 (by simpa using (unhide HL).2) ?_)
    | (go_at_call 30; refine (unhide HS1 _ (unhide H7).1).mono ?_; rintro e w8 ⟨A, c, B, d, rfl, hd1, hd2, hE8⟩; have H8 := hide (And.intro hE8 (And.intro hd1 hd2)); clear hE8 hd1 hd2))
  have H9 := hide (show Ext w7 (w8.alloc (.cells #[.int .i64 i', .slice A chain.length c, .slice B path.length d] 47)) ∧ Blk (w8.alloc (.cells #[.int .i64 i', .slice A chain.length c, .slice B path.length d] 47)) w8.heap.size 47 #[.int .i64 i', .slice A chain.length c, .slice B path.length d] ∧ SigR (w8.alloc (.cells #[.int .i64 i', .slice A chain.length c, .slice B path.length d] 47)) (.agg #[.int .i64 i', .slice A chain.length c, .slice B path.length d]) i' chain path from
    ⟨(unhide H8).1.alloc _, Blk.new _ _ _, ⟨_, _, rfl, (unhide H8).2.1.ext ((Ext.refl _).alloc _), (unhide H8).2.2.ext ((Ext.refl _).alloc _)⟩⟩)
  generalize w8.alloc (.cells #[.int .i64 i', .slice A chain.length c, .slice B path.length d] 47) = W9 at *
  obtain ⟨g12, hg12⟩ : ∃ x, w8.heap.size = x := ⟨_, rfl⟩
  rw [hg12] at H9 ⊢
  clear hg12 H8
  go_upto_region 10 with (first
    | (refine wpList_loadB (ty := 23) (t := 23) (x := .tmp 3) rfl rfl digest_wide rfl (cs := sl.toArray) ((unhide H7).2.1.ext (unhide H9).1) (by simpa using (unhide HL).1) ?_)
    | (refine wpList_loadB (ty := 23) (t := 23) (x := .tmp 6) rfl rfl digest_wide rfl (cs := ml.toArray) ((unhide H7).2.2.1.ext (unhide H9).1) (by simpa using (unhide HL).2) ?_)
    | (go_at_call 31; refine (unhide HS2 _).mono ?_; rintro e w10 ⟨A', c', B', d', rfl, hd1, hd2, hE10⟩; have H10 := hide (And.intro hE10 (And.intro hd1 hd2)); clear hE10 hd1 hd2))
  have H11 := hide (show Ext W9 (w10.alloc (.cells #[.int .i64 i', .slice A' chain.length c', .slice B' path.length d'] 47)) ∧ Blk (w10.alloc (.cells #[.int .i64 i', .slice A' chain.length c', .slice B' path.length d'] 47)) w10.heap.size 47 #[.int .i64 i', .slice A' chain.length c', .slice B' path.length d'] ∧ SigR (w10.alloc (.cells #[.int .i64 i', .slice A' chain.length c', .slice B' path.length d'] 47)) (.agg #[.int .i64 i', .slice A' chain.length c', .slice B' path.length d']) i' chain path from
    ⟨(unhide H10).1.alloc _, Blk.new _ _ _, ⟨_, _, rfl, (unhide H10).2.1.ext ((Ext.refl _).alloc _), (unhide H10).2.2.ext ((Ext.refl _).alloc _)⟩⟩)
  generalize w10.alloc (.cells #[.int .i64 i', .slice A' chain.length c', .slice B' path.length d'] 47) = W11 at *
  obtain ⟨g14, hg14⟩ : ∃ x, w10.heap.size = x := ⟨_, rfl⟩
  rw [hg14] at H11 ⊢
  clear hg14 H10
  obtain ⟨a0, a1, a2, _, _⟩ := ((unhide H9).2.1.ext (unhide H11).1).cells3
  obtain ⟨b0, b1, b2, _, _⟩ := (unhide H11).2.1.cells3
  go_wp2_with (first
    | (refine wpList_loadBG (by rfl) (ty := 23) (x := .tmp 8) rfl digest_wide rfl ((unhide H7).2.2.2.1.ext ((unhide H9).1.trans (unhide H11).1)) (unhide HRA).1 ?_)
    | (refine wpList_loadBG (by rfl) (ty := 23) (x := .tmp 10) rfl digest_wide rfl ((unhide H7).2.2.2.2.ext ((unhide H9).1.trans (unhide H11).1)) (unhide HRA).1 ?_)
    | (go_at_call 32; refine (unhide HSame _ _ _ ((unhide H9).2.2.ext (unhide H11).1) (unhide H11).2.2).mono ?_; rintro e w12 ⟨rfl, hE12⟩; have H12 := hide hE12; clear hE12))
  go_ret
  exact ⟨rfl, (unhide H7).1.trans (((unhide H9).1.trans (unhide H11).1).trans (unhide H12))⟩

end Go.Proofs.YtjemfefkgfoikaaDoor
