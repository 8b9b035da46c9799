/-
  The law TreesigVerifyMatchesSpec.
-/
import Derived.Test.YtjemfefkgfoikaaDoorTpK
import Derived.Test.YtjemfefkgfoikaaDoorTpL
namespace Go.Proofs.YtjemfefkgfoikaaDoor
open Go.RowKit

theorem small_le {c p : List (List UInt8)} (h : smallB c p = true) : c.length ≤ 100 ∧ p.length ≤ 20 := by simpa [smallB] using h
set_option maxRecDepth 100000 in
set_option maxHeartbeats 16000000 in
theorem lawT2_any (root msg : List UInt8) (hh si ti : Int) (scv spv tcv tpv : Value) (sc sp tc tp : List (List UInt8)) (w : World) (hM : ShaMem w) (hv : root.length = 16) (hm : msg.length = 16) (hsc : Digs w scv sc) (hsp : Digs w spv sp) (htc : Digs w tcv tc) (htp : Digs w tpv tp) :
    Calls Tryd.prog 10 #[.agg (in2L (root.map u8v) hh (msg.map u8v) [.int .i64 si, scv, spv] [.int .i64 ti, tcv, tpv]).toArray] w fun e w' => e = .returned (.bool true) ∧ Ext w w' := by
  by_cases h1 : smallB sc sp = true
  · by_cases h2 : smallB tc tp = true
    · obtain ⟨A1, c1, rfl, _, _⟩ := hsc.form
      obtain ⟨A2, c2, rfl, _, _⟩ := hsp.form
      obtain ⟨A3, c3, rfl, _, _⟩ := htc.form
      obtain ⟨A4, c4, rfl, _, _⟩ := htp.form
      have HB := hide (fun (W : World) (hb : Blk W w.heap.size 53 (in2L (root.map u8v) hh (msg.map u8v) [.int .i64 si, .slice A1 sc.length c1, .slice A2 sp.length c2] [.int .i64 ti, .slice A3 tc.length c3, .slice A4 tp.length c4]).toArray) =>
        show W.rangeAt w.heap.size 0 (root.map u8v) ∧ W.rangeAt w.heap.size 17 (msg.map u8v) ∧ W.cell? ⟨w.heap.size, 16, none⟩ = some (.int .i64 hh) ∧ W.cell? ⟨w.heap.size, 33, none⟩ = some (.int .i64 si) ∧ W.cell? ⟨w.heap.size, 34, none⟩ = some (.slice A1 sc.length c1) ∧ W.cell? ⟨w.heap.size, 35, none⟩ = some (.slice A2 sp.length c2) ∧ W.cell? ⟨w.heap.size, 36, none⟩ = some (.int .i64 ti) ∧ W.cell? ⟨w.heap.size, 37, none⟩ = some (.slice A3 tc.length c3) ∧ W.cell? ⟨w.heap.size, 38, none⟩ = some (.slice A4 tp.length c4) from
          ⟨blk_part (pre := []) hb rfl, by
            have h17 : (root.map u8v ++ [Value.int .i64 hh]).length = 17 := by simp [hv]
            have := blk_part (pre := root.map u8v ++ [Value.int .i64 hh]) (l := msg.map u8v) (post := [.int .i64 si, .slice A1 sc.length c1, .slice A2 sp.length c2] ++ ([.int .i64 ti, .slice A3 tc.length c3, .slice A4 tp.length c4] ++ [])) hb (by simp [in2L])
            rw [h17] at this
            exact this, blk_at (pre := root.map u8v) hb rfl 16 (by simpa using hv),
           blk_at (pre := root.map u8v ++ [.int .i64 hh] ++ msg.map u8v) (post := [.slice A1 sc.length c1, .slice A2 sp.length c2, .int .i64 ti, .slice A3 tc.length c3, .slice A4 tp.length c4]) hb (by simp [in2L]) 33 (by simp [hv, hm]),
           blk_at (pre := root.map u8v ++ [.int .i64 hh] ++ msg.map u8v ++ [.int .i64 si]) (post := [.slice A2 sp.length c2, .int .i64 ti, .slice A3 tc.length c3, .slice A4 tp.length c4]) hb (by simp [in2L]) 34 (by simp [hv, hm]),
           blk_at (pre := root.map u8v ++ [.int .i64 hh] ++ msg.map u8v ++ [.int .i64 si, .slice A1 sc.length c1]) (post := [.int .i64 ti, .slice A3 tc.length c3, .slice A4 tp.length c4]) hb (by simp [in2L]) 35 (by simp [hv, hm]),
           blk_at (pre := root.map u8v ++ [.int .i64 hh] ++ msg.map u8v ++ [.int .i64 si, .slice A1 sc.length c1, .slice A2 sp.length c2]) (post := [.slice A3 tc.length c3, .slice A4 tp.length c4]) hb (by simp [in2L]) 36 (by simp [hv, hm]),
           blk_at (pre := root.map u8v ++ [.int .i64 hh] ++ msg.map u8v ++ [.int .i64 si, .slice A1 sc.length c1, .slice A2 sp.length c2, .int .i64 ti]) (post := [.slice A4 tp.length c4]) hb (by simp [in2L]) 37 (by simp [hv, hm]),
           blk_at (pre := root.map u8v ++ [.int .i64 hh] ++ msg.map u8v ++ [.int .i64 si, .slice A1 sc.length c1, .slice A2 sp.length c2, .int .i64 ti, .slice A3 tc.length c3]) (post := []) hb (by simp [in2L]) 38 (by simp [hv, hm])⟩)
      have HSan := hide (fun W (hE : Ext w W) => sanity5_any W (hM.ext hE))
      have HSm1 := hide (fun W (hE : Ext w W) => small_any si sc sp (.agg #[.int .i64 si, .slice A1 sc.length c1, .slice A2 sp.length c2]) W ⟨_, _, rfl, hsc.ext hE, hsp.ext hE⟩)
      have HSm2 := hide (fun W (hE : Ext w W) => small_any ti tc tp (.agg #[.int .i64 ti, .slice A3 tc.length c3, .slice A4 tp.length c4]) W ⟨_, _, rfl, htc.ext hE, htp.ext hE⟩)
      have hb1 := small_le h1
      have hb2 := small_le h2
      obtain ⟨b, hV1, hV2, _⟩ := vers_agree root msg hh si sc sp _ _ w hM hv hm hsc hsp (by omega)
      have HV1 := hide hV1
      have HV2 := hide hV2
      have HQ1 := hide (fun W (hE : Ext w W) => same_any si ti sc tc sp tp (.agg #[.int .i64 si, .slice A1 sc.length c1, .slice A2 sp.length c2]) (.agg #[.int .i64 ti, .slice A3 tc.length c3, .slice A4 tp.length c4]) W ⟨_, _, rfl, hsc.ext hE, hsp.ext hE⟩ ⟨_, _, rfl, htc.ext hE, htp.ext hE⟩ (by omega) (by omega))
      have HQ2 := hide (fun W (hE : Ext w W) => rsame5_any si ti sc tc sp tp (.agg #[.int .i64 si, .slice A1 sc.length c1, .slice A2 sp.length c2]) (.agg #[.int .i64 ti, .slice A3 tc.length c3, .slice A4 tp.length c4]) W ⟨_, _, rfl, hsc.ext hE, hsp.ext hE⟩ ⟨_, _, rfl, htc.ext hE, htp.ext hE⟩ (by omega) (by omega))
      obtain ⟨q, hq⟩ : ∃ q, sameB si ti sc tc sp tp = q := ⟨_, rfl⟩
      rw [hq] at HQ1 HQ2
      have HS1 := hide h1
      have HS2 := hide h2
      obtain ⟨P, hP⟩ : ∃ P, (in2L (root.map u8v) hh (msg.map u8v) [.int .i64 si, .slice A1 sc.length c1, .slice A2 sp.length c2] [.int .i64 ti, .slice A3 tc.length c3, .slice A4 tp.length c4]).toArray = P := ⟨_, rfl⟩
      rw [hP]
      have HL := hide (show (root.map u8v).length = 16 ∧ (msg.map u8v).length = 16 from ⟨by simpa using hv, by simpa using hm⟩)
      obtain ⟨sl, hsl⟩ : ∃ x, root.map u8v = x := ⟨_, rfl⟩
      obtain ⟨ml, hml⟩ : ∃ x, msg.map u8v = x := ⟨_, rfl⟩
      have HO := hide (show sl.toArray.all (·.oneCell') = true ∧ ml.toArray.all (·.oneCell') = true from ⟨by rw [← hsl]; exact bytes_one _, by rw [← hml]; exact bytes_one _⟩)
      rw [hsl, hml] at HL
      rw [hP, hsl, hml] at HB
      rw [hsl, hml] at HV1 HV2
      clear hM hV1 hV2 hP hv hm hsl hml hb1 hb2 hq hsc hsp htc htp h1 h2
      go_enter Tryd.func10, Tryd.ntmps10
      go_upto_region 1 with fail
      have HP0 := hide (Blk.new w 53 P)
      have HE0 := hide ((Ext.refl w).alloc (.cells P 53))
      generalize w.alloc (.cells P 53) = W0 at *
      go_upto_region 2 with (first
        | (refine wpList_loadMG (by rfl) (ty := 23) (x := .tmp 9) rfl digest_wide rfl (unhide HB _ (unhide HP0)).1 (unhide HL).1 ?_)
        | (refine wpList_storeB (ty := 23) (t := 23) (x := .tmp 3) (y := .tmp 10) rfl rfl digest_wide rfl rfl (Blk.new W0 _ _) rfl (by simpa using (unhide HL).1) (unhide HO).1 ?_; intro w1 hb1 hc1 hz1; have H1 := hide (And.intro (made_ext1 hc1) hb1); clear hb1 hc1 hz1))
      obtain ⟨g3, hg3⟩ : ∃ x, W0.heap.size = x := ⟨_, rfl⟩
      rw [hg3] at H1 ⊢
      clear hg3
      have HC1 := (unhide HB _ ((unhide HP0).ext (unhide H1).1)).2.2
      go_upto_region 4 with (first
        | (refine wpList_loadMG (by rfl) (ty := 23) (x := .tmp 13) rfl digest_wide rfl (unhide HB _ ((unhide HP0).ext (unhide H1).1)).2.1 (unhide HL).2 ?_)
        | (refine wpList_storeB (ty := 23) (t := 23) (x := .tmp 5) (y := .tmp 14) rfl rfl digest_wide rfl rfl (Blk.new w1 _ _) rfl (by simpa using (unhide HL).2) (unhide HO).2 ?_; intro w2 hb2 hc2 hz2; have H2 := hide (show Ext w w2 ∧ Blk w2 g3 23 sl.toArray ∧ Blk w2 w1.heap.size 23 ml.toArray ∧ Blk w2 w.heap.size 53 P from ⟨((unhide HE0).trans (unhide H1).1).trans (made_ext1 hc2), (unhide H1).2.ext (made_ext1 hc2), hb2, (unhide HP0).ext ((unhide H1).1.trans (made_ext1 hc2))⟩); have HC2 := (unhide HB _ (unhide H2).2.2.2).2.2; clear hb2 hc2 hz2))
      obtain ⟨g6, hg6⟩ : ∃ x, w1.heap.size = x := ⟨_, rfl⟩
      rw [hg6] at H2 ⊢
      clear hg6 HC1 H1 HP0 HE0
      obtain ⟨k16, k33, k34, k35, k36, k37, k38⟩ := HC2
      have hlw := (unhide H2).2.2.2.lt
      go_upto_region 6 with fail
      have H3 := hide (show Ext w ((w2.alloc (.cells #[.int .i64 si, .slice A1 sc.length c1, .slice A2 sp.length c2] 47)).alloc (.cells #[.int .i64 ti, .slice A3 tc.length c3, .slice A4 tp.length c4] 47)) ∧ Blk ((w2.alloc (.cells #[.int .i64 si, .slice A1 sc.length c1, .slice A2 sp.length c2] 47)).alloc (.cells #[.int .i64 ti, .slice A3 tc.length c3, .slice A4 tp.length c4] 47)) g3 23 sl.toArray ∧
        Blk ((w2.alloc (.cells #[.int .i64 si, .slice A1 sc.length c1, .slice A2 sp.length c2] 47)).alloc (.cells #[.int .i64 ti, .slice A3 tc.length c3, .slice A4 tp.length c4] 47)) g6 23 ml.toArray ∧ Blk ((w2.alloc (.cells #[.int .i64 si, .slice A1 sc.length c1, .slice A2 sp.length c2] 47)).alloc (.cells #[.int .i64 ti, .slice A3 tc.length c3, .slice A4 tp.length c4] 47)) w2.heap.size 47 #[.int .i64 si, .slice A1 sc.length c1, .slice A2 sp.length c2] ∧
        Blk ((w2.alloc (.cells #[.int .i64 si, .slice A1 sc.length c1, .slice A2 sp.length c2] 47)).alloc (.cells #[.int .i64 ti, .slice A3 tc.length c3, .slice A4 tp.length c4] 47)) (w2.heap.size + 1) 47 #[.int .i64 ti, .slice A3 tc.length c3, .slice A4 tp.length c4] from
        ⟨((unhide H2).1.alloc _).alloc _, ((unhide H2).2.1.alloc _).alloc _, ((unhide H2).2.2.1.alloc _).alloc _, (Blk.new _ _ _).alloc _, Blk.new' _ _ _ (by simp)⟩)
      generalize ((w2.alloc (.cells #[.int .i64 si, .slice A1 sc.length c1, .slice A2 sp.length c2] 47)).alloc (.cells #[.int .i64 ti, .slice A3 tc.length c3, .slice A4 tp.length c4] 47)) = W3 at *
      obtain ⟨gs, hgs⟩ : ∃ x, w2.heap.size = x := ⟨_, rfl⟩
      rw [hgs] at H3 ⊢
      clear hgs k16 k33 k34 k35 k36 k37 k38 H2 HB
      have HT1 := hide True.intro
      go_upto_region 7 with (go_at_call 27; refine (unhide HSan _ (unhide H3).1).mono ?_; rintro e w4 ⟨rfl, hE4⟩; have H4 := hide (show Ext w w4 ∧ Blk w4 g3 23 sl.toArray ∧ Blk w4 g6 23 ml.toArray ∧ Blk w4 gs 47 #[.int .i64 si, .slice A1 sc.length c1, .slice A2 sp.length c2] ∧ Blk w4 (gs + 1) 47 #[.int .i64 ti, .slice A3 tc.length c3, .slice A4 tp.length c4] from ⟨(unhide H3).1.trans hE4, (unhide H3).2.1.ext hE4, (unhide H3).2.2.1.ext hE4, (unhide H3).2.2.2.1.ext hE4, (unhide H3).2.2.2.2.ext hE4⟩); clear hE4)
      clear H3
      obtain ⟨a0, a1, a2, _, _⟩ := (unhide H4).2.2.2.1.cells3
      go_upto_region 9 with (first
        | (go_at_call 33; clear HT1; refine (unhide HSm1 _ (unhide H4).1).mono ?_; rintro e w5 ⟨rfl, hE5⟩; rw [unhide HS1]; have H5 := hide hE5; obtain ⟨b0, b1, b2, _, _⟩ := ((unhide H4).2.2.2.2.ext hE5).cells3; clear hE5)
        | (go_at_call 33; refine (unhide HSm2 _ ((unhide H4).1.trans (unhide H5))).mono ?_; rintro e w6 ⟨rfl, hE6⟩; rw [unhide HS2]; have H6 := hide ((unhide H5).trans hE6); clear hE6))
      clear a0 a1 a2
      have HZ6 := hide (show Ext w w6 ∧ Blk w6 g3 23 sl.toArray ∧ Blk w6 g6 23 ml.toArray ∧ Blk w6 gs 47 #[.int .i64 si, .slice A1 sc.length c1, .slice A2 sp.length c2] ∧ Blk w6 (gs + 1) 47 #[.int .i64 ti, .slice A3 tc.length c3, .slice A4 tp.length c4] from ⟨(unhide H4).1.trans (unhide H6), (unhide H4).2.1.ext (unhide H6), (unhide H4).2.2.1.ext (unhide H6), (unhide H4).2.2.2.1.ext (unhide H6), (unhide H4).2.2.2.2.ext (unhide H6)⟩)
      have HF : Hid (∀ W, Ext w6 W → W.cell? ⟨gs, 0, none⟩ = some (.int .i64 si) ∧ W.cell? ⟨gs, 1, none⟩ = some (.slice A1 sc.length c1) ∧ W.cell? ⟨gs, 2, none⟩ = some (.slice A2 sp.length c2) ∧ W.cell? ⟨gs + 1, 0, none⟩ = some (.int .i64 ti) ∧ W.cell? ⟨gs + 1, 1, none⟩ = some (.slice A3 tc.length c3) ∧ W.cell? ⟨gs + 1, 2, none⟩ = some (.slice A4 tp.length c4)) := hide (fun W hW => by
        obtain ⟨p0, p1, p2, _, _⟩ := ((unhide HZ6).2.2.2.1.ext hW).cells3
        obtain ⟨q0, q1, q2, _, _⟩ := ((unhide HZ6).2.2.2.2.ext hW).cells3
        exact ⟨p0, p1, p2, q0, q1, q2⟩)
      refine wp_region_held_drew (S := fun W => Ext w6 W) (by kernel_rfl) ((Ext.refl _).drew) (fun hHeld => ?_)
      refine wpAnyH_take (i := 0) (oi := _) (v := ?_) rfl (by kernel_rfl) (by kernel_rfl) (by kernel_rfl) (fun _ _ _ h => h) (Or.inl ⟨by rfl, fun wz hSz => ?_⟩) (by assumption) ?_
      rotate_left
      · (first | (go_simp; done) | (go_simp; with_reducible rfl) | (obtain ⟨f1, f2, f3, f4, f5, f6⟩ := (unhide HF) wz hSz; clear hSz; first | (go_simp; done) | (go_simp; with_reducible rfl)))
      try simp only [Act.put, List.setIfInBounds_toArray, List.set_cons_zero, List.set_cons_succ, List.getElem_toArray, List.getElem_cons_succ, List.getElem_cons_zero]
      refine wpAnyH_take (i := 1) (oi := _) (v := ?_) rfl (by kernel_rfl) (by kernel_rfl) (by kernel_rfl) (fun _ _ _ h => h) (Or.inl ⟨by rfl, fun wz hSz => ?_⟩) (by assumption) ?_
      rotate_left
      · (first | (go_simp; done) | (go_simp; with_reducible rfl) | (obtain ⟨f1, f2, f3, f4, f5, f6⟩ := (unhide HF) wz hSz; clear hSz; first | (go_simp; done) | (go_simp; with_reducible rfl)))
      try simp only [Act.put, List.setIfInBounds_toArray, List.set_cons_zero, List.set_cons_succ, List.getElem_toArray, List.getElem_cons_succ, List.getElem_cons_zero]
      refine wpAnyH_take (i := 2) (oi := _) (v := _) rfl (by kernel_rfl) (by kernel_rfl) (by kernel_rfl) (fun _ _ _ h => h) (ylb digest_wide rfl (by rfl) rfl (by simpa using (unhide HL).1) (fun w' hw => (unhide HZ6).2.1.ext hw)) (by assumption) ?_
      try simp only [Act.put, List.setIfInBounds_toArray, List.set_cons_zero, List.set_cons_succ, List.getElem_toArray, List.getElem_cons_succ, List.getElem_cons_zero]
      refine wpAnyH_take (i := 3) (oi := _) (v := ?_) rfl (by kernel_rfl) (by kernel_rfl) (by kernel_rfl) (fun _ _ _ h => h) (Or.inl ⟨by rfl, fun wz hSz => ?_⟩) (by assumption) ?_
      rotate_left
      · (first | (go_simp; done) | (go_simp; with_reducible rfl) | (obtain ⟨f1, f2, f3, f4, f5, f6⟩ := (unhide HF) wz hSz; clear hSz; first | (go_simp; done) | (go_simp; with_reducible rfl)))
      try simp only [Act.put, List.setIfInBounds_toArray, List.set_cons_zero, List.set_cons_succ, List.getElem_toArray, List.getElem_cons_succ, List.getElem_cons_zero]
      refine wpAnyH_take (i := 4) (oi := _) (v := _) rfl (by kernel_rfl) (by kernel_rfl) (by kernel_rfl) (fun _ _ _ h => h) (ylb digest_wide rfl (by rfl) rfl (by simpa using (unhide HL).2) (fun w' hw => (unhide HZ6).2.2.1.ext hw)) (by assumption) ?_
      try simp only [Act.put, List.setIfInBounds_toArray, List.set_cons_zero, List.set_cons_succ, List.getElem_toArray, List.getElem_cons_succ, List.getElem_cons_zero]
      refine wpAnyH_take (i := 5) (oi := _) (v := ?_) rfl (by kernel_rfl) (by kernel_rfl) (by kernel_rfl) (fun _ _ _ h => h) (Or.inl ⟨by rfl, fun wz hSz => ?_⟩) (by assumption) ?_
      rotate_left
      · (first | (go_simp; done) | (go_simp; with_reducible rfl) | (obtain ⟨f1, f2, f3, f4, f5, f6⟩ := (unhide HF) wz hSz; clear hSz; first | (go_simp; done) | (go_simp; with_reducible rfl)))
      try simp only [Act.put, List.setIfInBounds_toArray, List.set_cons_zero, List.set_cons_succ, List.getElem_toArray, List.getElem_cons_succ, List.getElem_cons_zero]
      refine wpAnyH_take (i := 7) (oi := _) (v := _) rfl (by kernel_rfl) (by kernel_rfl) (by kernel_rfl) (fun _ _ _ h => h) (ylb digest_wide rfl (by rfl) rfl (by simpa using (unhide HL).1) (fun w' hw => (unhide HZ6).2.1.ext hw)) (by assumption) ?_
      try simp only [Act.put, List.setIfInBounds_toArray, List.set_cons_zero, List.set_cons_succ, List.getElem_toArray, List.getElem_cons_succ, List.getElem_cons_zero]
      refine wpAnyH_take (i := 8) (oi := _) (v := ?_) rfl (by kernel_rfl) (by kernel_rfl) (by kernel_rfl) (fun _ _ _ h => h) (Or.inl ⟨by rfl, fun wz hSz => ?_⟩) (by assumption) ?_
      rotate_left
      · (first | (go_simp; done) | (go_simp; with_reducible rfl) | (obtain ⟨f1, f2, f3, f4, f5, f6⟩ := (unhide HF) wz hSz; clear hSz; first | (go_simp; done) | (go_simp; with_reducible rfl)))
      try simp only [Act.put, List.setIfInBounds_toArray, List.set_cons_zero, List.set_cons_succ, List.getElem_toArray, List.getElem_cons_succ, List.getElem_cons_zero]
      refine wpAnyH_take (i := 9) (oi := _) (v := _) rfl (by kernel_rfl) (by kernel_rfl) (by kernel_rfl) (fun _ _ _ h => h) (ylb digest_wide rfl (by rfl) rfl (by simpa using (unhide HL).2) (fun w' hw => (unhide HZ6).2.2.1.ext hw)) (by assumption) ?_
      try simp only [Act.put, List.setIfInBounds_toArray, List.set_cons_zero, List.set_cons_succ, List.getElem_toArray, List.getElem_cons_succ, List.getElem_cons_zero]
      refine wpAnyH_take (i := 10) (oi := _) (v := ?_) rfl (by kernel_rfl) (by kernel_rfl) (by kernel_rfl) (fun _ _ _ h => h) (Or.inl ⟨by rfl, fun wz hSz => ?_⟩) (by assumption) ?_
      rotate_left
      · (first | (go_simp; done) | (go_simp; with_reducible rfl) | (obtain ⟨f1, f2, f3, f4, f5, f6⟩ := (unhide HF) wz hSz; clear hSz; first | (go_simp; done) | (go_simp; with_reducible rfl)))
      try simp only [Act.put, List.setIfInBounds_toArray, List.set_cons_zero, List.set_cons_succ, List.getElem_toArray, List.getElem_cons_succ, List.getElem_cons_zero]
      refine wpAnyH_ready (rs := [6]) (by kernel_rfl) (by simp) (AllReadyH.cons (o := _) rfl (fun K hK => ?_) AllReadyH.nil)
      try go_simp
      (refine (unhide HV1 _ ((unhide HZ6).1.trans hHeld)).mono ?_; rintro e w7 ⟨rfl, hE7⟩; have hS := Ext.trans hHeld hE7; clear hHeld hE7)
      refine hK.out _ _ ?_ (fun hHeld => ?_)
      · exact hS
      clear hK K
      try simp only [Act.put, List.setIfInBounds_toArray, List.set_cons_zero, List.set_cons_succ, List.getElem_toArray, List.getElem_cons_succ, List.getElem_cons_zero]
      refine wpAnyH_ready (rs := [11]) (by kernel_rfl) (by simp) (AllReadyH.cons (o := _) rfl (fun K hK => ?_) AllReadyH.nil)
      try go_simp
      (refine (unhide HV2 _ ((unhide HZ6).1.trans hHeld)).mono ?_; rintro e w8 ⟨rfl, hE8⟩; have hS := Ext.trans hHeld hE8; clear hHeld hE8)
      refine hK.out _ _ ?_ (fun hHeld => ?_)
      · exact hS
      clear hK K
      try simp only [Act.put, List.setIfInBounds_toArray, List.set_cons_zero, List.set_cons_succ, List.getElem_toArray, List.getElem_cons_succ, List.getElem_cons_zero]
      refine wpAnyH_take (i := 12) (oi := _) (v := ?_) rfl (by kernel_rfl) (by kernel_rfl) (by kernel_rfl) (fun _ _ _ h => h) (Or.inl ⟨by rfl, fun wz hSz => ?_⟩) (by assumption) ?_
      rotate_left
      · (first | (go_simp; done) | (go_simp; with_reducible rfl) | (obtain ⟨f1, f2, f3, f4, f5, f6⟩ := (unhide HF) wz hSz; clear hSz; first | (go_simp; done) | (go_simp; with_reducible rfl)))
      try simp only [Act.put, List.setIfInBounds_toArray, List.set_cons_zero, List.set_cons_succ, List.getElem_toArray, List.getElem_cons_succ, List.getElem_cons_zero]
      refine wpAnyH_take (i := 13) (oi := _) (v := ?_) rfl (by kernel_rfl) (by kernel_rfl) (by kernel_rfl) (fun _ _ _ h => h) (Or.inl ⟨by rfl, fun wz hSz => ?_⟩) (by assumption) ?_
      rotate_left
      · (first | (go_simp; done) | (go_simp; with_reducible rfl) | (obtain ⟨f1, f2, f3, f4, f5, f6⟩ := (unhide HF) wz hSz; clear hSz; first | (go_simp; done) | (go_simp; with_reducible rfl)))
      try simp only [Act.put, List.setIfInBounds_toArray, List.set_cons_zero, List.set_cons_succ, List.getElem_toArray, List.getElem_cons_succ, List.getElem_cons_zero]
      refine wpAnyH_take (i := 14) (oi := _) (v := ?_) rfl (by kernel_rfl) (by kernel_rfl) (by kernel_rfl) (fun _ _ _ h => h) (Or.inl ⟨by rfl, fun wz hSz => ?_⟩) (by assumption) ?_
      rotate_left
      · (first | (go_simp; done) | (go_simp; with_reducible rfl) | (obtain ⟨f1, f2, f3, f4, f5, f6⟩ := (unhide HF) wz hSz; clear hSz; first | (go_simp; done) | (go_simp; with_reducible rfl)))
      try simp only [Act.put, List.setIfInBounds_toArray, List.set_cons_zero, List.set_cons_succ, List.getElem_toArray, List.getElem_cons_succ, List.getElem_cons_zero]
      refine wpAnyH_take (i := 15) (oi := _) (v := ?_) rfl (by kernel_rfl) (by kernel_rfl) (by kernel_rfl) (fun _ _ _ h => h) (Or.inl ⟨by rfl, fun wz hSz => ?_⟩) (by assumption) ?_
      rotate_left
      · (first | (go_simp; done) | (go_simp; with_reducible rfl) | (obtain ⟨f1, f2, f3, f4, f5, f6⟩ := (unhide HF) wz hSz; clear hSz; first | (go_simp; done) | (go_simp; with_reducible rfl)))
      try simp only [Act.put, List.setIfInBounds_toArray, List.set_cons_zero, List.set_cons_succ, List.getElem_toArray, List.getElem_cons_succ, List.getElem_cons_zero]
      refine wpAnyH_take (i := 16) (oi := _) (v := ?_) rfl (by kernel_rfl) (by kernel_rfl) (by kernel_rfl) (fun _ _ _ h => h) (Or.inl ⟨by rfl, fun wz hSz => ?_⟩) (by assumption) ?_
      rotate_left
      · (first | (go_simp; done) | (go_simp; with_reducible rfl) | (obtain ⟨f1, f2, f3, f4, f5, f6⟩ := (unhide HF) wz hSz; clear hSz; first | (go_simp; done) | (go_simp; with_reducible rfl)))
      try simp only [Act.put, List.setIfInBounds_toArray, List.set_cons_zero, List.set_cons_succ, List.getElem_toArray, List.getElem_cons_succ, List.getElem_cons_zero]
      refine wpAnyH_take (i := 18) (oi := _) (v := ?_) rfl (by kernel_rfl) (by kernel_rfl) (by kernel_rfl) (fun _ _ _ h => h) (Or.inl ⟨by rfl, fun wz hSz => ?_⟩) (by assumption) ?_
      rotate_left
      · (first | (go_simp; done) | (go_simp; with_reducible rfl) | (obtain ⟨f1, f2, f3, f4, f5, f6⟩ := (unhide HF) wz hSz; clear hSz; first | (go_simp; done) | (go_simp; with_reducible rfl)))
      try simp only [Act.put, List.setIfInBounds_toArray, List.set_cons_zero, List.set_cons_succ, List.getElem_toArray, List.getElem_cons_succ, List.getElem_cons_zero]
      refine wpAnyH_take (i := 19) (oi := _) (v := ?_) rfl (by kernel_rfl) (by kernel_rfl) (by kernel_rfl) (fun _ _ _ h => h) (Or.inl ⟨by rfl, fun wz hSz => ?_⟩) (by assumption) ?_
      rotate_left
      · (first | (go_simp; done) | (go_simp; with_reducible rfl) | (obtain ⟨f1, f2, f3, f4, f5, f6⟩ := (unhide HF) wz hSz; clear hSz; first | (go_simp; done) | (go_simp; with_reducible rfl)))
      try simp only [Act.put, List.setIfInBounds_toArray, List.set_cons_zero, List.set_cons_succ, List.getElem_toArray, List.getElem_cons_succ, List.getElem_cons_zero]
      refine wpAnyH_ready (rs := [17]) (by kernel_rfl) (by simp) (AllReadyH.cons (o := _) rfl (fun K hK => ?_) AllReadyH.nil)
      try go_simp
      (refine (unhide HQ1 _ ((unhide HZ6).1.trans hHeld)).mono ?_; rintro e w9 ⟨rfl, hE9⟩; have hS := Ext.trans hHeld hE9; clear hHeld hE9)
      refine hK.out _ _ ?_ (fun hHeld => ?_)
      · exact hS
      clear hK K
      try simp only [Act.put, List.setIfInBounds_toArray, List.set_cons_zero, List.set_cons_succ, List.getElem_toArray, List.getElem_cons_succ, List.getElem_cons_zero]
      refine wpAnyH_ready (rs := [20]) (by kernel_rfl) (by simp) (AllReadyH.cons (o := _) rfl (fun K hK => ?_) AllReadyH.nil)
      try go_simp
      (refine (unhide HQ2 _ ((unhide HZ6).1.trans hHeld)).mono ?_; rintro e w10 ⟨rfl, hE10⟩; have hS := Ext.trans hHeld hE10; clear hHeld hE10)
      refine hK.out _ _ ?_ (fun hHeld => ?_)
      · exact hS
      clear hK K
      try simp only [Act.put, List.setIfInBounds_toArray, List.set_cons_zero, List.set_cons_succ, List.getElem_toArray, List.getElem_cons_succ, List.getElem_cons_zero]
      refine wpAnyH_take (i := 21) (oi := _) (v := ?_) rfl (by kernel_rfl) (by kernel_rfl) (by kernel_rfl) (fun _ _ _ h => h) (Or.inl ⟨by rfl, fun wz hSz => ?_⟩) (by assumption) ?_
      rotate_left
      · (first | (go_simp; done) | (go_simp; with_reducible rfl) | (obtain ⟨f1, f2, f3, f4, f5, f6⟩ := (unhide HF) wz hSz; clear hSz; first | (go_simp; done) | (go_simp; with_reducible rfl)))
      try simp only [Act.put, List.setIfInBounds_toArray, List.set_cons_zero, List.set_cons_succ, List.getElem_toArray, List.getElem_cons_succ, List.getElem_cons_zero]
      refine wpAnyH_take (i := 22) (oi := _) (v := ?_) rfl (by kernel_rfl) (by kernel_rfl) (by kernel_rfl) (fun _ _ _ h => h) (Or.inl ⟨by rfl, fun wz hSz => ?_⟩) (by assumption) ?_
      rotate_left
      · (first | (go_simp; done) | (go_simp; with_reducible rfl) | (obtain ⟨f1, f2, f3, f4, f5, f6⟩ := (unhide HF) wz hSz; clear hSz; first | (go_simp; done) | (go_simp; with_reducible rfl)))
      try simp only [Act.put, List.setIfInBounds_toArray, List.set_cons_zero, List.set_cons_succ, List.getElem_toArray, List.getElem_cons_succ, List.getElem_cons_zero]
      refine wpAnyH_take (i := 23) (oi := _) (v := ?_) rfl (by kernel_rfl) (by kernel_rfl) (by kernel_rfl) (fun _ _ _ h => h) (Or.inl ⟨by rfl, fun wz hSz => ?_⟩) (by assumption) ?_
      rotate_left
      · (first | (go_simp; done) | (go_simp; with_reducible rfl) | (obtain ⟨f1, f2, f3, f4, f5, f6⟩ := (unhide HF) wz hSz; clear hSz; first | (go_simp; done) | (go_simp; with_reducible rfl)))
      try simp only [Act.put, List.setIfInBounds_toArray, List.set_cons_zero, List.set_cons_succ, List.getElem_toArray, List.getElem_cons_succ, List.getElem_cons_zero]
      refine wpAnyH_done (by kernel_rfl) ?_ _
      have H9 := hide ((unhide HZ6).1.trans hHeld)
      clear hHeld
      go_wp2
      go_ret
      exact ⟨rfl, unhide H9⟩
    · obtain ⟨A1, c1, rfl, _, _⟩ := hsc.form
      obtain ⟨A2, c2, rfl, _, _⟩ := hsp.form
      obtain ⟨A3, c3, rfl, _, _⟩ := htc.form
      obtain ⟨A4, c4, rfl, _, _⟩ := htp.form
      have HB := hide (fun (W : World) (hb : Blk W w.heap.size 53 (in2L (root.map u8v) hh (msg.map u8v) [.int .i64 si, .slice A1 sc.length c1, .slice A2 sp.length c2] [.int .i64 ti, .slice A3 tc.length c3, .slice A4 tp.length c4]).toArray) =>
        show W.rangeAt w.heap.size 0 (root.map u8v) ∧ W.rangeAt w.heap.size 17 (msg.map u8v) ∧ W.cell? ⟨w.heap.size, 16, none⟩ = some (.int .i64 hh) ∧ W.cell? ⟨w.heap.size, 33, none⟩ = some (.int .i64 si) ∧ W.cell? ⟨w.heap.size, 34, none⟩ = some (.slice A1 sc.length c1) ∧ W.cell? ⟨w.heap.size, 35, none⟩ = some (.slice A2 sp.length c2) ∧ W.cell? ⟨w.heap.size, 36, none⟩ = some (.int .i64 ti) ∧ W.cell? ⟨w.heap.size, 37, none⟩ = some (.slice A3 tc.length c3) ∧ W.cell? ⟨w.heap.size, 38, none⟩ = some (.slice A4 tp.length c4) from
          ⟨blk_part (pre := []) hb rfl, by
            have h17 : (root.map u8v ++ [Value.int .i64 hh]).length = 17 := by simp [hv]
            have := blk_part (pre := root.map u8v ++ [Value.int .i64 hh]) (l := msg.map u8v) (post := [.int .i64 si, .slice A1 sc.length c1, .slice A2 sp.length c2] ++ ([.int .i64 ti, .slice A3 tc.length c3, .slice A4 tp.length c4] ++ [])) hb (by simp [in2L])
            rw [h17] at this
            exact this, blk_at (pre := root.map u8v) hb rfl 16 (by simpa using hv),
           blk_at (pre := root.map u8v ++ [.int .i64 hh] ++ msg.map u8v) (post := [.slice A1 sc.length c1, .slice A2 sp.length c2, .int .i64 ti, .slice A3 tc.length c3, .slice A4 tp.length c4]) hb (by simp [in2L]) 33 (by simp [hv, hm]),
           blk_at (pre := root.map u8v ++ [.int .i64 hh] ++ msg.map u8v ++ [.int .i64 si]) (post := [.slice A2 sp.length c2, .int .i64 ti, .slice A3 tc.length c3, .slice A4 tp.length c4]) hb (by simp [in2L]) 34 (by simp [hv, hm]),
           blk_at (pre := root.map u8v ++ [.int .i64 hh] ++ msg.map u8v ++ [.int .i64 si, .slice A1 sc.length c1]) (post := [.int .i64 ti, .slice A3 tc.length c3, .slice A4 tp.length c4]) hb (by simp [in2L]) 35 (by simp [hv, hm]),
           blk_at (pre := root.map u8v ++ [.int .i64 hh] ++ msg.map u8v ++ [.int .i64 si, .slice A1 sc.length c1, .slice A2 sp.length c2]) (post := [.slice A3 tc.length c3, .slice A4 tp.length c4]) hb (by simp [in2L]) 36 (by simp [hv, hm]),
           blk_at (pre := root.map u8v ++ [.int .i64 hh] ++ msg.map u8v ++ [.int .i64 si, .slice A1 sc.length c1, .slice A2 sp.length c2, .int .i64 ti]) (post := [.slice A4 tp.length c4]) hb (by simp [in2L]) 37 (by simp [hv, hm]),
           blk_at (pre := root.map u8v ++ [.int .i64 hh] ++ msg.map u8v ++ [.int .i64 si, .slice A1 sc.length c1, .slice A2 sp.length c2, .int .i64 ti, .slice A3 tc.length c3]) (post := []) hb (by simp [in2L]) 38 (by simp [hv, hm])⟩)
      have HSan := hide (fun W (hE : Ext w W) => sanity5_any W (hM.ext hE))
      have HSm1 := hide (fun W (hE : Ext w W) => small_any si sc sp (.agg #[.int .i64 si, .slice A1 sc.length c1, .slice A2 sp.length c2]) W ⟨_, _, rfl, hsc.ext hE, hsp.ext hE⟩)
      have HSm2 := hide (fun W (hE : Ext w W) => small_any ti tc tp (.agg #[.int .i64 ti, .slice A3 tc.length c3, .slice A4 tp.length c4]) W ⟨_, _, rfl, htc.ext hE, htp.ext hE⟩)
      have h2' : smallB tc tp = false := by cases h : smallB tc tp <;> simp_all
      have HS1 := hide h1
      have HS2 := hide h2'
      obtain ⟨P, hP⟩ : ∃ P, (in2L (root.map u8v) hh (msg.map u8v) [.int .i64 si, .slice A1 sc.length c1, .slice A2 sp.length c2] [.int .i64 ti, .slice A3 tc.length c3, .slice A4 tp.length c4]).toArray = P := ⟨_, rfl⟩
      rw [hP]
      have HL := hide (show (root.map u8v).length = 16 ∧ (msg.map u8v).length = 16 from ⟨by simpa using hv, by simpa using hm⟩)
      obtain ⟨sl, hsl⟩ : ∃ x, root.map u8v = x := ⟨_, rfl⟩
      obtain ⟨ml, hml⟩ : ∃ x, msg.map u8v = x := ⟨_, rfl⟩
      have HO := hide (show sl.toArray.all (·.oneCell') = true ∧ ml.toArray.all (·.oneCell') = true from ⟨by rw [← hsl]; exact bytes_one _, by rw [← hml]; exact bytes_one _⟩)
      rw [hsl, hml] at HL
      rw [hP, hsl, hml] at HB
      clear hM hP hv hm hsl hml hsc hsp htc htp h1 h2 h2'
      go_enter Tryd.func10, Tryd.ntmps10
      go_upto_region 1 with fail
      have HP0 := hide (Blk.new w 53 P)
      have HE0 := hide ((Ext.refl w).alloc (.cells P 53))
      generalize w.alloc (.cells P 53) = W0 at *
      go_upto_region 2 with (first
        | (refine wpList_loadMG (by rfl) (ty := 23) (x := .tmp 9) rfl digest_wide rfl (unhide HB _ (unhide HP0)).1 (unhide HL).1 ?_)
        | (refine wpList_storeB (ty := 23) (t := 23) (x := .tmp 3) (y := .tmp 10) rfl rfl digest_wide rfl rfl (Blk.new W0 _ _) rfl (by simpa using (unhide HL).1) (unhide HO).1 ?_; intro w1 hb1 hc1 hz1; have H1 := hide (And.intro (made_ext1 hc1) hb1); clear hb1 hc1 hz1))
      obtain ⟨g3, hg3⟩ : ∃ x, W0.heap.size = x := ⟨_, rfl⟩
      rw [hg3] at H1 ⊢
      clear hg3
      have HC1 := (unhide HB _ ((unhide HP0).ext (unhide H1).1)).2.2
      go_upto_region 4 with (first
        | (refine wpList_loadMG (by rfl) (ty := 23) (x := .tmp 13) rfl digest_wide rfl (unhide HB _ ((unhide HP0).ext (unhide H1).1)).2.1 (unhide HL).2 ?_)
        | (refine wpList_storeB (ty := 23) (t := 23) (x := .tmp 5) (y := .tmp 14) rfl rfl digest_wide rfl rfl (Blk.new w1 _ _) rfl (by simpa using (unhide HL).2) (unhide HO).2 ?_; intro w2 hb2 hc2 hz2; have H2 := hide (show Ext w w2 ∧ Blk w2 g3 23 sl.toArray ∧ Blk w2 w1.heap.size 23 ml.toArray ∧ Blk w2 w.heap.size 53 P from ⟨((unhide HE0).trans (unhide H1).1).trans (made_ext1 hc2), (unhide H1).2.ext (made_ext1 hc2), hb2, (unhide HP0).ext ((unhide H1).1.trans (made_ext1 hc2))⟩); have HC2 := (unhide HB _ (unhide H2).2.2.2).2.2; clear hb2 hc2 hz2))
      obtain ⟨g6, hg6⟩ : ∃ x, w1.heap.size = x := ⟨_, rfl⟩
      rw [hg6] at H2 ⊢
      clear hg6 HC1 H1 HP0 HE0
      obtain ⟨k16, k33, k34, k35, k36, k37, k38⟩ := HC2
      have hlw := (unhide H2).2.2.2.lt
      go_upto_region 6 with fail
      have H3 := hide (show Ext w ((w2.alloc (.cells #[.int .i64 si, .slice A1 sc.length c1, .slice A2 sp.length c2] 47)).alloc (.cells #[.int .i64 ti, .slice A3 tc.length c3, .slice A4 tp.length c4] 47)) ∧ Blk ((w2.alloc (.cells #[.int .i64 si, .slice A1 sc.length c1, .slice A2 sp.length c2] 47)).alloc (.cells #[.int .i64 ti, .slice A3 tc.length c3, .slice A4 tp.length c4] 47)) g3 23 sl.toArray ∧
        Blk ((w2.alloc (.cells #[.int .i64 si, .slice A1 sc.length c1, .slice A2 sp.length c2] 47)).alloc (.cells #[.int .i64 ti, .slice A3 tc.length c3, .slice A4 tp.length c4] 47)) g6 23 ml.toArray ∧ Blk ((w2.alloc (.cells #[.int .i64 si, .slice A1 sc.length c1, .slice A2 sp.length c2] 47)).alloc (.cells #[.int .i64 ti, .slice A3 tc.length c3, .slice A4 tp.length c4] 47)) w2.heap.size 47 #[.int .i64 si, .slice A1 sc.length c1, .slice A2 sp.length c2] ∧
        Blk ((w2.alloc (.cells #[.int .i64 si, .slice A1 sc.length c1, .slice A2 sp.length c2] 47)).alloc (.cells #[.int .i64 ti, .slice A3 tc.length c3, .slice A4 tp.length c4] 47)) (w2.heap.size + 1) 47 #[.int .i64 ti, .slice A3 tc.length c3, .slice A4 tp.length c4] from
        ⟨((unhide H2).1.alloc _).alloc _, ((unhide H2).2.1.alloc _).alloc _, ((unhide H2).2.2.1.alloc _).alloc _, (Blk.new _ _ _).alloc _, Blk.new' _ _ _ (by simp)⟩)
      generalize ((w2.alloc (.cells #[.int .i64 si, .slice A1 sc.length c1, .slice A2 sp.length c2] 47)).alloc (.cells #[.int .i64 ti, .slice A3 tc.length c3, .slice A4 tp.length c4] 47)) = W3 at *
      obtain ⟨gs, hgs⟩ : ∃ x, w2.heap.size = x := ⟨_, rfl⟩
      rw [hgs] at H3 ⊢
      clear hgs k16 k33 k34 k35 k36 k37 k38 H2 HB
      have HT1 := hide True.intro
      go_upto_region 7 with (go_at_call 27; refine (unhide HSan _ (unhide H3).1).mono ?_; rintro e w4 ⟨rfl, hE4⟩; have H4 := hide (show Ext w w4 ∧ Blk w4 g3 23 sl.toArray ∧ Blk w4 g6 23 ml.toArray ∧ Blk w4 gs 47 #[.int .i64 si, .slice A1 sc.length c1, .slice A2 sp.length c2] ∧ Blk w4 (gs + 1) 47 #[.int .i64 ti, .slice A3 tc.length c3, .slice A4 tp.length c4] from ⟨(unhide H3).1.trans hE4, (unhide H3).2.1.ext hE4, (unhide H3).2.2.1.ext hE4, (unhide H3).2.2.2.1.ext hE4, (unhide H3).2.2.2.2.ext hE4⟩); clear hE4)
      clear H3
      obtain ⟨a0, a1, a2, _, _⟩ := (unhide H4).2.2.2.1.cells3
      go_wp2_with (first
        | (go_at_call 33; clear HT1; refine (unhide HSm1 _ (unhide H4).1).mono ?_; rintro e w5 ⟨rfl, hE5⟩; rw [unhide HS1]; have H5 := hide hE5; obtain ⟨b0, b1, b2, _, _⟩ := ((unhide H4).2.2.2.2.ext hE5).cells3; clear hE5)
        | (go_at_call 33; refine (unhide HSm2 _ ((unhide H4).1.trans (unhide H5))).mono ?_; rintro e w6 ⟨rfl, hE6⟩; rw [unhide HS2]; have H6 := hide ((unhide H5).trans hE6); clear hE6))
      go_ret
      exact ⟨rfl, (unhide H4).1.trans (unhide H6)⟩
  · obtain ⟨A1, c1, rfl, _, _⟩ := hsc.form
    obtain ⟨A2, c2, rfl, _, _⟩ := hsp.form
    obtain ⟨A3, c3, rfl, _, _⟩ := htc.form
    obtain ⟨A4, c4, rfl, _, _⟩ := htp.form
    have HB := hide (fun (W : World) (hb : Blk W w.heap.size 53 (in2L (root.map u8v) hh (msg.map u8v) [.int .i64 si, .slice A1 sc.length c1, .slice A2 sp.length c2] [.int .i64 ti, .slice A3 tc.length c3, .slice A4 tp.length c4]).toArray) =>
      show W.rangeAt w.heap.size 0 (root.map u8v) ∧ W.rangeAt w.heap.size 17 (msg.map u8v) ∧ W.cell? ⟨w.heap.size, 16, none⟩ = some (.int .i64 hh) ∧ W.cell? ⟨w.heap.size, 33, none⟩ = some (.int .i64 si) ∧ W.cell? ⟨w.heap.size, 34, none⟩ = some (.slice A1 sc.length c1) ∧ W.cell? ⟨w.heap.size, 35, none⟩ = some (.slice A2 sp.length c2) ∧ W.cell? ⟨w.heap.size, 36, none⟩ = some (.int .i64 ti) ∧ W.cell? ⟨w.heap.size, 37, none⟩ = some (.slice A3 tc.length c3) ∧ W.cell? ⟨w.heap.size, 38, none⟩ = some (.slice A4 tp.length c4) from
        ⟨blk_part (pre := []) hb rfl, by
          have h17 : (root.map u8v ++ [Value.int .i64 hh]).length = 17 := by simp [hv]
          have := blk_part (pre := root.map u8v ++ [Value.int .i64 hh]) (l := msg.map u8v) (post := [.int .i64 si, .slice A1 sc.length c1, .slice A2 sp.length c2] ++ ([.int .i64 ti, .slice A3 tc.length c3, .slice A4 tp.length c4] ++ [])) hb (by simp [in2L])
          rw [h17] at this
          exact this, blk_at (pre := root.map u8v) hb rfl 16 (by simpa using hv),
         blk_at (pre := root.map u8v ++ [.int .i64 hh] ++ msg.map u8v) (post := [.slice A1 sc.length c1, .slice A2 sp.length c2, .int .i64 ti, .slice A3 tc.length c3, .slice A4 tp.length c4]) hb (by simp [in2L]) 33 (by simp [hv, hm]),
         blk_at (pre := root.map u8v ++ [.int .i64 hh] ++ msg.map u8v ++ [.int .i64 si]) (post := [.slice A2 sp.length c2, .int .i64 ti, .slice A3 tc.length c3, .slice A4 tp.length c4]) hb (by simp [in2L]) 34 (by simp [hv, hm]),
         blk_at (pre := root.map u8v ++ [.int .i64 hh] ++ msg.map u8v ++ [.int .i64 si, .slice A1 sc.length c1]) (post := [.int .i64 ti, .slice A3 tc.length c3, .slice A4 tp.length c4]) hb (by simp [in2L]) 35 (by simp [hv, hm]),
         blk_at (pre := root.map u8v ++ [.int .i64 hh] ++ msg.map u8v ++ [.int .i64 si, .slice A1 sc.length c1, .slice A2 sp.length c2]) (post := [.slice A3 tc.length c3, .slice A4 tp.length c4]) hb (by simp [in2L]) 36 (by simp [hv, hm]),
         blk_at (pre := root.map u8v ++ [.int .i64 hh] ++ msg.map u8v ++ [.int .i64 si, .slice A1 sc.length c1, .slice A2 sp.length c2, .int .i64 ti]) (post := [.slice A4 tp.length c4]) hb (by simp [in2L]) 37 (by simp [hv, hm]),
         blk_at (pre := root.map u8v ++ [.int .i64 hh] ++ msg.map u8v ++ [.int .i64 si, .slice A1 sc.length c1, .slice A2 sp.length c2, .int .i64 ti, .slice A3 tc.length c3]) (post := []) hb (by simp [in2L]) 38 (by simp [hv, hm])⟩)
    have HSan := hide (fun W (hE : Ext w W) => sanity5_any W (hM.ext hE))
    have HSm1 := hide (fun W (hE : Ext w W) => small_any si sc sp (.agg #[.int .i64 si, .slice A1 sc.length c1, .slice A2 sp.length c2]) W ⟨_, _, rfl, hsc.ext hE, hsp.ext hE⟩)
    have HSm2 := hide (fun W (hE : Ext w W) => small_any ti tc tp (.agg #[.int .i64 ti, .slice A3 tc.length c3, .slice A4 tp.length c4]) W ⟨_, _, rfl, htc.ext hE, htp.ext hE⟩)
    have h1' : smallB sc sp = false := by cases h : smallB sc sp <;> simp_all
    have HS1 := hide h1'
    obtain ⟨P, hP⟩ : ∃ P, (in2L (root.map u8v) hh (msg.map u8v) [.int .i64 si, .slice A1 sc.length c1, .slice A2 sp.length c2] [.int .i64 ti, .slice A3 tc.length c3, .slice A4 tp.length c4]).toArray = P := ⟨_, rfl⟩
    rw [hP]
    have HL := hide (show (root.map u8v).length = 16 ∧ (msg.map u8v).length = 16 from ⟨by simpa using hv, by simpa using hm⟩)
    obtain ⟨sl, hsl⟩ : ∃ x, root.map u8v = x := ⟨_, rfl⟩
    obtain ⟨ml, hml⟩ : ∃ x, msg.map u8v = x := ⟨_, rfl⟩
    have HO := hide (show sl.toArray.all (·.oneCell') = true ∧ ml.toArray.all (·.oneCell') = true from ⟨by rw [← hsl]; exact bytes_one _, by rw [← hml]; exact bytes_one _⟩)
    rw [hsl, hml] at HL
    rw [hP, hsl, hml] at HB
    clear hM hP hv hm hsl hml hsc hsp htc htp h1 h1'
    go_enter Tryd.func10, Tryd.ntmps10
    go_upto_region 1 with fail
    have HP0 := hide (Blk.new w 53 P)
    have HE0 := hide ((Ext.refl w).alloc (.cells P 53))
    generalize w.alloc (.cells P 53) = W0 at *
    go_upto_region 2 with (first
      | (refine wpList_loadMG (by rfl) (ty := 23) (x := .tmp 9) rfl digest_wide rfl (unhide HB _ (unhide HP0)).1 (unhide HL).1 ?_)
      | (refine wpList_storeB (ty := 23) (t := 23) (x := .tmp 3) (y := .tmp 10) rfl rfl digest_wide rfl rfl (Blk.new W0 _ _) rfl (by simpa using (unhide HL).1) (unhide HO).1 ?_; intro w1 hb1 hc1 hz1; have H1 := hide (And.intro (made_ext1 hc1) hb1); clear hb1 hc1 hz1))
    obtain ⟨g3, hg3⟩ : ∃ x, W0.heap.size = x := ⟨_, rfl⟩
    rw [hg3] at H1 ⊢
    clear hg3
    have HC1 := (unhide HB _ ((unhide HP0).ext (unhide H1).1)).2.2
    go_upto_region 4 with (first
      | (refine wpList_loadMG (by rfl) (ty := 23) (x := .tmp 13) rfl digest_wide rfl (unhide HB _ ((unhide HP0).ext (unhide H1).1)).2.1 (unhide HL).2 ?_)
      | (refine wpList_storeB (ty := 23) (t := 23) (x := .tmp 5) (y := .tmp 14) rfl rfl digest_wide rfl rfl (Blk.new w1 _ _) rfl (by simpa using (unhide HL).2) (unhide HO).2 ?_; intro w2 hb2 hc2 hz2; have H2 := hide (show Ext w w2 ∧ Blk w2 g3 23 sl.toArray ∧ Blk w2 w1.heap.size 23 ml.toArray ∧ Blk w2 w.heap.size 53 P from ⟨((unhide HE0).trans (unhide H1).1).trans (made_ext1 hc2), (unhide H1).2.ext (made_ext1 hc2), hb2, (unhide HP0).ext ((unhide H1).1.trans (made_ext1 hc2))⟩); have HC2 := (unhide HB _ (unhide H2).2.2.2).2.2; clear hb2 hc2 hz2))
    obtain ⟨g6, hg6⟩ : ∃ x, w1.heap.size = x := ⟨_, rfl⟩
    rw [hg6] at H2 ⊢
    clear hg6 HC1 H1 HP0 HE0
    obtain ⟨k16, k33, k34, k35, k36, k37, k38⟩ := HC2
    have hlw := (unhide H2).2.2.2.lt
    go_upto_region 6 with fail
    have H3 := hide (show Ext w ((w2.alloc (.cells #[.int .i64 si, .slice A1 sc.length c1, .slice A2 sp.length c2] 47)).alloc (.cells #[.int .i64 ti, .slice A3 tc.length c3, .slice A4 tp.length c4] 47)) ∧ Blk ((w2.alloc (.cells #[.int .i64 si, .slice A1 sc.length c1, .slice A2 sp.length c2] 47)).alloc (.cells #[.int .i64 ti, .slice A3 tc.length c3, .slice A4 tp.length c4] 47)) g3 23 sl.toArray ∧
      Blk ((w2.alloc (.cells #[.int .i64 si, .slice A1 sc.length c1, .slice A2 sp.length c2] 47)).alloc (.cells #[.int .i64 ti, .slice A3 tc.length c3, .slice A4 tp.length c4] 47)) g6 23 ml.toArray ∧ Blk ((w2.alloc (.cells #[.int .i64 si, .slice A1 sc.length c1, .slice A2 sp.length c2] 47)).alloc (.cells #[.int .i64 ti, .slice A3 tc.length c3, .slice A4 tp.length c4] 47)) w2.heap.size 47 #[.int .i64 si, .slice A1 sc.length c1, .slice A2 sp.length c2] ∧
      Blk ((w2.alloc (.cells #[.int .i64 si, .slice A1 sc.length c1, .slice A2 sp.length c2] 47)).alloc (.cells #[.int .i64 ti, .slice A3 tc.length c3, .slice A4 tp.length c4] 47)) (w2.heap.size + 1) 47 #[.int .i64 ti, .slice A3 tc.length c3, .slice A4 tp.length c4] from
      ⟨((unhide H2).1.alloc _).alloc _, ((unhide H2).2.1.alloc _).alloc _, ((unhide H2).2.2.1.alloc _).alloc _, (Blk.new _ _ _).alloc _, Blk.new' _ _ _ (by simp)⟩)
    generalize ((w2.alloc (.cells #[.int .i64 si, .slice A1 sc.length c1, .slice A2 sp.length c2] 47)).alloc (.cells #[.int .i64 ti, .slice A3 tc.length c3, .slice A4 tp.length c4] 47)) = W3 at *
    obtain ⟨gs, hgs⟩ : ∃ x, w2.heap.size = x := ⟨_, rfl⟩
    rw [hgs] at H3 ⊢
    clear hgs k16 k33 k34 k35 k36 k37 k38 H2 HB
    have HT1 := hide True.intro
    go_upto_region 7 with (go_at_call 27; refine (unhide HSan _ (unhide H3).1).mono ?_; rintro e w4 ⟨rfl, hE4⟩; have H4 := hide (show Ext w w4 ∧ Blk w4 g3 23 sl.toArray ∧ Blk w4 g6 23 ml.toArray ∧ Blk w4 gs 47 #[.int .i64 si, .slice A1 sc.length c1, .slice A2 sp.length c2] ∧ Blk w4 (gs + 1) 47 #[.int .i64 ti, .slice A3 tc.length c3, .slice A4 tp.length c4] from ⟨(unhide H3).1.trans hE4, (unhide H3).2.1.ext hE4, (unhide H3).2.2.1.ext hE4, (unhide H3).2.2.2.1.ext hE4, (unhide H3).2.2.2.2.ext hE4⟩); clear hE4)
    clear H3
    obtain ⟨a0, a1, a2, _, _⟩ := (unhide H4).2.2.2.1.cells3
    go_wp2_with (first
      | (go_at_call 33; clear HT1; refine (unhide HSm1 _ (unhide H4).1).mono ?_; rintro e w5 ⟨rfl, hE5⟩; rw [unhide HS1]; have H5 := hide hE5; clear hE5))
    go_ret
    exact ⟨rfl, (unhide H4).1.trans (unhide H5)⟩

end Go.Proofs.YtjemfefkgfoikaaDoor
