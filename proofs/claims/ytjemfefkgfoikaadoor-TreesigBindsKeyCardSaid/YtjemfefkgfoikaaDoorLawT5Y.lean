/-
  The law TreesigBindsKey where the signature verifies.
-/
import Derived.Test.YtjemfefkgfoikaaDoorLawT5
namespace Go.Proofs.YtjemfefkgfoikaaDoor
open Go.RowKit

theorem up_step (d : List UInt8) (i : Nat) (ps : List (List UInt8)) (m : Nat) (hm : m < ps.length) : upS d i (ps.drop m) = upS (if i % 2 = 0 then nodeS d ps[m] else nodeS ps[m] d) (i / 2) (ps.drop (m + 1)) := by
  rw [List.drop_eq_getElem_cons hm, upS]
/-- What the loop leans on. -/
structure UK (w : World) (g3 g10 gs : Nat) (ra sg : Array Value) (sp : List (List UInt8)) (pv : Value) (d : List UInt8) (W : World) : Prop where
  ext : Ext w W
  root : Blk W g3 23 ra
  sig : Blk W gs 47 sg
  path : Digs W pv sp
  cell : Blk W g10 23 (d.map u8v).toArray
  lt : w.heap.size ≤ g10 ∧ g3 < g10 ∧ gs < g10 ∧ (0 < sp.length → ∀ k, pv.ownBlock = some k → k < g10)
theorem UK.to {w : World} {g3 g10 gs : Nat} {ra sg : Array Value} {sp : List (List UInt8)} {pv : Value} {d : List UInt8} {W W' : World} (h : UK w g3 g10 gs ra sg sp pv d W) (hE : Ext W W') : UK w g3 g10 gs ra sg sp pv d W' :=
  ⟨h.ext.trans hE, h.root.ext hE, h.sig.ext hE, h.path.ext hE, h.cell.ext hE, h.lt⟩
theorem UK.store {w : World} {g3 g10 gs : Nat} {ra sg : Array Value} {sp : List (List UInt8)} {pv : Value} {d d' : List UInt8} {W W' : World} (h : UK w g3 g10 gs ra sg sp pv d W) (hc : Chg (fun k => k = g10) W W') (hb : Blk W' g10 23 (d'.map u8v).toArray) : UK w g3 g10 gs ra sg sp pv d' W' := by
  obtain ⟨l1, l2, l3, l4⟩ := h.lt
  exact ⟨h.ext.trans' hc (fun _ _ h => h) (fun i hi e => by omega), h.root.chg hc (by omega), h.sig.chg hc (by omega), ⟨h.path.1, h.path.2.chg hc (fun k hp hk e => by have := l4 hp k hk; omega)⟩, hb, h.lt⟩

set_option maxRecDepth 100000 in
set_option maxHeartbeats 16000000 in
theorem lawT5_yes (root msg : List UInt8) (k j : Nat) (scv spv : Value) (sc sp : List (List UInt8)) (w : World) (hM : ShaMem w) (hv : root.length = 16) (hm : msg.length = 16) (hsc : Digs w scv sc) (hsp : Digs w spv sp) (h1 : smallB sc sp = true) (hk4 : k ≤ 4) (hj : j < 2 ^ k) (hcl : sc.length = 68)
    (hver : verifyS root (2 ^ k) j (recoverS msg (chainAt sc)) sp = true)
    (hV : ∀ W, Ext w W → Calls Tryd.prog 34 #[.agg (root.map u8v).toArray, .int .i64 (k : Int), .agg (msg.map u8v).toArray, .agg #[.int .i64 (j : Int), scv, spv]] W fun e w' => e = .returned (.bool true) ∧ Ext W w') :
    Calls Tryd.prog 13 #[.agg (in5L (root.map u8v) (k : Int) (msg.map u8v) [.int .i64 (j : Int), scv, spv]).toArray] w fun e w' => e = .returned (.bool true) ∧ Ext w w' := by
  obtain ⟨hpl, hup⟩ := verify_up root k j _ sp hk4 hj hver
  have hj16 : j < 16 := Nat.lt_of_lt_of_le hj (pow_le16 k k (Nat.le_refl _) hk4)
  obtain ⟨hh, hhe⟩ : ∃ hh : Int, hh = (k : Int) := ⟨_, rfl⟩
  obtain ⟨si, hsi⟩ : ∃ si : Int, si = (j : Int) := ⟨_, rfl⟩
  rw [← hhe, ← hsi] at hV ⊢
  have hspL := hsp.own_lt
  have hRc := fun W (hE : Ext w W) => recover_yes msg sc scv W (hM.ext hE) hm hcl (hsc.ext hE)
  have hkl : (recoverS msg (chainAt sc)).length = 16 := digestS_length _ _
  obtain ⟨A1, c1, rfl, _, _⟩ := hsc.form
  obtain ⟨A2, c2, rfl, _, _⟩ := hsp.form
  have HB := hide (fun (W : World) (hb : Blk W w.heap.size 65 (in5L (root.map u8v) hh (msg.map u8v) [.int .i64 si, .slice A1 sc.length c1, .slice A2 sp.length c2]).toArray) =>
    show W.rangeAt w.heap.size 0 (root.map u8v) ∧ W.rangeAt w.heap.size 17 (msg.map u8v) ∧ W.cell? ⟨w.heap.size, 16, none⟩ = some (.int .i64 hh) ∧ W.cell? ⟨w.heap.size, 33, none⟩ = some (.int .i64 si) ∧ W.cell? ⟨w.heap.size, 34, none⟩ = some (.slice A1 sc.length c1) ∧ W.cell? ⟨w.heap.size, 35, none⟩ = some (.slice A2 sp.length c2) from
      ⟨blk_part (pre := []) hb rfl, by
        have h17 : (root.map u8v ++ [Value.int .i64 hh]).length = 17 := by simp [hv]
        have := blk_part (pre := root.map u8v ++ [Value.int .i64 hh]) (l := msg.map u8v) (post := [.int .i64 si, .slice A1 sc.length c1, .slice A2 sp.length c2] ++ []) hb (by simp [in5L])
        rw [h17] at this
        exact this, blk_at (pre := root.map u8v) hb rfl 16 (by simpa using hv),
       blk_at (pre := root.map u8v ++ [.int .i64 hh] ++ msg.map u8v) (post := [.slice A1 sc.length c1, .slice A2 sp.length c2]) hb (by simp [in5L]) 33 (by simp [hv, hm]),
       blk_at (pre := root.map u8v ++ [.int .i64 hh] ++ msg.map u8v ++ [.int .i64 si]) (post := [.slice A2 sp.length c2]) hb (by simp [in5L]) 34 (by simp [hv, hm]),
       blk_at (pre := root.map u8v ++ [.int .i64 hh] ++ msg.map u8v ++ [.int .i64 si, .slice A1 sc.length c1]) (post := []) hb (by simp [in5L]) 35 (by simp [hv, hm])⟩)
  have HSan := hide (fun W (hE : Ext w W) => sanity5_any W (hM.ext hE))
  have HSm1 := hide (fun W (hE : Ext w W) => small_any si sc sp (.agg #[.int .i64 si, .slice A1 sc.length c1, .slice A2 sp.length c2]) W ⟨_, _, rfl, hsc.ext hE, hsp.ext hE⟩)
  have HS1 := hide h1
  have HV := hide hV
  have HPD := hide (fun W (hE : Ext w W) => hsp.ext hE)
  have HPO := hide hspL
  obtain ⟨key, hkey⟩ : ∃ x, recoverS msg (chainAt sc) = x := ⟨_, rfl⟩
  rw [hkey] at hkl hup
  simp only [hkey] at hRc
  have HLf := hide (fun (W : World) (g : Nat) (pv : Value) (h1 : Reads W 1 pv 1 [.slice (some ⟨g, 0, none⟩) 16 16]) (h3 : Blk W g 23 (key.map u8v).toArray) => rdigest_any 1 [key] pv W (Parts.one h1 (h3.digR hkl)) (by simp) (fun p hp => by simp at hp; subst hp; omega))
  have HND := hide (fun (W : World) (ga gb : Nat) (pv : Value) (ab : {ab : List UInt8 × List UInt8 // ab.1.length = 16 ∧ ab.2.length = 16}) (h1 : Reads W 1 pv 2 [.slice (some ⟨ga, 0, none⟩) 16 16, .slice (some ⟨gb, 0, none⟩) 16 16]) (h3 : Blk W ga 23 (ab.1.1.map u8v).toArray) (h4 : Blk W gb 23 (ab.1.2.map u8v).toArray) => show Calls Tryd.prog 38 #[.int .i64 2, pv] W fun e w' => e = .returned (.agg ((nodeS ab.1.1 ab.1.2).map u8v).toArray) ∧ Ext W w' from
    rdigest_any 2 [ab.1.1, ab.1.2] pv W (Parts.two h1 (h3.digR ab.2.1) (h4.digR ab.2.2)) (by simp) (fun p hp => by have := ab.2; simp at hp; rcases hp with rfl | rfl <;> omega))
  have HLE := hide (show digestS 1 [key] = leafS key ∧ (leafS key).length = 16 from ⟨rfl, leafS_length _⟩)
  obtain ⟨lf, hlf⟩ : ∃ x, leafS key = x := ⟨_, rfl⟩
  rw [hlf] at HLE hup
  have HUP := hide hup
  have HRL := hide hv
  have HMS := hide (show ((root.map u8v).toArray.size = 16) from by simpa using hv)
  obtain ⟨P, hP⟩ : ∃ P, (in5L (root.map u8v) hh (msg.map u8v) [.int .i64 si, .slice A1 sc.length c1, .slice A2 sp.length c2]).toArray = P := ⟨_, rfl⟩
  rw [hP]
  have HL := hide (show (root.map u8v).length = 16 ∧ (msg.map u8v).length = 16 from ⟨by simpa using hv, by simpa using hm⟩)
  obtain ⟨sl, hsl⟩ : ∃ x, root.map u8v = x := ⟨_, rfl⟩
  obtain ⟨ml, hml⟩ : ∃ x, msg.map u8v = x := ⟨_, rfl⟩
  have HO := hide (show sl.toArray.all (·.oneCell') = true ∧ ml.toArray.all (·.oneCell') = true from ⟨by rw [← hsl]; exact bytes_one _, by rw [← hml]; exact bytes_one _⟩)
  rw [hsl, hml] at HL
  rw [hP, hsl, hml] at HB
  rw [hsl, hml] at HV
  simp only [hml] at hRc
  have HRc := hide hRc
  have HSL := hide hsl
  obtain ⟨ka, hka⟩ : ∃ x, (key.map u8v).toArray = x := ⟨_, rfl⟩
  have HKA := hide (show ka.size = 16 ∧ ka.all (·.oneCell') = true from by rw [← hka]; exact ⟨by simpa using hkl, bytes_one _⟩)
  simp only [hka] at HRc HLf
  have HC68 := hide hcl
  have HPK := hide hpl
  have hsp4 : sp.length ≤ 4 := by omega
  have hpI : (sp.length : Int) = hh := by omega
  have hh0 : ¬ hh < 0 := by omega
  have hh4 : ¬ 4 < hh := by omega
  have HJ := hide hj
  have HSI := hide hsi
  clear hM hP hv hm hsl hml hsc hsp h1 hV hkl hkey hlf hka hup hver hRc hspL hpl hj hhe hsi hcl
  go_enter Tryd.func13, Tryd.ntmps13
  go_upto_region 1 with fail
  have HP0 := hide (Blk.new w 65 P)
  have HE0 := hide ((Ext.refl w).alloc (.cells P 65))
  generalize w.alloc (.cells P 65) = W0 at *
  go_upto_region 2 with (first
    | (refine wpList_loadMG (by rfl) (ty := 23) (x := .tmp 14) rfl digest_wide rfl (unhide HB _ (unhide HP0)).1 (unhide HL).1 ?_)
    | (refine wpList_storeB (ty := 23) (t := 23) (x := .tmp 3) (y := .tmp 15) rfl rfl digest_wide rfl rfl (Blk.new W0 _ _) rfl (by simpa using (unhide HL).1) (unhide HO).1 ?_; intro w1 hb1 hc1 hz1; have H1 := hide (And.intro (made_ext1 hc1) hb1); clear hb1 hc1 hz1))
  obtain ⟨g3, hg3⟩ : ∃ x, W0.heap.size = x := ⟨_, rfl⟩
  rw [hg3] at H1 ⊢
  clear hg3
  have HC1 := (unhide HB _ ((unhide HP0).ext (unhide H1).1)).2.2
  go_upto_region 4 with (first
    | (refine wpList_loadMG (by rfl) (ty := 23) (x := .tmp 18) rfl digest_wide rfl (unhide HB _ ((unhide HP0).ext (unhide H1).1)).2.1 (unhide HL).2 ?_)
    | (refine wpList_storeB (ty := 23) (t := 23) (x := .tmp 5) (y := .tmp 19) rfl rfl digest_wide rfl rfl (Blk.new w1 _ _) rfl (by simpa using (unhide HL).2) (unhide HO).2 ?_; intro w2 hb2 hc2 hz2; have H2 := hide (show Ext w w2 ∧ Blk w2 g3 23 sl.toArray ∧ Blk w2 w1.heap.size 23 ml.toArray ∧ Blk w2 w.heap.size 65 P from ⟨((unhide HE0).trans (unhide H1).1).trans (made_ext1 hc2), (unhide H1).2.ext (made_ext1 hc2), hb2, (unhide HP0).ext ((unhide H1).1.trans (made_ext1 hc2))⟩); have HC2 := (unhide HB _ (unhide H2).2.2.2).2.2; clear hb2 hc2 hz2))
  obtain ⟨g6, hg6⟩ : ∃ x, w1.heap.size = x := ⟨_, rfl⟩
  rw [hg6] at H2 ⊢
  clear hg6 HC1 H1 HP0 HE0
  obtain ⟨k16, k33, k34, k35⟩ := HC2
  have hlw := (unhide H2).2.2.2.lt
  go_upto_region 5 with fail
  have H3 := hide (show Ext w (w2.alloc (.cells #[.int .i64 si, .slice A1 sc.length c1, .slice A2 sp.length c2] 47)) ∧ Blk (w2.alloc (.cells #[.int .i64 si, .slice A1 sc.length c1, .slice A2 sp.length c2] 47)) g3 23 sl.toArray ∧
    Blk (w2.alloc (.cells #[.int .i64 si, .slice A1 sc.length c1, .slice A2 sp.length c2] 47)) g6 23 ml.toArray ∧ Blk (w2.alloc (.cells #[.int .i64 si, .slice A1 sc.length c1, .slice A2 sp.length c2] 47)) w2.heap.size 47 #[.int .i64 si, .slice A1 sc.length c1, .slice A2 sp.length c2] from
    ⟨(unhide H2).1.alloc _, (unhide H2).2.1.alloc _, (unhide H2).2.2.1.alloc _, Blk.new _ _ _⟩)
  generalize (w2.alloc (.cells #[.int .i64 si, .slice A1 sc.length c1, .slice A2 sp.length c2] 47)) = W3 at *
  obtain ⟨gs, hgs⟩ : ∃ x, w2.heap.size = x := ⟨_, rfl⟩
  rw [hgs] at H3 ⊢
  clear hgs k16 k33 k34 k35 H2 HB hlw
  go_upto_region 6 with (go_at_call 27; refine (unhide HSan _ (unhide H3).1).mono ?_; rintro e w4 ⟨rfl, hE4⟩; have H4 := hide (show T5 w g3 g6 gs sl.toArray ml.toArray #[.int .i64 si, .slice A1 sc.length c1, .slice A2 sp.length c2] w4 from ⟨(unhide H3).1.trans hE4, (unhide H3).2.1.ext hE4, (unhide H3).2.2.1.ext hE4, (unhide H3).2.2.2.ext hE4⟩); clear hE4)
  clear H3
  obtain ⟨a0, a1, a2, _, _⟩ := (unhide H4).2.2.2.cells3
  go_upto_region 8 with (first
    | (go_at_call 33; refine (unhide HSm1 _ (unhide H4).1).mono ?_; rintro e w5 ⟨rfl, hE5⟩; rw [unhide HS1]; have H5 := hide ((unhide H4).to hE5); obtain ⟨b0, b1, b2, _, _⟩ := (unhide H5).2.2.2.cells3; clear hE5)
    | (refine wpList_loadBG (by rfl) (ty := 23) (x := .tmp 3) rfl digest_wide rfl (unhide H5).2.1 (by simpa using (unhide HL).1) ?_)
    | (refine wpList_loadBG (by rfl) (ty := 23) (x := .tmp 5) rfl digest_wide rfl (unhide H5).2.2.1 (by simpa using (unhide HL).2) ?_)
    | (go_at_call 34; refine (unhide HV _ (unhide H5).1).mono ?_; rintro e w6 ⟨rfl, hE6⟩; have H6 := hide ((unhide H5).to hE6); obtain ⟨d0, d1, d2, _, _⟩ := (unhide H6).2.2.2.cells3; clear hE6))
  clear a0 a1 a2 b0 b1 b2 H4 H5
  go_upto_region 11 with (first
    | (refine wpList_loadB (ty := 23) (t := 23) (x := .tmp 5) rfl rfl digest_wide rfl (cs := ml.toArray) (unhide H6).2.2.1 (by simpa using (unhide HL).2) ?_)
    | (go_at_call 18; refine (unhide HRc _ (unhide H6).1).mono ?_; rintro e w7 ⟨rfl, hE7⟩; have H7 := hide ((unhide H6).to hE7); clear hE7)
    | (refine wpList_storeB (ty := 23) (t := 23) (x := .tmp 8) (y := .tmp 40) rfl rfl digest_wide rfl rfl (Blk.new w7 _ _) rfl (unhide HKA).1 (unhide HKA).2 ?_; intro w8 hb8 hc8 hz8; have H8 := hide (And.intro hb8 ((unhide H7).to (made_ext1 hc8))); obtain ⟨e0, e1, e2, _, _⟩ := (unhide H8).2.2.2.2.cells3; clear hb8 hc8 hz8))
  obtain ⟨g8, hg8⟩ : ∃ x, w7.heap.size = x := ⟨_, rfl⟩
  rw [hg8] at H8 ⊢
  clear hg8 d0 d1 d2 H6 H7
  go_upto_region 12 with (first
    | (go_at_call 38; refine (unhide HLf _ g8 _ (Reads.new1' _ _ _ (g := w8.heap.size) (by simp)) ((unhide H8).1.alloc _)).mono ?_; rintro e w9 ⟨rfl, hE9⟩; rw [(unhide HLE).1]; have H9 := hide ((unhide H8).2.to (((Ext.refl w8).alloc _).trans hE9)); clear hE9)
    | (refine wpList_storeB (ty := 23) (t := 23) (x := .tmp 10) (y := .tmp 61) rfl rfl digest_wide rfl rfl (Blk.new w9 _ _) rfl (by simpa using (unhide HLE).2) (bytes_one _) ?_; intro w10 hb10 hc10 hz10; have H10 := hide (show UK w g3 w9.heap.size gs sl.toArray #[.int .i64 si, .slice A1 sc.length c1, .slice A2 sp.length c2] sp (.slice A2 sp.length c2) lf w10 from
        ⟨((unhide H9).to (made_ext1 hc10)).1, ((unhide H9).to (made_ext1 hc10)).2.1, ((unhide H9).to (made_ext1 hc10)).2.2.2, unhide HPD _ ((unhide H9).to (made_ext1 hc10)).1, hb10, ⟨(unhide H9).1.size', (unhide H9).2.1.lt, (unhide H9).2.2.2.lt, fun hp k hk => by have := unhide HPO hp k hk; have := (unhide H9).1.size'; omega⟩⟩); obtain ⟨f0, f1, f2, _, _⟩ := (unhide H10).sig.cells3; clear hb10 hc10 hz10))
  obtain ⟨g10, hg10⟩ : ∃ x, w9.heap.size = x := ⟨_, rfl⟩
  rw [hg10] at H10 ⊢
  clear hg10 e0 e1 e2 H8 H9
  go_wp2_with fail
  go_loopw [11, 12] (fun x y wr => ∃ (q m : Nat) (d : List UInt8), x = .int .i64 q ∧ y = .int .i64 m ∧ m ≤ sp.length ∧ q < 16 ∧ Hid (d.length = 16 ∧ (q = j / 2 ^ m ∧ upS d q (sp.drop m) = root) ∧ UK w g3 g10 gs sl.toArray #[.int .i64 si, .slice A1 sc.length c1, .slice A2 sp.length c2] sp (.slice A2 sp.length c2) d wr)) (fun _ y _ => sp.length - (intOf y).toNat)
  case atStart => exact ⟨j, 0, lf, int_eq (unhide HSI), rfl, by omega, hj16, hide ⟨(unhide HLE).2, ⟨by simp, by rw [List.drop_zero]; exact unhide HUP⟩, unhide H10⟩⟩
  case round =>
    obtain ⟨q, m, d, rfl, rfl, hmle, hq16, HI⟩ := hrel
    obtain ⟨p0, p1, p2, _, _⟩ := (unhide HI).2.2.sig.cells3
    by_cases hlt : m < sp.length
    · obtain ⟨b, o, c', hvv, _, _, hbl, hR⟩ := (unhide HI).2.2.path.at (k := m) hlt
      cases hvv
      have hp16 := (unhide HI).2.2.path.1.get hlt
      have hst := up_step d q sp m hlt
      obtain ⟨p, hp⟩ : ∃ p, sp[m] = p := ⟨_, rfl⟩
      rw [hp] at hp16 hR hst
      have HST := hide hst
      have HR2 := hide (show (p.map u8v).length = 16 ∧ wr.rangeAt b (o + m * 16) (p.map u8v) from ⟨by simpa using hp16, hR⟩)
      have HP16 := hide hp16
      clear hp hst hR hp16
      have hltI : (m : Int) < (sp.length : Int) := by omega
      by_cases hq2 : q % 2 = 0
      · have hqI : (q : Int) % 2 = 0 := by omega
        have HE2 := hide (show upS (nodeS d p) (q / 2) (sp.drop (m + 1)) = root from by have := unhide HST; rw [if_pos hq2] at this; rw [← this]; exact (unhide HI).2.1.2)
        have HND2 := hide (fun W ga gb pv h1 h3 h4 => unhide HND W ga gb pv ⟨(d, p), (unhide HI).1, unhide HP16⟩ h1 h3 h4)
        clear HST hq2
        go_upto_region 18 with (first
          | (refine wpList_loadMG (by rfl) (ty := 23) (x := .tmp 74) rfl digest_wide rfl (unhide HR2).2 (unhide HR2).1 ?_)
          | (refine wpList_storeB (ty := 23) (t := 23) (x := .tmp 13) (y := .tmp 75) rfl rfl digest_wide rfl rfl (Blk.new wr _ _) rfl (by simpa using (unhide HR2).1) (bytes_one _) ?_; intro w8 hb8 hc8 hz8; have H8 := hide (And.intro hb8 ((unhide HI).2.2.to (made_ext1 hc8))); clear hb8 hc8 hz8))
        obtain ⟨g13, hg13⟩ : ∃ x, wr.heap.size = x := ⟨_, rfl⟩
        rw [hg13] at H8 ⊢
        clear hg13
        refine wp_region_held_drew (S := fun _ => True) (by kernel_rfl) trivial (fun hHeld => ?_)
        refine wpAnyH_take (i := 0) (oi := _) (v := ?_) rfl (by kernel_rfl) (by kernel_rfl) (by kernel_rfl) (fun _ _ _ h => h) (Or.inl ⟨by rfl, fun wz hSz => ?_⟩) (by assumption) ?_
        rotate_left
        · (first | (go_simp; done) | (go_simp; with_reducible rfl))
        try simp only [Act.put, List.setIfInBounds_toArray, List.set_cons_zero, List.set_cons_succ, List.getElem_toArray, List.getElem_cons_succ, List.getElem_cons_zero]
        refine wpAnyH_take (i := 1) (oi := _) (v := ?_) rfl (by kernel_rfl) (by kernel_rfl) (by kernel_rfl) (fun _ _ _ h => h) (Or.inl ⟨by rfl, fun wz hSz => ?_⟩) (by assumption) ?_
        rotate_left
        · (first | (go_simp; done) | (go_simp; with_reducible rfl))
        try simp only [Act.put, List.setIfInBounds_toArray, List.set_cons_zero, List.set_cons_succ, List.getElem_toArray, List.getElem_cons_succ, List.getElem_cons_zero]
        refine wpAnyH_ready (rs := [2]) (by kernel_rfl) (by simp) (AllReadyH.cons (o := _) rfl (fun K hK => ?_) AllReadyH.nil)
        try go_simp
        (have hS : True := trivial; clear hHeld)
        refine hK.out _ _ ?_ (fun hHeld => ?_)
        · exact hS
        clear hK K
        try simp only [Act.put, List.setIfInBounds_toArray, List.set_cons_zero, List.set_cons_succ, List.getElem_toArray, List.getElem_cons_succ, List.getElem_cons_zero]
        refine wpAnyH_ready (rs := [3]) (by kernel_rfl) (by simp) (AllReadyH.cons (o := _) rfl (fun K hK => ?_) AllReadyH.nil)
        try go_simp
        (refine (unhide HND2 _ _ _ _ ((Reads.new2 _ _ _ _ (g := w8.heap.size) (by simp)).ext (Ext.refl _).drew) ((unhide H8).2.cell.alloc _).drew ((unhide H8).1.alloc _).drew).mono ?_; rintro e w9 ⟨rfl, hE9⟩; have H9 := hide (((unhide H8).2.to ((Ext.refl w8).alloc _).drew).to hE9); have hS : True := trivial; clear hHeld hE9)
        refine hK.out _ _ ?_ (fun hHeld => ?_)
        · exact hS
        clear hK K
        try simp only [Act.put, List.setIfInBounds_toArray, List.set_cons_zero, List.set_cons_succ, List.getElem_toArray, List.getElem_cons_succ, List.getElem_cons_zero]
        refine wpAnyH_ready (rs := [4]) (by kernel_rfl) (by simp) (AllReadyH.cons (o := _) rfl (fun K hK => ?_) AllReadyH.nil)
        (refine step_storeB (ty := 23) (t := 23) (x := .tmp 10) (y := .tmp 82) rfl rfl digest_wide rfl rfl (unhide H9).cell (by simpa using (unhide HI).1) (by simpa using nodeS_length _ _) (bytes_one _) ?_; intro w10 hb10 hc10 hz10; have H10 := hide ((unhide H9).store hc10 hb10); have hS : True := trivial; clear hHeld hb10 hc10 hz10)
        refine hK.out _ _ ?_ (fun hHeld => ?_)
        · exact hS
        clear hK K
        try simp only [Act.put, List.setIfInBounds_toArray, List.set_cons_zero, List.set_cons_succ, List.getElem_toArray, List.getElem_cons_succ, List.getElem_cons_zero]
        refine wpAnyH_done (by kernel_rfl) ?_ _
        obtain ⟨q0, q1, q2, _, _⟩ := (unhide H10).sig.cells3
        go_wp2
        go_roundw
        case rel => exact ⟨q / 2, m + 1, _, int_eq (by omega), by go_num, by omega, by omega, hide ⟨nodeS_length _ _, ⟨by rw [(unhide HI).2.1.1, Nat.div_div_eq_div_mul, Nat.pow_succ], (unhide HE2)⟩, unhide H10⟩⟩
        case measure => simp [intOf]; omega
      · have hqI : ¬ (q : Int) % 2 = 0 := by omega
        have HE2 := hide (show upS (nodeS p d) (q / 2) (sp.drop (m + 1)) = root from by have := unhide HST; rw [if_neg hq2] at this; rw [← this]; exact (unhide HI).2.1.2)
        have HND2 := hide (fun W ga gb pv h1 h3 h4 => unhide HND W ga gb pv ⟨(p, d), unhide HP16, (unhide HI).1⟩ h1 h3 h4)
        clear HST hq2
        go_upto_region 19 with (first
          | (refine wpList_loadMG (by rfl) (ty := 23) (x := .tmp 74) rfl digest_wide rfl (unhide HR2).2 (unhide HR2).1 ?_)
          | (refine wpList_storeB (ty := 23) (t := 23) (x := .tmp 13) (y := .tmp 75) rfl rfl digest_wide rfl rfl (Blk.new wr _ _) rfl (by simpa using (unhide HR2).1) (bytes_one _) ?_; intro w8 hb8 hc8 hz8; have H8 := hide (And.intro hb8 ((unhide HI).2.2.to (made_ext1 hc8))); clear hb8 hc8 hz8))
        obtain ⟨g13, hg13⟩ : ∃ x, wr.heap.size = x := ⟨_, rfl⟩
        rw [hg13] at H8 ⊢
        clear hg13
        refine wp_region_held_drew (S := fun _ => True) (by kernel_rfl) trivial (fun hHeld => ?_)
        refine wpAnyH_take (i := 0) (oi := _) (v := ?_) rfl (by kernel_rfl) (by kernel_rfl) (by kernel_rfl) (fun _ _ _ h => h) (Or.inl ⟨by rfl, fun wz hSz => ?_⟩) (by assumption) ?_
        rotate_left
        · (first | (go_simp; done) | (go_simp; with_reducible rfl))
        try simp only [Act.put, List.setIfInBounds_toArray, List.set_cons_zero, List.set_cons_succ, List.getElem_toArray, List.getElem_cons_succ, List.getElem_cons_zero]
        refine wpAnyH_take (i := 1) (oi := _) (v := ?_) rfl (by kernel_rfl) (by kernel_rfl) (by kernel_rfl) (fun _ _ _ h => h) (Or.inl ⟨by rfl, fun wz hSz => ?_⟩) (by assumption) ?_
        rotate_left
        · (first | (go_simp; done) | (go_simp; with_reducible rfl))
        try simp only [Act.put, List.setIfInBounds_toArray, List.set_cons_zero, List.set_cons_succ, List.getElem_toArray, List.getElem_cons_succ, List.getElem_cons_zero]
        refine wpAnyH_ready (rs := [2]) (by kernel_rfl) (by simp) (AllReadyH.cons (o := _) rfl (fun K hK => ?_) AllReadyH.nil)
        try go_simp
        (have hS : True := trivial; clear hHeld)
        refine hK.out _ _ ?_ (fun hHeld => ?_)
        · exact hS
        clear hK K
        try simp only [Act.put, List.setIfInBounds_toArray, List.set_cons_zero, List.set_cons_succ, List.getElem_toArray, List.getElem_cons_succ, List.getElem_cons_zero]
        refine wpAnyH_ready (rs := [3]) (by kernel_rfl) (by simp) (AllReadyH.cons (o := _) rfl (fun K hK => ?_) AllReadyH.nil)
        try go_simp
        (refine (unhide HND2 _ _ _ _ ((Reads.new2 _ _ _ _ (g := w8.heap.size) (by simp)).ext (Ext.refl _).drew) ((unhide H8).1.alloc _).drew ((unhide H8).2.cell.alloc _).drew).mono ?_; rintro e w9 ⟨rfl, hE9⟩; have H9 := hide (((unhide H8).2.to ((Ext.refl w8).alloc _).drew).to hE9); have hS : True := trivial; clear hHeld hE9)
        refine hK.out _ _ ?_ (fun hHeld => ?_)
        · exact hS
        clear hK K
        try simp only [Act.put, List.setIfInBounds_toArray, List.set_cons_zero, List.set_cons_succ, List.getElem_toArray, List.getElem_cons_succ, List.getElem_cons_zero]
        refine wpAnyH_ready (rs := [4]) (by kernel_rfl) (by simp) (AllReadyH.cons (o := _) rfl (fun K hK => ?_) AllReadyH.nil)
        (refine step_storeB (ty := 23) (t := 23) (x := .tmp 10) (y := .tmp 86) rfl rfl digest_wide rfl rfl (unhide H9).cell (by simpa using (unhide HI).1) (by simpa using nodeS_length _ _) (bytes_one _) ?_; intro w10 hb10 hc10 hz10; have H10 := hide ((unhide H9).store hc10 hb10); have hS : True := trivial; clear hHeld hb10 hc10 hz10)
        refine hK.out _ _ ?_ (fun hHeld => ?_)
        · exact hS
        clear hK K
        try simp only [Act.put, List.setIfInBounds_toArray, List.set_cons_zero, List.set_cons_succ, List.getElem_toArray, List.getElem_cons_succ, List.getElem_cons_zero]
        refine wpAnyH_done (by kernel_rfl) ?_ _
        obtain ⟨q0, q1, q2, _, _⟩ := (unhide H10).sig.cells3
        go_wp2
        go_roundw
        case rel => exact ⟨q / 2, m + 1, _, int_eq (by omega), by go_num, by omega, by omega, hide ⟨nodeS_length _ _, ⟨by rw [(unhide HI).2.1.1, Nat.div_div_eq_div_mul, Nat.pow_succ], (unhide HE2)⟩, unhide H10⟩⟩
        case measure => simp [intOf]; omega
    · obtain rfl : m = sp.length := by omega
      have hd : d = root ∧ q = 0 := by
        have h2 := (unhide HI).2.1.2
        rw [List.drop_of_length_le (Nat.le_refl _)] at h2
        refine ⟨h2, ?_⟩
        rw [(unhide HI).2.1.1, unhide HPK]
        exact Nat.div_eq_of_lt (unhide HJ)
      obtain ⟨rfl, rfl⟩ := hd
      have heq := same16 (r := sl.toArray) (by rw [unhide HSL]) (unhide HRL)
      have hcell : Hid (Blk wr g10 23 sl.toArray) := hide (by have := (unhide HI).2.2.cell; rw [unhide HSL] at this; exact this)
      go_wp2_with (first
        | (refine wpList_loadBG (by rfl) (ty := 23) (x := .tmp 10) rfl digest_wide rfl (unhide hcell) (by simpa using (unhide HL).1) ?_)
        | (refine wpList_loadBG (by rfl) (ty := 23) (x := .tmp 3) rfl digest_wide rfl (unhide HI).2.2.root (by simpa using (unhide HL).1) ?_))
      go_ret
      exact ⟨rfl, (unhide HI).2.2.ext⟩

end Go.Proofs.YtjemfefkgfoikaaDoor
