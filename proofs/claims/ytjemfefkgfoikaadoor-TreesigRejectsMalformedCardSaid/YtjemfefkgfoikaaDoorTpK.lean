/-
  Several texts in one file: each has its own heading below.
-/
import Derived.Test.YtjemfefkgfoikaaDoorTpI
import Derived.Test.YtjemfefkgfoikaaDoorTpJ
import Derived.Test.YtjemfefkgfoikaaDoorTpH

/-
  Trees of one-time keys: signatures verify (plain); the sanity of the laws.
-/
namespace Go.Proofs.YtjemfefkgfoikaaDoor
open Go.RowKit

theorem ends_congr5 (f g : Nat → List UInt8) : ∀ n, (∀ k, k < n → f k = g k) → endsS f n = endsS g n
  | 0, _ => rfl
  | n + 1, h => by rw [endsS_step, endsS_step, ends_congr5 f g n fun k hk => h k (by omega), h n (by omega)]
theorem recover_sign5 (seed : List UInt8) (index : Int) (m : List UInt8) : recoverS m (chainAt (signS seed index m 68)) = publicS seed index := by
  rw [← wots_verifies seed index m]
  unfold recoverS keyOf
  rw [ends_congr5 _ _ 68 fun k hk => ?_]
  have : chainAt (signS seed index m 68) k = signAt seed index m k := by
    unfold chainAt signS
    rw [List.getD_eq_getElem?_getD, List.getElem?_map, List.getElem?_range hk]
    rfl
  rw [this]
theorem own_verifies (seed msg : List UInt8) (n i : Nat) (hi : i < n) : verifyS (rootS (leavesS seed n)) n i (recoverS msg (chainAt (signS seed (i : Int) msg 68))) (proveS (leavesS seed n) i) = true := by
  rw [recover_sign5]
  have := prove_verifies (leavesS seed n) i _ (leavesS_get seed n i hi)
  rwa [leavesS_length] at this

def seed1 : List UInt8 := [1, 0, 0, 0, 0, 0, 0, 0, 0, 0, 0, 0, 0, 0, 0, 0]
def msg2 : List UInt8 := [2, 0, 0, 0, 0, 0, 0, 0, 0, 0, 0, 0, 0, 0, 0, 0]
theorem SigR.nil (w : World) : SigR w (.agg #[.int .i64 0, .slice none 0 0, .slice none 0 0]) 0 [] [] := ⟨_, _, rfl, Digs.nil w, Digs.nil w⟩
theorem same_self (i : Int) (a p : List (List UInt8)) : sameB i i a a p p = true := by simp [sameB]
theorem same_no (a p b q : List (List UInt8)) : sameB 1 0 a b p q = false := by simp [sameB]

set_option maxRecDepth 100000 in
set_option maxHeartbeats 16000000 in
theorem sanity5_any (w : World) (hM : ShaMem w) : Calls Tryd.prog 27 #[] w fun e w' => e = .returned (.bool true) ∧ Ext w w' := by
  have HM := hide hM
  have hl1 : seed1.length = 16 := rfl
  have hl2 : msg2.length = 16 := rfl
  have HRt := hide (fun W (hE : Ext w W) => show Calls Tryd.prog 28 #[.agg (seed1.map u8v).toArray, .int .i64 1] W fun e w' => e = .returned (.tuple #[.agg ((rootS (leavesS seed1 2)).map u8v).toArray, .int .i64 0]) ∧ Ext W w' from troot_yes seed1 1 2 rfl (by omega) W hl1 (hM.ext hE))
  have HS1 := hide (fun W (hE : Ext w W) => show Calls Tryd.prog 30 #[.agg (seed1.map u8v).toArray, .int .i64 1, .int .i64 1, .agg (msg2.map u8v).toArray] W (SignPost W 1 (signS seed1 1 msg2 68) (proveS (leavesS seed1 2) 1)) from tsign_yes seed1 msg2 1 2 rfl (by omega) 1 (by omega) W hl1 hl2 (hM.ext hE))
  have HS2 := hide (fun W => show Calls Tryd.prog 30 #[.agg (seed1.map u8v).toArray, .int .i64 1, .int .i64 2, .agg (msg2.map u8v).toArray] W fun e w' => e = .returned (.tuple #[.agg #[.int .i64 0, .slice none 0 0, .slice none 0 0], .int .i64 17]) ∧ Ext W w' from tsign_out seed1 msg2 1 2 rfl (by omega) 2 W (by omega))
  have HS3 := hide (fun W => tsign_arg seed1 msg2 5 0 W (.inl (by unfold okH; omega)))
  have hpl : (proveS (leavesS seed1 2) 1).length = 1 := prove_height 1 2 rfl (by omega) seed1 1 (by omega)
  have hov : verifyS (rootS (leavesS seed1 2)) 2 1 (recoverS msg2 (chainAt (signS seed1 1 msg2 68))) (proveS (leavesS seed1 2) 1) = true := own_verifies seed1 msg2 2 1 (by omega)
  have hsl := signS_length seed1 1 msg2 68
  have hrl := rootS_length (leavesS seed1 2)
  obtain ⟨rt, hrt⟩ : ∃ x, rootS (leavesS seed1 2) = x := ⟨_, rfl⟩
  obtain ⟨ch, hch⟩ : ∃ x, signS seed1 1 msg2 68 = x := ⟨_, rfl⟩
  obtain ⟨pa, hpa⟩ : ∃ x, proveS (leavesS seed1 2) 1 = x := ⟨_, rfl⟩
  rw [hrt] at HRt hov hrl
  rw [hch] at HS1 hov hsl
  rw [hpa] at HS1 hov hpl
  have HV1 := hide (fun (cv pv : Value) W (hE : Ext w W) (h1 : Digs W cv ch) (h2 : Digs W pv pa) => show Calls Tryd.prog 34 #[.agg (rt.map u8v).toArray, .int .i64 1, .agg (msg2.map u8v).toArray, .agg #[.int .i64 1, cv, pv]] W fun e w' => e = .returned (.bool (verifyS rt 2 1 (recoverS msg2 (chainAt ch)) pa)) ∧ Ext W w' from tver_in rt msg2 1 2 rfl (by omega) 1 (by omega) ch pa cv pv W (hM.ext hE) hrl hl2 h1 h2 (by omega) hsl)
  rw [hov] at HV1
  have HV0 := hide (fun (cv pv : Value) W => show Calls Tryd.prog 34 #[.agg (rt.map u8v).toArray, .int .i64 0, .agg (msg2.map u8v).toArray, .agg #[.int .i64 1, cv, pv]] W fun e w' => e = .returned (.bool false) ∧ Ext W w' from tver_big (rt.map u8v).toArray (msg2.map u8v).toArray 0 1 rfl (by omega) 1 cv pv W (by omega))
  have HQ1 := hide (fun (cv pv : Value) W (h1 : Digs W cv ch) (h2 : Digs W pv pa) => same_any 1 1 ch ch pa pa (.agg #[.int .i64 1, cv, pv]) (.agg #[.int .i64 1, cv, pv]) W ⟨_, _, rfl, h1, h2⟩ ⟨_, _, rfl, h1, h2⟩ (by omega) (by omega))
  have HQ2 := hide (fun (cv pv : Value) W (h1 : Digs W cv ch) (h2 : Digs W pv pa) => same_any 1 0 ch [] pa [] (.agg #[.int .i64 1, cv, pv]) (.agg #[.int .i64 0, .slice none 0 0, .slice none 0 0]) W ⟨_, _, rfl, h1, h2⟩ (SigR.nil W) (by omega) (by omega))
  simp only [same_self] at HQ1
  simp only [same_no] at HQ2
  have e1 : (seed1.map u8v).toArray = #[.int .u8 1, .int .u8 0, .int .u8 0, .int .u8 0, .int .u8 0, .int .u8 0, .int .u8 0, .int .u8 0, .int .u8 0, .int .u8 0, .int .u8 0, .int .u8 0, .int .u8 0, .int .u8 0, .int .u8 0, .int .u8 0] := rfl
  have e2 : (msg2.map u8v).toArray = #[.int .u8 2, .int .u8 0, .int .u8 0, .int .u8 0, .int .u8 0, .int .u8 0, .int .u8 0, .int .u8 0, .int .u8 0, .int .u8 0, .int .u8 0, .int .u8 0, .int .u8 0, .int .u8 0, .int .u8 0, .int .u8 0] := rfl
  obtain ⟨s1, hs1⟩ : ∃ x, (seed1.map u8v).toArray = x := ⟨_, rfl⟩
  rw [hs1] at HRt HS1 HS2 HS3
  rw [e2] at HS1 HS2 HS3 HV1 HV0
  have HSS := hide (show s1 = #[.int .u8 1, .int .u8 0, .int .u8 0, .int .u8 0, .int .u8 0, .int .u8 0, .int .u8 0, .int .u8 0, .int .u8 0, .int .u8 0, .int .u8 0, .int .u8 0, .int .u8 0, .int .u8 0, .int .u8 0, .int .u8 0] ∧ s1.size = 16 from ⟨by rw [← hs1]; exact e1, by rw [← hs1]; rfl⟩)
  obtain ⟨ra, hra⟩ : ∃ x, (rt.map u8v).toArray = x := ⟨_, rfl⟩
  have HRS := hide (show ra.size = 16 ∧ ra.all (·.oneCell') = true from by rw [← hra]; exact ⟨by simpa using hrl, bytes_one _⟩)
  rw [hra] at HRt HV1 HV0
  have HPL := hide hpl
  have HCL := hide hsl
  clear hM hl1 hl2 hpl hov hsl hrl hrt hch hpa e1 e2 hs1 hra
  go_enter Tryd.func27, Tryd.ntmps27
  go_upto_region 2 with fail
  rw [← (unhide HSS).1]
  have H1 := hide (show Ext w (w.alloc (.cells s1 23)) ∧ Blk (w.alloc (.cells s1 23)) w.heap.size 23 s1 from ⟨(Ext.refl w).alloc _, Blk.new w _ _⟩)
  generalize w.alloc (.cells s1 23) = W1 at *
  go_upto_region 3 with (first
    | (refine wpList_loadB (ty := 23) (t := 23) (x := .tmp 1) rfl rfl digest_wide rfl (cs := s1) (unhide H1).2 (unhide HSS).2 ?_)
    | (go_at_call 28; refine (unhide HRt _ (unhide H1).1).mono ?_; rintro e w2 ⟨rfl, hE2⟩; have H2 := hide hE2; clear hE2)
    | (refine wpList_storeB (ty := 23) (t := 23) (x := .tmp 2) (y := .tmp 14) rfl rfl digest_wide rfl rfl (Blk.new w2 _ _) rfl (unhide HRS).1 (unhide HRS).2 ?_; intro w3 hb3 hc3 hz3; have H3 := hide (And.intro (made_ext ((unhide H1).1.trans (unhide H2)) hc3) (And.intro ((unhide H1).2.ext (made_ext (unhide H2) hc3)) hb3)); clear hb3 hc3 hz3))
  obtain ⟨gr, hgr⟩ : ∃ x, w2.heap.size = x := ⟨_, rfl⟩
  rw [hgr] at H3 ⊢
  clear hgr H2 H1
  go_upto_region 4 with (first
    | (refine wpList_loadB (ty := 23) (t := 23) (x := .tmp 1) rfl rfl digest_wide rfl (cs := s1) (unhide H3).2.1 (unhide HSS).2 ?_)
    | (go_at_call 30; refine (unhide HS1 _ (unhide H3).1).mono ?_; rintro e w4 ⟨v, rfl, ⟨cv, pv, rfl, hd1, hd2⟩, hE4⟩; obtain ⟨A2, c2, hpv, _, _⟩ := hd2.form; rw [unhide HPL] at hpv; subst hpv; obtain ⟨A1, c1, hcv, _, _⟩ := hd1.form; rw [unhide HCL] at hcv; subst hcv; have H4 := hide (And.intro ((unhide H3).1.trans hE4) (And.intro ((unhide H3).2.1.ext hE4) (And.intro ((unhide H3).2.2.ext hE4) (And.intro hd1 hd2)))); clear hd1 hd2 hE4))
  have H5 := hide (show Ext w (w4.alloc (.cells #[.int .i64 1, .slice A1 68 c1, .slice A2 1 c2] 47)) ∧ Blk (w4.alloc (.cells #[.int .i64 1, .slice A1 68 c1, .slice A2 1 c2] 47)) w.heap.size 23 s1 ∧ Blk (w4.alloc (.cells #[.int .i64 1, .slice A1 68 c1, .slice A2 1 c2] 47)) gr 23 ra ∧
    Blk (w4.alloc (.cells #[.int .i64 1, .slice A1 68 c1, .slice A2 1 c2] 47)) w4.heap.size 47 #[.int .i64 1, .slice A1 68 c1, .slice A2 1 c2] ∧ Digs (w4.alloc (.cells #[.int .i64 1, .slice A1 68 c1, .slice A2 1 c2] 47)) (.slice A1 68 c1) ch ∧ Digs (w4.alloc (.cells #[.int .i64 1, .slice A1 68 c1, .slice A2 1 c2] 47)) (.slice A2 1 c2) pa from
    ⟨(unhide H4).1.alloc _, (unhide H4).2.1.alloc _, (unhide H4).2.2.1.alloc _, Blk.new _ _ _, (unhide H4).2.2.2.1.ext ((Ext.refl _).alloc _), (unhide H4).2.2.2.2.ext ((Ext.refl _).alloc _)⟩)
  generalize w4.alloc (.cells #[.int .i64 1, .slice A1 68 c1, .slice A2 1 c2] 47) = W5 at *
  obtain ⟨gs, hgs⟩ : ∃ x, w4.heap.size = x := ⟨_, rfl⟩
  rw [hgs] at H5 ⊢
  clear hgs H4 H3
  go_upto_region 5 with (first
    | (refine wpList_loadB (ty := 23) (t := 23) (x := .tmp 1) rfl rfl digest_wide rfl (cs := s1) (unhide H5).2.1 (unhide HSS).2 ?_)
    | (go_at_call 30; refine (unhide HS2 _).mono ?_; rintro e w6 ⟨rfl, hE6⟩; have H6 := hide hE6; clear hE6))
  have H7 := hide ((unhide H6).alloc (.cells #[.int .i64 0, .slice none 0 0, .slice none 0 0] 47))
  generalize w6.alloc (.cells #[.int .i64 0, .slice none 0 0, .slice none 0 0] 47) = W7 at *
  clear H6
  go_upto_region 6 with (first
    | (refine wpList_loadB (ty := 23) (t := 23) (x := .tmp 1) rfl rfl digest_wide rfl (cs := s1) ((unhide H5).2.1.ext (unhide H7)) (unhide HSS).2 ?_)
    | (go_at_call 30; refine (unhide HS3 _).mono ?_; rintro e w8 ⟨rfl, hE8⟩; have H8 := hide ((unhide H7).trans hE8); clear hE8))
  have H9 := hide ((unhide H8).alloc (.cells #[.int .i64 0, .slice none 0 0, .slice none 0 0] 47))
  generalize w8.alloc (.cells #[.int .i64 0, .slice none 0 0, .slice none 0 0] 47) = W9 at *
  clear H8 H7
  have HT1 := hide True.intro
  have HT2 := hide True.intro
  have HT3 := hide True.intro
  have HT4 := hide True.intro
  obtain ⟨⟨p0, p1, p2, pf, pl⟩, hX⟩ := And.intro ((unhide H5).2.2.2.1.ext (unhide H9)).cells3 True.intro
  go_wp2_with (first
    | (refine wpList_loadBG (by rfl) (ty := 23) (x := .tmp 2) rfl digest_wide rfl ((unhide H5).2.2.1.ext (unhide H9)) (unhide HRS).1 ?_; clear HT1)
    | (go_at_call 34; clear HT2; refine (unhide HV1 _ _ _ ((unhide H5).1.trans (unhide H9)) ((unhide H5).2.2.2.2.1.ext (unhide H9)) ((unhide H5).2.2.2.2.2.ext (unhide H9))).mono ?_; rintro e w10 ⟨rfl, hE10⟩; have H10 := hide ((unhide H9).trans hE10); obtain ⟨q0, q1, q2, qf, ql⟩ := ((unhide H5).2.2.2.1.ext (unhide H10)).cells3; clear hE10)
    | (refine wpList_loadBG (by rfl) (ty := 23) (x := .tmp 2) rfl digest_wide rfl ((unhide H5).2.2.1.ext (unhide H10)) (unhide HRS).1 ?_)
    | (go_at_call 34; clear HT3; refine (unhide HV0 _ _ _).mono ?_; rintro e w11 ⟨rfl, hE11⟩; have H11 := hide ((unhide H10).trans hE11); obtain ⟨r0, r1, r2, rf, rl⟩ := ((unhide H5).2.2.2.1.ext (unhide H11)).cells3; clear hE11)
    | (go_at_call 36; clear HT4; refine (unhide HQ1 _ _ _ ((unhide H5).2.2.2.2.1.ext (unhide H11)) ((unhide H5).2.2.2.2.2.ext (unhide H11))).mono ?_; rintro e w12 ⟨rfl, hE12⟩; have H12 := hide ((unhide H11).trans hE12); obtain ⟨s0, s1', s2, sf, sl⟩ := ((unhide H5).2.2.2.1.ext (unhide H12)).cells3; clear hE12)
    | (go_at_call 36; refine (unhide HQ2 _ _ _ ((unhide H5).2.2.2.2.1.ext (unhide H12)) ((unhide H5).2.2.2.2.2.ext (unhide H12))).mono ?_; rintro e w13 ⟨rfl, hE13⟩; have H13 := hide ((unhide H12).trans hE13); clear hE13))
  go_ret
  exact ⟨rfl, (unhide H5).1.trans (unhide H13)⟩

end Go.Proofs.YtjemfefkgfoikaaDoor

/-
  Trees of one-time keys: signatures of the reference.
-/
namespace Go.Proofs.YtjemfefkgfoikaaDoor
open Go.RowKit

set_option maxRecDepth 100000 in
set_option maxHeartbeats 4000000 in
theorem rtsign_yes (seed msg : List UInt8) (h n : Nat) (hn : n = 2 ^ h) (hh : h ≤ 4) (i : Nat) (hi : i < n) (w : World) (hv : seed.length = 16) (hm : msg.length = 16)  :
    Calls Tryd.prog 31 #[.agg (seed.map u8v).toArray, .int .i64 (h : Int), .int .i64 (i : Int), .agg (msg.map u8v).toArray] w (SignPost w (i : Int) (signS seed (i : Int) msg 68) (proveS (leavesS seed n) i)) := by
  have hn16 : n ≤ 16 := by subst hn; exact pow_le16 h h (Nat.le_refl _) hh
  have hsh : wrap64 ((2 : Int) ^ h) = (n : Int) := by rw [shl_one h hh, hn]
  have HV := hide (fun W => (fun W => many_yes h n hn hh W) W)
  have HK := hide (fun W (hE : Ext w W) => rkeys_any seed h n hn hh W hv )
  have HP := hide (fun (A : Option Addr) (c : Nat) W (hE : Ext w W) (hD : Digs W (.slice A n c) (leavesS seed n)) => rprove_any n (leavesS seed n) i (.slice A n c) W (by rw [leavesS_length]; omega) (by rw [leavesS_length]; omega) (by rw [leavesS_length]; omega) hD)
  have HS := hide (fun W (hE : Ext w W) => rsign_any seed (i : Int) msg W  hv hm (by omega) (by omega))
  have hnI : ¬ (n : Int) = 0 := by omega
  have hnB : ((n : Int) == 0) = false := beq_eq_false_iff_ne.2 (by omega)
  have hi0 : ¬ (i : Int) < 0 := by omega
  have hi1 : ¬ (n : Int) ≤ (i : Int) := by omega
  have hi2 : (i : Int) < (n : Int) := by omega
  obtain ⟨chain, hchain⟩ : ∃ x, signS seed (i : Int) msg 68 = x := ⟨_, rfl⟩
  obtain ⟨path, hpath⟩ : ∃ x, proveS (leavesS seed n) i = x := ⟨_, rfl⟩
  rw [hchain] at HS ⊢
  rw [hpath] at HP ⊢
  obtain ⟨arr, harr⟩ : ∃ x, (seed.map u8v).toArray = x := ⟨_, rfl⟩
  obtain ⟨mrr, hmrr⟩ : ∃ x, (msg.map u8v).toArray = x := ⟨_, rfl⟩
  have HSZ := hide (show arr.size = 16 ∧ mrr.size = 16 from by rw [← harr, ← hmrr]; exact ⟨by simpa using hv, by simpa using hm⟩)
  rw [harr] at HK HS ⊢
  rw [hmrr] at HS ⊢
  have HZ := hide (show Ext w (((w.alloc (.cells arr 23)).alloc (.cells mrr 23)).alloc (.cells #[.int .i64 0, .slice none 0 0, .slice none 0 0] 47)) ∧ Blk (((w.alloc (.cells arr 23)).alloc (.cells mrr 23)).alloc (.cells #[.int .i64 0, .slice none 0 0, .slice none 0 0] 47)) w.heap.size 23 arr ∧
    Blk (((w.alloc (.cells arr 23)).alloc (.cells mrr 23)).alloc (.cells #[.int .i64 0, .slice none 0 0, .slice none 0 0] 47)) (w.heap.size + 1) 23 mrr ∧ Blk (((w.alloc (.cells arr 23)).alloc (.cells mrr 23)).alloc (.cells #[.int .i64 0, .slice none 0 0, .slice none 0 0] 47)) (w.heap.size + 1 + 1) 47 #[.int .i64 0, .slice none 0 0, .slice none 0 0]
    from ⟨(((Ext.refl w).alloc _).alloc _).alloc _, ((Blk.new w _ _).alloc _).alloc _, (Blk.new' _ _ _ (by simp)).alloc _, Blk.new' _ _ _ (by simp)⟩)
  clear hn hv hm harr hmrr hchain hpath hi 
  go_enter Tryd.func31, Tryd.ntmps31
  go_upto_region 5 with (go_at_call 37; refine (unhide HV _).mono ?_; rintro e wz ⟨rfl, rfl⟩)
  generalize hW0 : (((w.alloc (.cells arr 23)).alloc (.cells mrr 23)).alloc (.cells #[.int .i64 0, .slice none 0 0, .slice none 0 0] 47)) = W0 at *
  clear hW0 hsh

  go_wp2_with (first
    | (refine wpList_loadB (ty := 23) (t := 23) (x := .tmp 4) rfl rfl digest_wide rfl (cs := arr) (unhide HZ).2.1 (unhide HSZ).1 ?_)
    | (go_at_call 56; refine (unhide HK _ (unhide HZ).1).mono ?_; rintro e w1 ⟨A1, c1, rfl, hG⟩; have H1 := hide (And.intro hG.digs hG.ext); clear hG)
    | (go_at_call 58; refine (unhide HP A1 c1 _ ((unhide HZ).1.trans (unhide H1).2) (unhide H1).1).mono ?_; rintro e w2 ⟨A2, c2, rfl, hG⟩; have HO2 := hide (fun k (hk : (Value.slice A2 path.length c2).ownBlock = some k) => show w.heap.size + 1 + 1 < k from by have := (hG.own.lt k hk).1; have := (unhide HZ).2.2.2.lt; have := (unhide H1).2.size'; omega); have H2 := hide (And.intro hG.digs ((unhide H1).2.trans hG.ext)); clear hG)
    | (refine wpList_loadB (ty := 23) (t := 23) (x := .tmp 4) rfl rfl digest_wide rfl (cs := arr) ((unhide HZ).2.1.ext (unhide H2).2) (unhide HSZ).1 ?_)
    | (refine wpList_loadB (ty := 23) (t := 23) (x := .tmp 7) rfl rfl digest_wide rfl (cs := mrr) ((unhide HZ).2.2.1.ext (unhide H2).2) (unhide HSZ).2 ?_)
    | (go_at_call 24; refine (unhide HS _ ((unhide HZ).1.trans (unhide H2).2)).mono ?_; rintro e w3 ⟨A3, c3, rfl, hG⟩; have HO3 := hide (fun k (hk : (Value.slice A3 68 c3).ownBlock = some k) => show w.heap.size + 1 + 1 < k from by have := (hG.own.lt k hk).1; have := (unhide HZ).2.2.2.lt; have := (unhide H2).2.size'; omega); have H3 := hide (And.intro hG.digs (And.intro ((unhide H2).1.ext hG.ext) ((unhide H2).2.trans hG.ext))); obtain ⟨q0, q1, q2, qf, ql⟩ := ((unhide HZ).2.2.2.ext (unhide H3).2.2).cells3; clear hG))
  refine bodyPost_ret (v := .tuple #[.agg #[.int .i64 (i : Int), .slice A3 68 c3, .slice A2 path.length c2], .int .i64 0]) (results_two sig_wide rfl ((((unhide HZ).2.2.2.ext (unhide H3).2.2).set_ 0 _).set_ 1 _ |>.set_ 2 _) rfl rfl rfl) rfl ?_
  have hc : Chg (fun k => k = w.heap.size + 1 + 1) w3 (((w3.setCell ⟨w.heap.size + 1 + 1, 0, none⟩ (.int .i64 (i : Int))).setCell ⟨w.heap.size + 1 + 1, 1, none⟩ (.slice A3 68 c3)).setCell ⟨w.heap.size + 1 + 1, 2, none⟩ (.slice A2 path.length c2)) := (((Chg.refl (fun k => k = w.heap.size + 1 + 1) w3).setCell (p := ⟨w.heap.size + 1 + 1, 0, none⟩) (.inl rfl) _).setCell (p := ⟨w.heap.size + 1 + 1, 1, none⟩) (.inl rfl) _).setCell (p := ⟨w.heap.size + 1 + 1, 2, none⟩) (.inl rfl) _
  refine ⟨_, rfl, ⟨_, _, rfl, ?_, ?_⟩, ((unhide HZ).1.trans (unhide H3).2.2).trans' hc (fun _ _ h => h) (fun i hi e => by omega)⟩
  · exact (unhide H3).1.chg hc (fun k hk e => by have := unhide HO3 k hk; omega)
  · exact (unhide H3).2.1.chg hc (fun k hk e => by have := unhide HO2 k hk; omega)

end Go.Proofs.YtjemfefkgfoikaaDoor

/-
  The reference of one-time signatures: Recover.
-/
namespace Go.Proofs.YtjemfefkgfoikaaDoor
open Go.RowKit

def S4 (w : World) (cv : Value) (c : List (List UInt8)) (dv : Value) (m : List UInt8) (W : World) : Prop := Ext w W ∧ Digs W cv c ∧ Reads W 1 dv 68 (icells (digC m) 68) ∧ Blk W (w.heap.size + 1) 23 (Array.replicate 16 (.int .u8 0))
theorem S4.ext {w : World} {cv : Value} {c : List (List UInt8)} {dv : Value} {m : List UInt8} {W W' : World} (h : S4 w cv c dv m W) (hE : Ext W W') : S4 w cv c dv m W' := ⟨h.1.trans hE, h.2.1.ext hE, h.2.2.1.ext hE, h.2.2.2.ext hE⟩
theorem S4.chg {w : World} {cv : Value} {c : List (List UInt8)} {dv : Value} {m : List UInt8} {W W' : World} {S : Nat → Prop} {B : Nat} (h : S4 w cv c dv m W) (hc : Chg S W W') (hS : ∀ k, S k → B ≤ k) (hB : w.heap.size + 1 < B) (hd : ∀ k, dv.ownBlock = some k → k < B) (hcv : ∀ k, cv.ownBlock = some k → k < B) : S4 w cv c dv m W' :=
  ⟨h.1.trans' hc (fun _ _ h => h.elim) (fun i hi e => by have := hS i e; omega), h.2.1.chg hc (fun k hk e => by have := hS k e; have := hcv k hk; omega), h.2.2.1.chg hc (fun k _ hk e => by have := hS k e; have := hd k hk; omega), h.2.2.2.chg hc (fun e => by have := hS _ e; omega)⟩

set_option maxRecDepth 100000 in
set_option maxHeartbeats 4000000 in
theorem rrecover_no (m : List UInt8) (c : List (List UInt8)) (cv : Value) (w : World) (hc : ¬ c.length = 68) (hD : Digs w cv c) :
    Calls Tryd.prog 19 #[.agg (m.map u8v).toArray, cv] w fun e w' => e = .returned (.tuple #[.agg (z16.map u8v).toArray, .int .i64 9]) ∧ Ext w w' := by
  obtain ⟨A, c', rfl, _, _⟩ := hD.form
  obtain ⟨arr, harr⟩ : ∃ r, (m.map u8v).toArray = r := ⟨_, rfl⟩
  rw [harr]
  clear hD harr
  have hcI : ¬ (c.length : Int) = 68 := by omega
  generalize c.length = n at *
  go_enter Tryd.func19, Tryd.ntmps19
  go_wp2
  refine bodyPost_ret (v := .tuple #[.agg (z16.map u8v).toArray, .int .i64 9]) (results_two digest_wide rfl (Blk.new' _ _ _ (by simp)) rfl rfl rfl) rfl ⟨rfl, ?_⟩
  exact ((Ext.refl w).alloc _).alloc _

set_option maxRecDepth 100000 in
set_option maxHeartbeats 4000000 in
theorem rrecover_yes (m : List UInt8) (c : List (List UInt8)) (cv : Value) (w : World) (hm : m.length = 16) (hc : c.length = 68) (hD : Digs w cv c) :
    Calls Tryd.prog 19 #[.agg (m.map u8v).toArray, cv] w fun e w' => e = .returned (.tuple #[.agg ((recoverS m (chainAt c)).map u8v).toArray, .int .i64 0]) ∧ Ext w w' := by
  have hlt := hD.own_lt (by omega)
  obtain ⟨bc, oc, c', rfl, _, _, _, _⟩ := hD.at (k := 0) (by omega)
  have HDD := hide hD
  have HLT := hide hlt
  have HDg := hide (fun (W : World) => rdigits_any m W hm)
  have HA := hide (fun k (W : World) => radv_any k (3 - digC m k) (chainAt c k) W (chainAt_length hD.1 k))
  have HW := hide (fun k (W : World) => rraw_any (advS k (chainAt c k) (3 - digC m k)) W (advS_length k _ (chainAt_length hD.1 k) _))
  have HL := hide (fun k => advS_length k _ (chainAt_length hD.1 k) (3 - digC m k))
  have HCL := hide (fun k => chainAt_length hD.1 k)
  have HG := hide (fun k (hk : k < 68) => icells_get (digC m) hk)
  have H3' := hide (digC_le m)
  have HE := hide (endsS_step (fun k => advS k (chainAt c k) (3 - digC m k)))
  have HEL := hide (endsS_length (fun k => advS k (chainAt c k) (3 - digC m k)) (unhide HL) 68)
  have HP := hide (show digestS 4 [endsS (fun k => advS k (chainAt c k) (3 - digC m k)) 68] = recoverS m (chainAt c) ∧ (recoverS m (chainAt c)).length = 16 from ⟨rfl, digestS_length _ _⟩)
  have HAT := hide (fun k (W : World) (hk : k < 68) (h : Digs W (.slice (some ⟨bc, oc, none⟩) c.length c') c) => show W.rangeAt bc (oc + k * 16) ((chainAt c k).map u8v) from by
    obtain ⟨b2, o2, c2, e, _, _, _, hr⟩ := h.at (k := k) (by omega)
    cases e
    rw [chainAt_get (by omega)]
    exact hr)
  obtain ⟨F, hF⟩ : ∃ F, endsS (fun k => advS k (chainAt c k) (3 - digC m k)) = F := ⟨_, rfl⟩
  have hF0 : F 0 = [] := by rw [← hF]; rfl
  rw [hF] at HE HEL HP
  obtain ⟨arr, harr⟩ : ∃ r, (m.map u8v).toArray = r := ⟨_, rfl⟩
  rw [harr] at HDg ⊢
  have hasz : arr.size = 16 := by rw [← harr]; simpa using hm
  obtain ⟨res, hres⟩ : ∃ r, recoverS m (chainAt c) = r := ⟨_, rfl⟩
  rw [hres] at HP ⊢
  have HD := hide (fun (W : World) (A : Option Addr) (c : Nat) (pv : Value) (h1 : Reads W 1 pv 1 [.slice A (F 68).length c]) (h2 : Reads W 1 (.slice A (F 68).length c) (F 68).length ((F 68).map u8v)) =>
    rdigest_any 4 [F 68] pv W (Parts.one h1 h2) (by simp) (fun p hp => by have := unhide HEL; simp at hp; subst hp; omega))
  rw [hc] at HDD HLT HAT ⊢
  clear harr hres hF hm hD hlt
  go_enter Tryd.func19, Tryd.ntmps19
  go_wp2_with (refine wpList_loadB (ty := 23) (t := 23) (x := .tmp 2) rfl rfl digest_wide rfl ((Blk.new w _ _).alloc _) hasz ?_)
  refine (unhide HDg _).mono ?_
  rintro e w1 ⟨A0, c0, rfl, hr1, hE1⟩
  have hol := hr1.own_lt (by omega) (by omega)
  obtain ⟨b0, o0, cc, u, hv0, _⟩ := hr1.at1 (k := 0) (by omega)
  cases hv0
  have H1 := hide (show S4 w (.slice (some ⟨bc, oc, none⟩) 68 c') c (.slice (some ⟨b0, o0, none⟩) 68 c0) m w1 from ⟨(((Ext.refl w).alloc _).alloc _).trans hE1, (unhide HDD).ext ((((Ext.refl w).alloc _).alloc _).trans hE1), hr1, (Blk.new' (w.alloc (.cells arr 23)) 23 (Array.replicate 16 (.int .u8 0)) (g := w.heap.size + 1) (by simp)).ext hE1⟩)
  have HOL := hide hol
  clear hr1 hE1 hol
  go_wp2_with fail
  go_loopw [7, 8] (fun b i wr => ∃ (k : Nat) (A : Option Addr) (c1 : Nat), k ≤ 68 ∧ i = .int .i64 k ∧ b = .slice A (16 * k) c1 ∧ Hid (GB w w1.heap.size b (16 * k) (F k) wr ∧ S4 w (.slice (some ⟨bc, oc, none⟩) 68 c') c (.slice (some ⟨b0, o0, none⟩) 68 c0) m wr)) (fun _ i _ => 68 - (intOf i).toNat)
  case atStart => exact ⟨0, none, 0, by omega, rfl, rfl, hide ⟨by rw [hF0]; exact GB.nil (unhide H1).1 (unhide H1).1.size' (Nat.le_refl _), unhide H1⟩⟩
  case round =>
    obtain ⟨k, A, c1, hk, rfl, rfl, HI⟩ := hrel
    by_cases hlt : k < 68
    · have HF : Hid (∀ W, S4 w (.slice (some ⟨bc, oc, none⟩) 68 c') c (.slice (some ⟨b0, o0, none⟩) 68 c0) m W → W.cell? ⟨b0, o0 + k, none⟩ = some (.int .i64 ((digC m k : Nat) : Int))) := hide (fun W hW => hW.2.2.1.at_ (unhide HG k hlt))
      have HAT' := hide (fun (W : World) (h : S4 w (.slice (some ⟨bc, oc, none⟩) 68 c') c (.slice (some ⟨b0, o0, none⟩) 68 c0) m W) => unhide HAT k W hlt h.2.1)
      have HAk := hide (fun W => unhide HA k W (by omega) (by omega))
      have HWk := hide (unhide HW k)
      have HLk := hide (unhide HL k)
      have HCk := hide (show ((chainAt c k).map u8v).length = 16 from by rw [List.length_map]; exact unhide HCL k)
      have HEk := hide (unhide HE k)
      have h3 := unhide H3' k
      have e3 : IntKind.i64.wrap (3 - ((digC m k : Nat) : Int)) = ((3 - digC m k : Nat) : Int) := by rw [IntKind.wrap_i64]; omega
      generalize hd : advS k (chainAt c k) (3 - digC m k) = d at *
      generalize digC m k = dk at *
      generalize hst : (chainAt c k).map u8v = st at *
      generalize 3 - dk = sk at *
      have hkI : (k : Int) < 68 := by omega
      clear hd hst
      go_upto_region 8 with fail
      refine wp_region_held_drew (S := S4 w (.slice (some ⟨bc, oc, none⟩) 68 c') c (.slice (some ⟨b0, o0, none⟩) 68 c0) m) (by kernel_rfl) ((unhide HI).2.ext ((Ext.refl _).drew)) (fun hHeld => ?_)
      refine wpAnyH_take (i := 0) (oi := _) (v := ?_) rfl (by kernel_rfl) (by kernel_rfl) (by kernel_rfl) (fun _ _ _ h => h) (Or.inl ⟨by rfl, fun wz hSz => ?_⟩) (by assumption) ?_
      rotate_left
      · (first | (go_simp; done) | (go_simp; with_reducible rfl) | (obtain f1 := (unhide HF) wz hSz; clear hSz; first | (go_simp; done) | (go_simp; with_reducible rfl)))
      try simp only [Act.put, List.setIfInBounds_toArray, List.set_cons_zero, List.set_cons_succ, List.getElem_toArray, List.getElem_cons_zero]
      refine wpAnyH_take (i := 1) (oi := _) (v := ?_) rfl (by kernel_rfl) (by kernel_rfl) (by kernel_rfl) (fun _ _ _ h => h) (Or.inl ⟨by rfl, fun wz hSz => ?_⟩) (by assumption) ?_
      rotate_left
      · (first | (go_simp; done) | (go_simp; with_reducible rfl) | (obtain f1 := (unhide HF) wz hSz; clear hSz; first | (go_simp; done) | (go_simp; with_reducible rfl)))
      try simp only [Act.put, List.setIfInBounds_toArray, List.set_cons_zero, List.set_cons_succ, List.getElem_toArray, List.getElem_cons_succ, List.getElem_cons_zero]
      refine wpAnyH_take (i := 2) (oi := _) (v := ?_) rfl (by kernel_rfl) (by kernel_rfl) (by kernel_rfl) (fun _ _ _ h => h) (Or.inl ⟨by rfl, fun wz hSz => ?_⟩) (by assumption) ?_
      rotate_left
      · (first | (go_simp; done) | (go_simp; with_reducible rfl) | (obtain f1 := (unhide HF) wz hSz; clear hSz; first | (go_simp; done) | (go_simp; with_reducible rfl)))
      try simp only [Act.put, List.setIfInBounds_toArray, List.set_cons_zero, List.set_cons_succ, List.getElem_toArray, List.getElem_cons_succ, List.getElem_cons_zero]
      refine wpAnyH_take (i := 3) (oi := _) (v := ?_) rfl (by kernel_rfl) (by kernel_rfl) (by kernel_rfl) (fun _ _ _ h => h) (Or.inl ⟨by rfl, fun wz hSz => ?_⟩) (by assumption) ?_
      rotate_left
      · (first | (go_simp; done) | (go_simp; with_reducible rfl) | (obtain f1 := (unhide HF) wz hSz; clear hSz; first | (go_simp; done) | (go_simp; with_reducible rfl)))
      try simp only [Act.put, List.setIfInBounds_toArray, List.set_cons_zero, List.set_cons_succ, List.getElem_toArray, List.getElem_cons_succ, List.getElem_cons_zero]
      refine wpAnyH_take (i := 4) (oi := _) (v := ?_) rfl (by kernel_rfl) (by kernel_rfl) (by kernel_rfl) (fun _ _ _ h => h) (Or.inl ⟨by rfl, fun wz hSz => ?_⟩) (by assumption) ?_
      rotate_left
      · (first | (go_simp; done) | (go_simp; with_reducible rfl) | (obtain f1 := (unhide HF) wz hSz; clear hSz; first | (go_simp; done) | (go_simp; with_reducible rfl)))
      try simp only [Act.put, List.setIfInBounds_toArray, List.set_cons_zero, List.set_cons_succ, List.getElem_toArray, List.getElem_cons_succ, List.getElem_cons_zero]
      refine wpAnyH_take (i := 5) (oi := _) (v := _) rfl (by kernel_rfl) (by kernel_rfl) (by kernel_rfl) (fun _ _ _ h => h) (ylm digest_wide rfl (by rfl) rfl (unhide HCk) (fun w' hw => unhide HAT' w' hw)) (by assumption) ?_
      try simp only [Act.put, List.setIfInBounds_toArray, List.set_cons_zero, List.set_cons_succ, List.getElem_toArray, List.getElem_cons_succ, List.getElem_cons_zero]
      refine wpAnyH_take (i := 6) (oi := _) (v := ?_) rfl (by kernel_rfl) (by kernel_rfl) (by kernel_rfl) (fun _ _ _ h => h) (Or.inl ⟨by rfl, fun wz hSz => ?_⟩) (by assumption) ?_
      rotate_left
      · (first | (go_simp; done) | (go_simp; with_reducible rfl) | (obtain f1 := (unhide HF) wz hSz; clear hSz; first | (go_simp; done) | (go_simp; with_reducible rfl)))
      try simp only [Act.put, List.setIfInBounds_toArray, List.set_cons_zero, List.set_cons_succ, List.getElem_toArray, List.getElem_cons_succ, List.getElem_cons_zero]
      refine wpAnyH_take (i := 7) (oi := _) (v := ?_) rfl (by kernel_rfl) (by kernel_rfl) (by kernel_rfl) (fun _ _ _ h => h) (Or.inl ⟨by rfl, fun wz hSz => ?_⟩) (by assumption) ?_
      rotate_left
      · (first | (go_simp; done) | (go_simp; with_reducible rfl) | (obtain f1 := (unhide HF) wz hSz; clear hSz; first | (go_simp; done) | (go_simp; with_reducible rfl)))
      try simp only [Act.put, List.setIfInBounds_toArray, List.set_cons_zero, List.set_cons_succ, List.getElem_toArray, List.getElem_cons_succ, List.getElem_cons_zero]
      refine wpAnyH_take (i := 8) (oi := _) (v := ?_) rfl (by kernel_rfl) (by kernel_rfl) (by kernel_rfl) (fun _ _ _ h => h) (Or.inl ⟨by rfl, fun wz hSz => ?_⟩) (by assumption) ?_
      rotate_left
      · (first | (go_simp; done) | (go_simp; with_reducible rfl) | (obtain f1 := (unhide HF) wz hSz; clear hSz; first | (go_simp; done) | (go_simp; with_reducible rfl)))
      try simp only [Act.put, List.setIfInBounds_toArray, List.set_cons_zero, List.set_cons_succ, List.getElem_toArray, List.getElem_cons_succ, List.getElem_cons_zero]
      refine wpAnyH_take (i := 9) (oi := _) (v := ?_) rfl (by kernel_rfl) (by kernel_rfl) (by kernel_rfl) (fun _ _ _ h => h) (Or.inl ⟨by rfl, fun wz hSz => ?_⟩) (by assumption) ?_
      rotate_left
      · (first | (go_simp; done) | (go_simp; with_reducible rfl) | (obtain f1 := (unhide HF) wz hSz; clear hSz; first | (go_simp; done) | (go_simp; with_reducible rfl)))
      try simp only [Act.put, List.setIfInBounds_toArray, List.set_cons_zero, List.set_cons_succ, List.getElem_toArray, List.getElem_cons_succ, List.getElem_cons_zero]
      refine wpAnyH_take (i := 10) (oi := _) (v := ?_) rfl (by kernel_rfl) (by kernel_rfl) (by kernel_rfl) (fun _ _ _ h => h) (Or.inl ⟨by rfl, fun wz hSz => ?_⟩) (by assumption) ?_
      rotate_left
      · (first | (go_simp; done) | (go_simp; with_reducible rfl) | (obtain f1 := (unhide HF) wz hSz; clear hSz; first | (go_simp; done) | (go_simp; with_reducible rfl)))
      try simp only [Act.put, List.setIfInBounds_toArray, List.set_cons_zero, List.set_cons_succ, List.getElem_toArray, List.getElem_cons_succ, List.getElem_cons_zero]
      refine wpAnyH_ready (rs := [11]) (by kernel_rfl) (by simp) (AllReadyH.cons (o := _) rfl (fun K hK => ?_) AllReadyH.nil)
      try go_simp
      (refine (unhide HAk _).mono ?_; rintro e w2 ⟨rfl, hE2⟩; have hS := hHeld.ext hE2; have H2 := hide (((Ext.refl wr).drew).trans hE2); clear hHeld hE2)
      refine hK.out _ _ ?_ (fun hHeld => ?_)
      · exact hS
      clear hK K
      try simp only [Act.put, List.setIfInBounds_toArray, List.set_cons_zero, List.set_cons_succ, List.getElem_toArray, List.getElem_cons_succ, List.getElem_cons_zero]
      refine wpAnyH_ready (rs := [12]) (by kernel_rfl) (by simp) (AllReadyH.cons (o := _) rfl (fun K hK => ?_) AllReadyH.nil)
      try go_simp
      (refine (unhide HWk _).mono ?_; rintro e w4 ⟨A4, c4, rfl, ho4, hE4⟩; have hS := hHeld.ext hE4; have H4 := hide (And.intro ho4 ((unhide H2).trans hE4)); clear hHeld hE4 H2 ho4)
      refine hK.out _ _ ?_ (fun hHeld => ?_)
      · exact hS
      clear hK K
      try simp only [Act.put, List.setIfInBounds_toArray, List.set_cons_zero, List.set_cons_succ, List.getElem_toArray, List.getElem_cons_succ, List.getElem_cons_zero]
      refine wpAnyH_ready (rs := [13]) (by kernel_rfl) (by simp) (AllReadyH.cons (o := _) rfl (fun K hK => ?_) AllReadyH.nil)
      (refine step_app rfl rfl u8_row rfl ((unhide HI).1.to (unhide H4).2).own rfl (unhide H4).1 (AllOne.u8 d) (by have := unhide HLk; omega) ((unhide HI).1.to (unhide H4).2).room ?_; intro A' c5 w5 ho hc5 hv; have hS := hHeld.chg (B := w1.heap.size) hc5 (fun j hj => ((unhide HI).1.own.lt j hj).1) (unhide H1).2.2.2.lt (unhide HOL) (fun j hj => by have := unhide HLT j hj; have := (unhide H1).1.size'; omega); have H5 := hide ((unhide HI).1.step (unhide H4).2 hc5 (l' := F k ++ d) (by rw [List.map_append]; exact ho)); clear ho hc5 hv hHeld)
      refine hK.out _ _ ?_ (fun hHeld => ?_)
      · exact hS
      clear hK K
      try simp only [Act.put, List.setIfInBounds_toArray, List.set_cons_zero, List.set_cons_succ, List.getElem_toArray, List.getElem_cons_succ, List.getElem_cons_zero]
      refine wpAnyH_take (i := 14) (oi := _) (v := ?_) rfl (by kernel_rfl) (by kernel_rfl) (by kernel_rfl) (fun _ _ _ h => h) (Or.inl ⟨by rfl, fun wz hSz => ?_⟩) (by assumption) ?_
      rotate_left
      · (first | (go_simp; done) | (go_simp; with_reducible rfl) | (obtain f1 := (unhide HF) wz hSz; clear hSz; first | (go_simp; done) | (go_simp; with_reducible rfl)))
      try simp only [Act.put, List.setIfInBounds_toArray, List.set_cons_zero, List.set_cons_succ, List.getElem_toArray, List.getElem_cons_succ, List.getElem_cons_zero]
      refine wpAnyH_done (by kernel_rfl) ?_ _
      have H6 := hide hHeld
      clear hHeld
      go_wp2
      go_roundw
      case rel =>
        have e16 : 16 * k + d.length = 16 * (k + 1) := by have := unhide HLk; omega
        refine ⟨k + 1, A', c5, by omega, by go_num, by rw [e16], hide ⟨?_, unhide H6⟩⟩
        rw [unhide HEk, ← e16]
        exact unhide H5
      case measure => simp [intOf]; omega
    · obtain rfl : k = 68 := by omega
      have HX := hide (show GB w w1.heap.size (.slice A (F 68).length c1) (F 68).length (F 68) wr from by rw [unhide HEL]; exact (unhide HI).1)
      have HZ2 := hide (unhide HI).2.2.2.2
      have e68 : 16 * 68 = (F 68).length := (unhide HEL).symm
      rw [e68]
      clear HI e68
      go_wp2_with (first
        | (go_at_call 38; refine (unhide HD _ A c1 _ (Reads.new1 _ _ _) ((unhide HX).reads.ext ((Ext.refl _).alloc _))).mono ?_; rintro e w5 ⟨rfl, hE5⟩; rw [(unhide HP).1]; have H5 := hide (((Ext.refl wr).alloc _).trans hE5); clear hE5)
        | (refine wpList_storeB (ty := 23) (t := 23) (x := .tmp 4) (y := .tmp 35) rfl rfl digest_wide rfl rfl ((unhide HZ2).ext (unhide H5)) rfl (by simpa using (unhide HP).2) (bytes_one _) ?_; intro w7 hb7 hc7 hz7; have H7 := hide (And.intro hb7 hc7); clear hb7 hc7 hz7))
      refine bodyPost_ret (v := .tuple #[.agg (res.map u8v).toArray, .int .i64 0]) (results_two digest_wide rfl (unhide H7).1 (by simpa using (unhide HP).2) rfl rfl) rfl ⟨rfl, ?_⟩
      exact ((unhide HX).ext.trans (unhide H5)).trans' (unhide H7).2 (fun _ _ h => h) (fun i hi e => by omega)

theorem rrecover_any (m : List UInt8) (c : List (List UInt8)) (cv : Value) (w : World) (hm : m.length = 16) (hD : Digs w cv c) :
    Calls Tryd.prog 19 #[.agg (m.map u8v).toArray, cv] w fun e w' => e = .returned (recV m c) ∧ Ext w w' := by
  unfold recV
  split
  · rename_i h; exact rrecover_yes m c cv w hm h hD
  · rename_i h; exact rrecover_no m c cv w h hD

end Go.Proofs.YtjemfefkgfoikaaDoor

/-
  Trees of one-time keys: Verify of the reference.
-/
namespace Go.Proofs.YtjemfefkgfoikaaDoor
open Go.RowKit

set_option maxRecDepth 100000 in
set_option maxHeartbeats 4000000 in
theorem rtver_neg (ra ma : Array Value) (h index : Int) (cv pv : Value) (w : World) (hi : index < 0) :
    Calls Tryd.prog 35 #[.agg ra, .int .i64 h, .agg ma, .agg #[.int .i64 index, cv, pv]] w fun e w' => e = .returned (.bool false) ∧ Ext w w' := by
  have HS := hide (VI.start w ra ma index cv pv)
  have hd : decide (index < 0) = true := decide_eq_true hi
  have HF : Hid (∀ W, VI w ra ma index cv pv W → W.cell? ⟨w.heap.size + 1 + 1, 0, none⟩ = some (.int .i64 index)) := hide (fun W hW => hW.cells.1)
  clear hi
  go_enter Tryd.func35, Tryd.ntmps35
  go_upto_region 1 with fail
  refine wp_region_held_drew (S := fun W => VI w ra ma index cv pv W) (by kernel_rfl) ((unhide HS).to (Ext.refl _).drew) (fun hHeld => ?_)
  refine wpAnyH_take (i := 0) (oi := _) (v := ?_) rfl (by kernel_rfl) (by kernel_rfl) (by kernel_rfl) (fun _ _ _ h => h) (Or.inl ⟨by rfl, fun wz hSz => ?_⟩) (by assumption) ?_
  rotate_left
  · (first | (go_simp; done) | (go_simp; with_reducible rfl) | (obtain f1 := (unhide HF) wz hSz; clear hSz; first | (go_simp; done) | (go_simp; with_reducible rfl)))
  try simp only [Act.put, List.setIfInBounds_toArray, List.set_cons_zero, List.set_cons_succ, List.getElem_toArray, List.getElem_cons_zero]
  refine wpAnyH_take (i := 1) (oi := _) (v := ?_) rfl (by kernel_rfl) (by kernel_rfl) (by kernel_rfl) (fun _ _ _ h => h) (Or.inl ⟨by rfl, fun wz hSz => ?_⟩) (by assumption) ?_
  rotate_left
  · (first | (go_simp; done) | (go_simp; with_reducible rfl) | (obtain f1 := (unhide HF) wz hSz; clear hSz; first | (go_simp; done) | (go_simp; with_reducible rfl)))
  try simp only [Act.put, List.setIfInBounds_toArray, List.set_cons_zero, List.set_cons_succ, List.getElem_toArray, List.getElem_cons_succ, List.getElem_cons_zero]
  refine wpAnyH_take (i := 2) (oi := _) (v := ?_) rfl (by kernel_rfl) (by kernel_rfl) (by kernel_rfl) (fun _ _ _ h => h) (Or.inl ⟨by rfl, fun wz hSz => ?_⟩) (by assumption) ?_
  rotate_left
  · (first | (go_simp; done) | (go_simp; with_reducible rfl) | (obtain f1 := (unhide HF) wz hSz; clear hSz; first | (go_simp; done) | (go_simp; with_reducible rfl)))
  try simp only [Act.put, List.setIfInBounds_toArray, List.set_cons_zero, List.set_cons_succ, List.getElem_toArray, List.getElem_cons_succ, List.getElem_cons_zero]
  refine wpAnyH_take (i := 3) (oi := _) (v := ?_) rfl (by kernel_rfl) (by kernel_rfl) (by kernel_rfl) (fun _ _ _ h => h) (Or.inl ⟨by rfl, fun wz hSz => ?_⟩) (by assumption) ?_
  rotate_left
  · (first | (go_simp; done) | (go_simp; with_reducible rfl) | (obtain f1 := (unhide HF) wz hSz; clear hSz; first | (go_simp; done) | (go_simp; with_reducible rfl)))
  try simp only [Act.put, List.setIfInBounds_toArray, List.set_cons_zero, List.set_cons_succ, List.getElem_toArray, List.getElem_cons_succ, List.getElem_cons_zero]
  refine wpAnyH_take (i := 4) (oi := _) (v := undef) rfl (by kernel_rfl) (by kernel_rfl) (by kernel_rfl) (fun _ _ _ h => h) (Or.inr ⟨by rfl, rfl⟩) (by assumption) ?_
  try simp only [Act.put, List.setIfInBounds_toArray, List.set_cons_zero, List.set_cons_succ, List.getElem_toArray, List.getElem_cons_succ, List.getElem_cons_zero]
  refine wpAnyH_take (i := 5) (oi := _) (v := undef) rfl (by kernel_rfl) (by kernel_rfl) (by kernel_rfl) (fun _ _ _ h => h) (Or.inr ⟨by rfl, rfl⟩) (by assumption) ?_
  try simp only [Act.put, List.setIfInBounds_toArray, List.set_cons_zero, List.set_cons_succ, List.getElem_toArray, List.getElem_cons_succ, List.getElem_cons_zero]
  refine wpAnyH_take (i := 6) (oi := _) (v := undef) rfl (by kernel_rfl) (by kernel_rfl) (by kernel_rfl) (fun _ _ _ h => h) (Or.inr ⟨by rfl, rfl⟩) (by assumption) ?_
  try simp only [Act.put, List.setIfInBounds_toArray, List.set_cons_zero, List.set_cons_succ, List.getElem_toArray, List.getElem_cons_succ, List.getElem_cons_zero]
  refine wpAnyH_take (i := 7) (oi := _) (v := undef) rfl (by kernel_rfl) (by kernel_rfl) (by kernel_rfl) (fun _ _ _ h => h) (Or.inr ⟨by rfl, rfl⟩) (by assumption) ?_
  try simp only [Act.put, List.setIfInBounds_toArray, List.set_cons_zero, List.set_cons_succ, List.getElem_toArray, List.getElem_cons_succ, List.getElem_cons_zero]
  refine wpAnyH_take (i := 8) (oi := _) (v := undef) rfl (by kernel_rfl) (by kernel_rfl) (by kernel_rfl) (fun _ _ _ h => h) (Or.inr ⟨by rfl, rfl⟩) (by assumption) ?_
  try simp only [Act.put, List.setIfInBounds_toArray, List.set_cons_zero, List.set_cons_succ, List.getElem_toArray, List.getElem_cons_succ, List.getElem_cons_zero]
  refine wpAnyH_take (i := 9) (oi := _) (v := ?_) rfl (by kernel_rfl) (by kernel_rfl) (by kernel_rfl) (fun _ _ _ h => h) (Or.inl ⟨by rfl, fun wz hSz => ?_⟩) (by assumption) ?_
  rotate_left
  · (first | (go_simp; done) | (go_simp; with_reducible rfl) | (obtain f1 := (unhide HF) wz hSz; clear hSz; first | (go_simp; done) | (go_simp; with_reducible rfl)))
  try simp only [Act.put, List.setIfInBounds_toArray, List.set_cons_zero, List.set_cons_succ, List.getElem_toArray, List.getElem_cons_succ, List.getElem_cons_zero]
  refine wpAnyH_done (by kernel_rfl) ?_ _
  have H9 := hide hHeld.ext
  clear hHeld
  go_wp2
  go_ret
  exact ⟨rfl, unhide H9⟩
set_option maxRecDepth 100000 in
set_option maxHeartbeats 4000000 in
theorem rtver_height (ra ma : Array Value) (h index : Int) (cv pv : Value) (w : World) (hh : ¬ okH h) (h0 : 0 ≤ index) :
    Calls Tryd.prog 35 #[.agg ra, .int .i64 h, .agg ma, .agg #[.int .i64 index, cv, pv]] w fun e w' => e = .returned (.bool false) ∧ Ext w w' := by
  have HV := hide (fun W => many_no h W hh)
  have HS := hide (VI.start w ra ma index cv pv)
  have hd : decide (index < 0) = false := decide_eq_false (by omega)
  have hd2 : decide (0 ≤ index) = true := decide_eq_true h0
  have HF : Hid (∀ W, VI w ra ma index cv pv W → W.cell? ⟨w.heap.size + 1 + 1, 0, none⟩ = some (.int .i64 index)) := hide (fun W hW => hW.cells.1)
  clear hh
  go_enter Tryd.func35, Tryd.ntmps35
  go_upto_region 1 with fail
  refine wp_region_held_drew (S := fun W => VI w ra ma index cv pv W) (by kernel_rfl) ((unhide HS).to (Ext.refl _).drew) (fun hHeld => ?_)
  refine wpAnyH_take (i := 0) (oi := _) (v := ?_) rfl (by kernel_rfl) (by kernel_rfl) (by kernel_rfl) (fun _ _ _ h => h) (Or.inl ⟨by rfl, fun wz hSz => ?_⟩) (by assumption) ?_
  rotate_left
  · (first | (go_simp; done) | (go_simp; with_reducible rfl) | (obtain f1 := (unhide HF) wz hSz; clear hSz; first | (go_simp; done) | (go_simp; with_reducible rfl)))
  try simp only [Act.put, List.setIfInBounds_toArray, List.set_cons_zero, List.set_cons_succ, List.getElem_toArray, List.getElem_cons_zero]
  refine wpAnyH_take (i := 1) (oi := _) (v := ?_) rfl (by kernel_rfl) (by kernel_rfl) (by kernel_rfl) (fun _ _ _ h => h) (Or.inl ⟨by rfl, fun wz hSz => ?_⟩) (by assumption) ?_
  rotate_left
  · (first | (go_simp; done) | (go_simp; with_reducible rfl) | (obtain f1 := (unhide HF) wz hSz; clear hSz; first | (go_simp; done) | (go_simp; with_reducible rfl)))
  try simp only [Act.put, List.setIfInBounds_toArray, List.set_cons_zero, List.set_cons_succ, List.getElem_toArray, List.getElem_cons_succ, List.getElem_cons_zero]
  refine wpAnyH_take (i := 2) (oi := _) (v := ?_) rfl (by kernel_rfl) (by kernel_rfl) (by kernel_rfl) (fun _ _ _ h => h) (Or.inl ⟨by rfl, fun wz hSz => ?_⟩) (by assumption) ?_
  rotate_left
  · (first | (go_simp; done) | (go_simp; with_reducible rfl) | (obtain f1 := (unhide HF) wz hSz; clear hSz; first | (go_simp; done) | (go_simp; with_reducible rfl)))
  try simp only [Act.put, List.setIfInBounds_toArray, List.set_cons_zero, List.set_cons_succ, List.getElem_toArray, List.getElem_cons_succ, List.getElem_cons_zero]
  refine wpAnyH_take (i := 3) (oi := _) (v := ?_) rfl (by kernel_rfl) (by kernel_rfl) (by kernel_rfl) (fun _ _ _ h => h) (Or.inl ⟨by rfl, fun wz hSz => ?_⟩) (by assumption) ?_
  rotate_left
  · (first | (go_simp; done) | (go_simp; with_reducible rfl) | (obtain f1 := (unhide HF) wz hSz; clear hSz; first | (go_simp; done) | (go_simp; with_reducible rfl)))
  try simp only [Act.put, List.setIfInBounds_toArray, List.set_cons_zero, List.set_cons_succ, List.getElem_toArray, List.getElem_cons_succ, List.getElem_cons_zero]
  refine wpAnyH_take (i := 4) (oi := _) (v := ?_) rfl (by kernel_rfl) (by kernel_rfl) (by kernel_rfl) (fun _ _ _ h => h) (Or.inl ⟨by rfl, fun wz hSz => ?_⟩) (by assumption) ?_
  rotate_left
  · (first | (go_simp; done) | (go_simp; with_reducible rfl) | (obtain f1 := (unhide HF) wz hSz; clear hSz; first | (go_simp; done) | (go_simp; with_reducible rfl)))
  try simp only [Act.put, List.setIfInBounds_toArray, List.set_cons_zero, List.set_cons_succ, List.getElem_toArray, List.getElem_cons_succ, List.getElem_cons_zero]
  refine wpAnyH_take (i := 5) (oi := _) (v := ?_) rfl (by kernel_rfl) (by kernel_rfl) (by kernel_rfl) (fun _ _ _ h => h) (Or.inl ⟨by rfl, fun wz hSz => ?_⟩) (by assumption) ?_
  rotate_left
  · (first | (go_simp; done) | (go_simp; with_reducible rfl) | (obtain f1 := (unhide HF) wz hSz; clear hSz; first | (go_simp; done) | (go_simp; with_reducible rfl)))
  try simp only [Act.put, List.setIfInBounds_toArray, List.set_cons_zero, List.set_cons_succ, List.getElem_toArray, List.getElem_cons_succ, List.getElem_cons_zero]
  refine wpAnyH_take (i := 6) (oi := _) (v := ?_) rfl (by kernel_rfl) (by kernel_rfl) (by kernel_rfl) (fun _ _ _ h => h) (Or.inl ⟨by rfl, fun wz hSz => ?_⟩) (by assumption) ?_
  rotate_left
  · (first | (go_simp; done) | (go_simp; with_reducible rfl) | (obtain f1 := (unhide HF) wz hSz; clear hSz; first | (go_simp; done) | (go_simp; with_reducible rfl)))
  try simp only [Act.put, List.setIfInBounds_toArray, List.set_cons_zero, List.set_cons_succ, List.getElem_toArray, List.getElem_cons_succ, List.getElem_cons_zero]
  refine wpAnyH_ready (rs := [7]) (by kernel_rfl) (by simp) (AllReadyH.cons (o := _) rfl (fun K hK => ?_) AllReadyH.nil)
  try go_simp
  (refine (unhide HV _).mono ?_; rintro e w3 ⟨rfl, rfl⟩; have hS := hHeld; clear hHeld)
  refine hK.out _ _ ?_ (fun hHeld => ?_)
  · exact hS
  clear hK K
  try simp only [Act.put, List.setIfInBounds_toArray, List.set_cons_zero, List.set_cons_succ, List.getElem_toArray, List.getElem_cons_succ, List.getElem_cons_zero]
  refine wpAnyH_take (i := 8) (oi := _) (v := ?_) rfl (by kernel_rfl) (by kernel_rfl) (by kernel_rfl) (fun _ _ _ h => h) (Or.inl ⟨by rfl, fun wz hSz => ?_⟩) (by assumption) ?_
  rotate_left
  · (first | (go_simp; done) | (go_simp; with_reducible rfl) | (obtain f1 := (unhide HF) wz hSz; clear hSz; first | (go_simp; done) | (go_simp; with_reducible rfl)))
  try simp only [Act.put, List.setIfInBounds_toArray, List.set_cons_zero, List.set_cons_succ, List.getElem_toArray, List.getElem_cons_succ, List.getElem_cons_zero]
  refine wpAnyH_take (i := 9) (oi := _) (v := ?_) rfl (by kernel_rfl) (by kernel_rfl) (by kernel_rfl) (fun _ _ _ h => h) (Or.inl ⟨by rfl, fun wz hSz => ?_⟩) (by assumption) ?_
  rotate_left
  · (first | (go_simp; done) | (go_simp; with_reducible rfl) | (obtain f1 := (unhide HF) wz hSz; clear hSz; first | (go_simp; done) | (go_simp; with_reducible rfl)))
  try simp only [Act.put, List.setIfInBounds_toArray, List.set_cons_zero, List.set_cons_succ, List.getElem_toArray, List.getElem_cons_succ, List.getElem_cons_zero]
  refine wpAnyH_done (by kernel_rfl) ?_ _
  have H9 := hide hHeld.ext
  clear hHeld
  go_wp2
  go_ret
  exact ⟨rfl, unhide H9⟩
set_option maxRecDepth 100000 in
set_option maxHeartbeats 4000000 in
theorem rtver_big (ra ma : Array Value) (h n : Nat) (hn : n = 2 ^ h) (hh : h ≤ 4) (index : Int) (cv pv : Value) (w : World) (hi : (n : Int) ≤ index) :
    Calls Tryd.prog 35 #[.agg ra, .int .i64 (h : Int), .agg ma, .agg #[.int .i64 index, cv, pv]] w fun e w' => e = .returned (.bool false) ∧ Ext w w' := by
  have HV := hide (fun W => many_yes h n hn hh W)
  have HS := hide (VI.start w ra ma index cv pv)
  have hd : decide (index < 0) = false := decide_eq_false (by omega)
  have hd2 : decide ((n : Int) ≤ index) = true := decide_eq_true hi
  have HF : Hid (∀ W, VI w ra ma index cv pv W → W.cell? ⟨w.heap.size + 1 + 1, 0, none⟩ = some (.int .i64 index)) := hide (fun W hW => hW.cells.1)
  clear hn hi
  go_enter Tryd.func35, Tryd.ntmps35
  go_upto_region 1 with fail
  refine wp_region_held_drew (S := fun W => VI w ra ma index cv pv W) (by kernel_rfl) ((unhide HS).to (Ext.refl _).drew) (fun hHeld => ?_)
  refine wpAnyH_take (i := 0) (oi := _) (v := ?_) rfl (by kernel_rfl) (by kernel_rfl) (by kernel_rfl) (fun _ _ _ h => h) (Or.inl ⟨by rfl, fun wz hSz => ?_⟩) (by assumption) ?_
  rotate_left
  · (first | (go_simp; done) | (go_simp; with_reducible rfl) | (obtain f1 := (unhide HF) wz hSz; clear hSz; first | (go_simp; done) | (go_simp; with_reducible rfl)))
  try simp only [Act.put, List.setIfInBounds_toArray, List.set_cons_zero, List.set_cons_succ, List.getElem_toArray, List.getElem_cons_zero]
  refine wpAnyH_take (i := 1) (oi := _) (v := ?_) rfl (by kernel_rfl) (by kernel_rfl) (by kernel_rfl) (fun _ _ _ h => h) (Or.inl ⟨by rfl, fun wz hSz => ?_⟩) (by assumption) ?_
  rotate_left
  · (first | (go_simp; done) | (go_simp; with_reducible rfl) | (obtain f1 := (unhide HF) wz hSz; clear hSz; first | (go_simp; done) | (go_simp; with_reducible rfl)))
  try simp only [Act.put, List.setIfInBounds_toArray, List.set_cons_zero, List.set_cons_succ, List.getElem_toArray, List.getElem_cons_succ, List.getElem_cons_zero]
  refine wpAnyH_take (i := 2) (oi := _) (v := ?_) rfl (by kernel_rfl) (by kernel_rfl) (by kernel_rfl) (fun _ _ _ h => h) (Or.inl ⟨by rfl, fun wz hSz => ?_⟩) (by assumption) ?_
  rotate_left
  · (first | (go_simp; done) | (go_simp; with_reducible rfl) | (obtain f1 := (unhide HF) wz hSz; clear hSz; first | (go_simp; done) | (go_simp; with_reducible rfl)))
  try simp only [Act.put, List.setIfInBounds_toArray, List.set_cons_zero, List.set_cons_succ, List.getElem_toArray, List.getElem_cons_succ, List.getElem_cons_zero]
  refine wpAnyH_take (i := 3) (oi := _) (v := ?_) rfl (by kernel_rfl) (by kernel_rfl) (by kernel_rfl) (fun _ _ _ h => h) (Or.inl ⟨by rfl, fun wz hSz => ?_⟩) (by assumption) ?_
  rotate_left
  · (first | (go_simp; done) | (go_simp; with_reducible rfl) | (obtain f1 := (unhide HF) wz hSz; clear hSz; first | (go_simp; done) | (go_simp; with_reducible rfl)))
  try simp only [Act.put, List.setIfInBounds_toArray, List.set_cons_zero, List.set_cons_succ, List.getElem_toArray, List.getElem_cons_succ, List.getElem_cons_zero]
  refine wpAnyH_take (i := 4) (oi := _) (v := ?_) rfl (by kernel_rfl) (by kernel_rfl) (by kernel_rfl) (fun _ _ _ h => h) (Or.inl ⟨by rfl, fun wz hSz => ?_⟩) (by assumption) ?_
  rotate_left
  · (first | (go_simp; done) | (go_simp; with_reducible rfl) | (obtain f1 := (unhide HF) wz hSz; clear hSz; first | (go_simp; done) | (go_simp; with_reducible rfl)))
  try simp only [Act.put, List.setIfInBounds_toArray, List.set_cons_zero, List.set_cons_succ, List.getElem_toArray, List.getElem_cons_succ, List.getElem_cons_zero]
  refine wpAnyH_take (i := 5) (oi := _) (v := ?_) rfl (by kernel_rfl) (by kernel_rfl) (by kernel_rfl) (fun _ _ _ h => h) (Or.inl ⟨by rfl, fun wz hSz => ?_⟩) (by assumption) ?_
  rotate_left
  · (first | (go_simp; done) | (go_simp; with_reducible rfl) | (obtain f1 := (unhide HF) wz hSz; clear hSz; first | (go_simp; done) | (go_simp; with_reducible rfl)))
  try simp only [Act.put, List.setIfInBounds_toArray, List.set_cons_zero, List.set_cons_succ, List.getElem_toArray, List.getElem_cons_succ, List.getElem_cons_zero]
  refine wpAnyH_take (i := 6) (oi := _) (v := ?_) rfl (by kernel_rfl) (by kernel_rfl) (by kernel_rfl) (fun _ _ _ h => h) (Or.inl ⟨by rfl, fun wz hSz => ?_⟩) (by assumption) ?_
  rotate_left
  · (first | (go_simp; done) | (go_simp; with_reducible rfl) | (obtain f1 := (unhide HF) wz hSz; clear hSz; first | (go_simp; done) | (go_simp; with_reducible rfl)))
  try simp only [Act.put, List.setIfInBounds_toArray, List.set_cons_zero, List.set_cons_succ, List.getElem_toArray, List.getElem_cons_succ, List.getElem_cons_zero]
  refine wpAnyH_ready (rs := [7]) (by kernel_rfl) (by simp) (AllReadyH.cons (o := _) rfl (fun K hK => ?_) AllReadyH.nil)
  try go_simp
  (refine (unhide HV _).mono ?_; rintro e w3 ⟨rfl, rfl⟩; have hS := hHeld; clear hHeld)
  refine hK.out _ _ ?_ (fun hHeld => ?_)
  · exact hS
  clear hK K
  try simp only [Act.put, List.setIfInBounds_toArray, List.set_cons_zero, List.set_cons_succ, List.getElem_toArray, List.getElem_cons_succ, List.getElem_cons_zero]
  refine wpAnyH_take (i := 8) (oi := _) (v := ?_) rfl (by kernel_rfl) (by kernel_rfl) (by kernel_rfl) (fun _ _ _ h => h) (Or.inl ⟨by rfl, fun wz hSz => ?_⟩) (by assumption) ?_
  rotate_left
  · (first | (go_simp; done) | (go_simp; with_reducible rfl) | (obtain f1 := (unhide HF) wz hSz; clear hSz; first | (go_simp; done) | (go_simp; with_reducible rfl)))
  try simp only [Act.put, List.setIfInBounds_toArray, List.set_cons_zero, List.set_cons_succ, List.getElem_toArray, List.getElem_cons_succ, List.getElem_cons_zero]
  refine wpAnyH_take (i := 9) (oi := _) (v := ?_) rfl (by kernel_rfl) (by kernel_rfl) (by kernel_rfl) (fun _ _ _ h => h) (Or.inl ⟨by rfl, fun wz hSz => ?_⟩) (by assumption) ?_
  rotate_left
  · (first | (go_simp; done) | (go_simp; with_reducible rfl) | (obtain f1 := (unhide HF) wz hSz; clear hSz; first | (go_simp; done) | (go_simp; with_reducible rfl)))
  try simp only [Act.put, List.setIfInBounds_toArray, List.set_cons_zero, List.set_cons_succ, List.getElem_toArray, List.getElem_cons_succ, List.getElem_cons_zero]
  refine wpAnyH_done (by kernel_rfl) ?_ _
  have H9 := hide hHeld.ext
  clear hHeld
  go_wp2
  go_ret
  exact ⟨rfl, unhide H9⟩
set_option maxRecDepth 100000 in
set_option maxHeartbeats 4000000 in
theorem rtver_chain (root msg : List UInt8) (h n : Nat) (hn : n = 2 ^ h) (hh : h ≤ 4) (i : Nat) (hi : i < n) (hm : msg.length = 16) (chain : List (List UInt8)) (cv pv : Value) (w : World) (hDc : Digs w cv chain) (hc : ¬ chain.length = 68) :
    Calls Tryd.prog 35 #[.agg (root.map u8v).toArray, .int .i64 (h : Int), .agg (msg.map u8v).toArray, .agg #[.int .i64 (i : Int), cv, pv]] w fun e w' => e = .returned (.bool false) ∧ Ext w w' := by
  have HR := hide (fun W (hE : Ext w W) => rrecover_no msg chain cv W hc (hDc.ext hE))
  obtain ⟨ra, hra⟩ : ∃ x, (root.map u8v).toArray = x := ⟨_, rfl⟩
  obtain ⟨ma, hma⟩ : ∃ x, (msg.map u8v).toArray = x := ⟨_, rfl⟩
  rw [hma] at HR
  rw [hra, hma]
  have HSZ := hide (show ma.size = 16 from by rw [← hma]; simpa using hm)
  have HV := hide (fun W => many_yes h n hn hh W)
  have HS := hide (VI.start w ra ma (i : Int) cv pv)
  have hd : decide ((i : Int) < 0) = false := decide_eq_false (by omega)
  have hd2 : decide ((n : Int) ≤ (i : Int)) = false := decide_eq_false (by omega)
  have hd3 : decide (n ≤ i) = false := decide_eq_false (by omega)
  have HF : Hid (∀ W, VI w ra ma (i : Int) cv pv W → W.cell? ⟨w.heap.size + 1 + 1, 0, none⟩ = some (.int .i64 (i : Int))) := hide (fun W hW => hW.cells.1)
  have HZ16 := hide (show (z16.map u8v).toArray.size = 16 ∧ (z16.map u8v).toArray.all (·.oneCell') = true from ⟨rfl, bytes_one _⟩)
  obtain ⟨za, hza⟩ : ∃ x, (z16.map u8v).toArray = x := ⟨_, rfl⟩
  rw [hza] at HR HZ16
  clear hn hi hra hma hza hDc hc hm
  go_enter Tryd.func35, Tryd.ntmps35
  go_upto_region 1 with fail
  refine wp_region_held_drew (S := fun W => VI w ra ma (i : Int) cv pv W) (by kernel_rfl) ((unhide HS).to (Ext.refl _).drew) (fun hHeld => ?_)
  refine wpAnyH_take (i := 0) (oi := _) (v := ?_) rfl (by kernel_rfl) (by kernel_rfl) (by kernel_rfl) (fun _ _ _ h => h) (Or.inl ⟨by rfl, fun wz hSz => ?_⟩) (by assumption) ?_
  rotate_left
  · (first | (go_simp; done) | (go_simp; with_reducible rfl) | (obtain f1 := (unhide HF) wz hSz; clear hSz; first | (go_simp; done) | (go_simp; with_reducible rfl)))
  try simp only [Act.put, List.setIfInBounds_toArray, List.set_cons_zero, List.set_cons_succ, List.getElem_toArray, List.getElem_cons_zero]
  refine wpAnyH_take (i := 1) (oi := _) (v := ?_) rfl (by kernel_rfl) (by kernel_rfl) (by kernel_rfl) (fun _ _ _ h => h) (Or.inl ⟨by rfl, fun wz hSz => ?_⟩) (by assumption) ?_
  rotate_left
  · (first | (go_simp; done) | (go_simp; with_reducible rfl) | (obtain f1 := (unhide HF) wz hSz; clear hSz; first | (go_simp; done) | (go_simp; with_reducible rfl)))
  try simp only [Act.put, List.setIfInBounds_toArray, List.set_cons_zero, List.set_cons_succ, List.getElem_toArray, List.getElem_cons_succ, List.getElem_cons_zero]
  refine wpAnyH_take (i := 2) (oi := _) (v := ?_) rfl (by kernel_rfl) (by kernel_rfl) (by kernel_rfl) (fun _ _ _ h => h) (Or.inl ⟨by rfl, fun wz hSz => ?_⟩) (by assumption) ?_
  rotate_left
  · (first | (go_simp; done) | (go_simp; with_reducible rfl) | (obtain f1 := (unhide HF) wz hSz; clear hSz; first | (go_simp; done) | (go_simp; with_reducible rfl)))
  try simp only [Act.put, List.setIfInBounds_toArray, List.set_cons_zero, List.set_cons_succ, List.getElem_toArray, List.getElem_cons_succ, List.getElem_cons_zero]
  refine wpAnyH_take (i := 3) (oi := _) (v := ?_) rfl (by kernel_rfl) (by kernel_rfl) (by kernel_rfl) (fun _ _ _ h => h) (Or.inl ⟨by rfl, fun wz hSz => ?_⟩) (by assumption) ?_
  rotate_left
  · (first | (go_simp; done) | (go_simp; with_reducible rfl) | (obtain f1 := (unhide HF) wz hSz; clear hSz; first | (go_simp; done) | (go_simp; with_reducible rfl)))
  try simp only [Act.put, List.setIfInBounds_toArray, List.set_cons_zero, List.set_cons_succ, List.getElem_toArray, List.getElem_cons_succ, List.getElem_cons_zero]
  refine wpAnyH_take (i := 4) (oi := _) (v := ?_) rfl (by kernel_rfl) (by kernel_rfl) (by kernel_rfl) (fun _ _ _ h => h) (Or.inl ⟨by rfl, fun wz hSz => ?_⟩) (by assumption) ?_
  rotate_left
  · (first | (go_simp; done) | (go_simp; with_reducible rfl) | (obtain f1 := (unhide HF) wz hSz; clear hSz; first | (go_simp; done) | (go_simp; with_reducible rfl)))
  try simp only [Act.put, List.setIfInBounds_toArray, List.set_cons_zero, List.set_cons_succ, List.getElem_toArray, List.getElem_cons_succ, List.getElem_cons_zero]
  refine wpAnyH_take (i := 5) (oi := _) (v := ?_) rfl (by kernel_rfl) (by kernel_rfl) (by kernel_rfl) (fun _ _ _ h => h) (Or.inl ⟨by rfl, fun wz hSz => ?_⟩) (by assumption) ?_
  rotate_left
  · (first | (go_simp; done) | (go_simp; with_reducible rfl) | (obtain f1 := (unhide HF) wz hSz; clear hSz; first | (go_simp; done) | (go_simp; with_reducible rfl)))
  try simp only [Act.put, List.setIfInBounds_toArray, List.set_cons_zero, List.set_cons_succ, List.getElem_toArray, List.getElem_cons_succ, List.getElem_cons_zero]
  refine wpAnyH_take (i := 6) (oi := _) (v := ?_) rfl (by kernel_rfl) (by kernel_rfl) (by kernel_rfl) (fun _ _ _ h => h) (Or.inl ⟨by rfl, fun wz hSz => ?_⟩) (by assumption) ?_
  rotate_left
  · (first | (go_simp; done) | (go_simp; with_reducible rfl) | (obtain f1 := (unhide HF) wz hSz; clear hSz; first | (go_simp; done) | (go_simp; with_reducible rfl)))
  try simp only [Act.put, List.setIfInBounds_toArray, List.set_cons_zero, List.set_cons_succ, List.getElem_toArray, List.getElem_cons_succ, List.getElem_cons_zero]
  refine wpAnyH_ready (rs := [7]) (by kernel_rfl) (by simp) (AllReadyH.cons (o := _) rfl (fun K hK => ?_) AllReadyH.nil)
  try go_simp
  (refine (unhide HV _).mono ?_; rintro e w3 ⟨rfl, rfl⟩; have hS := hHeld; clear hHeld)
  refine hK.out _ _ ?_ (fun hHeld => ?_)
  · exact hS
  clear hK K
  try simp only [Act.put, List.setIfInBounds_toArray, List.set_cons_zero, List.set_cons_succ, List.getElem_toArray, List.getElem_cons_succ, List.getElem_cons_zero]
  refine wpAnyH_take (i := 8) (oi := _) (v := ?_) rfl (by kernel_rfl) (by kernel_rfl) (by kernel_rfl) (fun _ _ _ h => h) (Or.inl ⟨by rfl, fun wz hSz => ?_⟩) (by assumption) ?_
  rotate_left
  · (first | (go_simp; done) | (go_simp; with_reducible rfl) | (obtain f1 := (unhide HF) wz hSz; clear hSz; first | (go_simp; done) | (go_simp; with_reducible rfl)))
  try simp only [Act.put, List.setIfInBounds_toArray, List.set_cons_zero, List.set_cons_succ, List.getElem_toArray, List.getElem_cons_succ, List.getElem_cons_zero]
  refine wpAnyH_take (i := 9) (oi := _) (v := ?_) rfl (by kernel_rfl) (by kernel_rfl) (by kernel_rfl) (fun _ _ _ h => h) (Or.inl ⟨by rfl, fun wz hSz => ?_⟩) (by assumption) ?_
  rotate_left
  · (first | (go_simp; done) | (go_simp; with_reducible rfl) | (obtain f1 := (unhide HF) wz hSz; clear hSz; first | (go_simp; done) | (go_simp; with_reducible rfl)))
  try simp only [Act.put, List.setIfInBounds_toArray, List.set_cons_zero, List.set_cons_succ, List.getElem_toArray, List.getElem_cons_succ, List.getElem_cons_zero]
  refine wpAnyH_done (by kernel_rfl) ?_ _
  have H1 := hide hHeld
  obtain ⟨f0, f1, f2⟩ := hHeld.cells
  clear hHeld
  go_wp2_with (first
    | (refine wpList_loadB (ty := 23) (t := 23) (x := .tmp 6) rfl rfl digest_wide rfl (cs := ma) (unhide H1).msg (unhide HSZ) ?_)
    | (go_at_call 19; refine (unhide HR _ (unhide H1).ext).mono ?_; rintro e w5 ⟨rfl, hE5⟩; have H5 := hide ((unhide H1).to hE5); clear hE5)
    | (refine wpList_storeB (ty := 23) (t := 23) (x := .tmp 9) (y := .tmp 26) rfl rfl digest_wide rfl rfl (Blk.new w5 _ _) rfl (unhide HZ16).1 (unhide HZ16).2 ?_; intro w7 hb7 hc7 hz7; have H7 := hide ((unhide H5).to (made_ext1 hc7)); clear hb7 hc7 hz7))
  go_ret
  exact ⟨rfl, (unhide H7).ext⟩
set_option maxRecDepth 100000 in
set_option maxHeartbeats 8000000 in
theorem rtver_in (root msg : List UInt8) (h n : Nat) (hn : n = 2 ^ h) (hh : h ≤ 4) (i : Nat) (hi : i < n) (chain path : List (List UInt8)) (cv pv : Value) (w : World) (hr : root.length = 16) (hm : msg.length = 16) (hDc : Digs w cv chain) (hDp : Digs w pv path) (hc : chain.length = 68) :
    Calls Tryd.prog 35 #[.agg (root.map u8v).toArray, .int .i64 (h : Int), .agg (msg.map u8v).toArray, .agg #[.int .i64 (i : Int), cv, pv]] w fun e w' => e = .returned (.bool (verifyS root n i (recoverS msg (chainAt chain)) path)) ∧ Ext w w' := by
  have hn16 : n ≤ 16 := by subst hn; exact pow_le16 h h (Nat.le_refl _) hh
  have hkl : (recoverS msg (chainAt chain)).length = 16 := digestS_length _ _
  have HR := hide (fun W (hE : Ext w W) => rrecover_yes msg chain cv W hm hc (hDc.ext hE))
  have HMV := hide (fun W (hE : Ext w W) => rmverify_in root (recoverS msg (chainAt chain)) n i path pv W hr hkl (by omega) (hDp.ext hE) hi)
  obtain ⟨res, hres⟩ : ∃ x, verifyS root n i (recoverS msg (chainAt chain)) path = x := ⟨_, rfl⟩
  rw [hres] at HMV ⊢
  obtain ⟨key, hkey⟩ : ∃ x, recoverS msg (chainAt chain) = x := ⟨_, rfl⟩
  rw [hkey] at HR HMV hkl
  obtain ⟨ra, hra⟩ : ∃ x, (root.map u8v).toArray = x := ⟨_, rfl⟩
  obtain ⟨ma, hma⟩ : ∃ x, (msg.map u8v).toArray = x := ⟨_, rfl⟩
  obtain ⟨ka, hka⟩ : ∃ x, (key.map u8v).toArray = x := ⟨_, rfl⟩
  have HSZ := hide (show ma.size = 16 ∧ ra.size = 16 ∧ ka.size = 16 ∧ ka.all (·.oneCell') = true from by rw [← hma, ← hra, ← hka]; exact ⟨by simpa using hm, by simpa using hr, by simpa using hkl, bytes_one _⟩)
  rw [hma, hka] at HR
  rw [hra, hka] at HMV
  rw [hra, hma]
  have HV := hide (fun W => many_yes h n hn hh W)
  have HS := hide (VI.start w ra ma (i : Int) cv pv)
  have hd : decide ((i : Int) < 0) = false := decide_eq_false (by omega)
  have hd2 : decide ((n : Int) ≤ (i : Int)) = false := decide_eq_false (by omega)
  have hd3 : decide (n ≤ i) = false := decide_eq_false (by omega)
  have HF : Hid (∀ W, VI w ra ma (i : Int) cv pv W → W.cell? ⟨w.heap.size + 1 + 1, 0, none⟩ = some (.int .i64 (i : Int))) := hide (fun W hW => hW.cells.1)
  clear hn hi hra hma hka hkey hres hDc hDp hc hm hr hkl
  go_enter Tryd.func35, Tryd.ntmps35
  go_upto_region 1 with fail
  refine wp_region_held_drew (S := fun W => VI w ra ma (i : Int) cv pv W) (by kernel_rfl) ((unhide HS).to (Ext.refl _).drew) (fun hHeld => ?_)
  refine wpAnyH_take (i := 0) (oi := _) (v := ?_) rfl (by kernel_rfl) (by kernel_rfl) (by kernel_rfl) (fun _ _ _ h => h) (Or.inl ⟨by rfl, fun wz hSz => ?_⟩) (by assumption) ?_
  rotate_left
  · (first | (go_simp; done) | (go_simp; with_reducible rfl) | (obtain f1 := (unhide HF) wz hSz; clear hSz; first | (go_simp; done) | (go_simp; with_reducible rfl)))
  try simp only [Act.put, List.setIfInBounds_toArray, List.set_cons_zero, List.set_cons_succ, List.getElem_toArray, List.getElem_cons_zero]
  refine wpAnyH_take (i := 1) (oi := _) (v := ?_) rfl (by kernel_rfl) (by kernel_rfl) (by kernel_rfl) (fun _ _ _ h => h) (Or.inl ⟨by rfl, fun wz hSz => ?_⟩) (by assumption) ?_
  rotate_left
  · (first | (go_simp; done) | (go_simp; with_reducible rfl) | (obtain f1 := (unhide HF) wz hSz; clear hSz; first | (go_simp; done) | (go_simp; with_reducible rfl)))
  try simp only [Act.put, List.setIfInBounds_toArray, List.set_cons_zero, List.set_cons_succ, List.getElem_toArray, List.getElem_cons_succ, List.getElem_cons_zero]
  refine wpAnyH_take (i := 2) (oi := _) (v := ?_) rfl (by kernel_rfl) (by kernel_rfl) (by kernel_rfl) (fun _ _ _ h => h) (Or.inl ⟨by rfl, fun wz hSz => ?_⟩) (by assumption) ?_
  rotate_left
  · (first | (go_simp; done) | (go_simp; with_reducible rfl) | (obtain f1 := (unhide HF) wz hSz; clear hSz; first | (go_simp; done) | (go_simp; with_reducible rfl)))
  try simp only [Act.put, List.setIfInBounds_toArray, List.set_cons_zero, List.set_cons_succ, List.getElem_toArray, List.getElem_cons_succ, List.getElem_cons_zero]
  refine wpAnyH_take (i := 3) (oi := _) (v := ?_) rfl (by kernel_rfl) (by kernel_rfl) (by kernel_rfl) (fun _ _ _ h => h) (Or.inl ⟨by rfl, fun wz hSz => ?_⟩) (by assumption) ?_
  rotate_left
  · (first | (go_simp; done) | (go_simp; with_reducible rfl) | (obtain f1 := (unhide HF) wz hSz; clear hSz; first | (go_simp; done) | (go_simp; with_reducible rfl)))
  try simp only [Act.put, List.setIfInBounds_toArray, List.set_cons_zero, List.set_cons_succ, List.getElem_toArray, List.getElem_cons_succ, List.getElem_cons_zero]
  refine wpAnyH_take (i := 4) (oi := _) (v := ?_) rfl (by kernel_rfl) (by kernel_rfl) (by kernel_rfl) (fun _ _ _ h => h) (Or.inl ⟨by rfl, fun wz hSz => ?_⟩) (by assumption) ?_
  rotate_left
  · (first | (go_simp; done) | (go_simp; with_reducible rfl) | (obtain f1 := (unhide HF) wz hSz; clear hSz; first | (go_simp; done) | (go_simp; with_reducible rfl)))
  try simp only [Act.put, List.setIfInBounds_toArray, List.set_cons_zero, List.set_cons_succ, List.getElem_toArray, List.getElem_cons_succ, List.getElem_cons_zero]
  refine wpAnyH_take (i := 5) (oi := _) (v := ?_) rfl (by kernel_rfl) (by kernel_rfl) (by kernel_rfl) (fun _ _ _ h => h) (Or.inl ⟨by rfl, fun wz hSz => ?_⟩) (by assumption) ?_
  rotate_left
  · (first | (go_simp; done) | (go_simp; with_reducible rfl) | (obtain f1 := (unhide HF) wz hSz; clear hSz; first | (go_simp; done) | (go_simp; with_reducible rfl)))
  try simp only [Act.put, List.setIfInBounds_toArray, List.set_cons_zero, List.set_cons_succ, List.getElem_toArray, List.getElem_cons_succ, List.getElem_cons_zero]
  refine wpAnyH_take (i := 6) (oi := _) (v := ?_) rfl (by kernel_rfl) (by kernel_rfl) (by kernel_rfl) (fun _ _ _ h => h) (Or.inl ⟨by rfl, fun wz hSz => ?_⟩) (by assumption) ?_
  rotate_left
  · (first | (go_simp; done) | (go_simp; with_reducible rfl) | (obtain f1 := (unhide HF) wz hSz; clear hSz; first | (go_simp; done) | (go_simp; with_reducible rfl)))
  try simp only [Act.put, List.setIfInBounds_toArray, List.set_cons_zero, List.set_cons_succ, List.getElem_toArray, List.getElem_cons_succ, List.getElem_cons_zero]
  refine wpAnyH_ready (rs := [7]) (by kernel_rfl) (by simp) (AllReadyH.cons (o := _) rfl (fun K hK => ?_) AllReadyH.nil)
  try go_simp
  (refine (unhide HV _).mono ?_; rintro e w3 ⟨rfl, rfl⟩; have hS := hHeld; clear hHeld)
  refine hK.out _ _ ?_ (fun hHeld => ?_)
  · exact hS
  clear hK K
  try simp only [Act.put, List.setIfInBounds_toArray, List.set_cons_zero, List.set_cons_succ, List.getElem_toArray, List.getElem_cons_succ, List.getElem_cons_zero]
  refine wpAnyH_take (i := 8) (oi := _) (v := ?_) rfl (by kernel_rfl) (by kernel_rfl) (by kernel_rfl) (fun _ _ _ h => h) (Or.inl ⟨by rfl, fun wz hSz => ?_⟩) (by assumption) ?_
  rotate_left
  · (first | (go_simp; done) | (go_simp; with_reducible rfl) | (obtain f1 := (unhide HF) wz hSz; clear hSz; first | (go_simp; done) | (go_simp; with_reducible rfl)))
  try simp only [Act.put, List.setIfInBounds_toArray, List.set_cons_zero, List.set_cons_succ, List.getElem_toArray, List.getElem_cons_succ, List.getElem_cons_zero]
  refine wpAnyH_take (i := 9) (oi := _) (v := ?_) rfl (by kernel_rfl) (by kernel_rfl) (by kernel_rfl) (fun _ _ _ h => h) (Or.inl ⟨by rfl, fun wz hSz => ?_⟩) (by assumption) ?_
  rotate_left
  · (first | (go_simp; done) | (go_simp; with_reducible rfl) | (obtain f1 := (unhide HF) wz hSz; clear hSz; first | (go_simp; done) | (go_simp; with_reducible rfl)))
  try simp only [Act.put, List.setIfInBounds_toArray, List.set_cons_zero, List.set_cons_succ, List.getElem_toArray, List.getElem_cons_succ, List.getElem_cons_zero]
  refine wpAnyH_done (by kernel_rfl) ?_ _
  have H1 := hide hHeld
  obtain ⟨f0, f1, f2⟩ := hHeld.cells
  clear hHeld HF
  go_upto_region 6 with (first
    | (refine wpList_loadB (ty := 23) (t := 23) (x := .tmp 6) rfl rfl digest_wide rfl (cs := ma) (unhide H1).msg (unhide HSZ).1 ?_)
    | (go_at_call 19; refine (unhide HR _ (unhide H1).ext).mono ?_; rintro e w5 ⟨rfl, hE5⟩; have H5 := hide ((unhide H1).to hE5); clear hE5)
    | (refine wpList_storeB (ty := 23) (t := 23) (x := .tmp 9) (y := .tmp 26) rfl rfl digest_wide rfl rfl (Blk.new w5 _ _) rfl (unhide HSZ).2.2.1 (unhide HSZ).2.2.2 ?_; intro w7 hb7 hc7 hz7; have H7 := hide (And.intro ((unhide H5).to (made_ext1 hc7)) hb7); clear hb7 hc7 hz7))
  have HF : Hid (∀ W, VI w ra ma (i : Int) cv pv W ∧ Blk W w5.heap.size 23 ka → W.cell? ⟨w.heap.size + 1 + 1, 0, none⟩ = some (.int .i64 (i : Int)) ∧ W.cell? ⟨w.heap.size + 1 + 1, 2, none⟩ = some pv) := hide (fun W hW => ⟨hW.1.cells.1, hW.1.cells.2.2⟩)
  clear f0 f1 f2
  refine wp_region_held_drew (S := fun W => VI w ra ma (i : Int) cv pv W ∧ Blk W w5.heap.size 23 ka) (by kernel_rfl) ⟨(unhide H7).1.to (Ext.refl _).drew, (unhide H7).2.drew⟩ (fun hHeld => ?_)
  refine wpAnyH_take (i := 0) (oi := _) (v := _) rfl (by kernel_rfl) (by kernel_rfl) (by kernel_rfl) (fun _ _ _ h => h) (ylb digest_wide rfl (by rfl) rfl (unhide HSZ).2.1 (fun w' hw => hw.1.root)) (by assumption) ?_
  try simp only [Act.put, List.setIfInBounds_toArray, List.set_cons_zero, List.set_cons_succ, List.getElem_toArray, List.getElem_cons_zero]
  refine wpAnyH_take (i := 1) (oi := _) (v := ?_) rfl (by kernel_rfl) (by kernel_rfl) (by kernel_rfl) (fun _ _ _ h => h) (Or.inl ⟨by rfl, fun wz hSz => ?_⟩) (by assumption) ?_
  rotate_left
  · (first | (go_simp; done) | (go_simp; with_reducible rfl) | (obtain ⟨f1, f2⟩ := (unhide HF) wz hSz; clear hSz; first | (go_simp; done) | (go_simp; with_reducible rfl)))
  try simp only [Act.put, List.setIfInBounds_toArray, List.set_cons_zero, List.set_cons_succ, List.getElem_toArray, List.getElem_cons_succ, List.getElem_cons_zero]
  refine wpAnyH_take (i := 3) (oi := _) (v := ?_) rfl (by kernel_rfl) (by kernel_rfl) (by kernel_rfl) (fun _ _ _ h => h) (Or.inl ⟨by rfl, fun wz hSz => ?_⟩) (by assumption) ?_
  rotate_left
  · (first | (go_simp; done) | (go_simp; with_reducible rfl) | (obtain ⟨f1, f2⟩ := (unhide HF) wz hSz; clear hSz; first | (go_simp; done) | (go_simp; with_reducible rfl)))
  try simp only [Act.put, List.setIfInBounds_toArray, List.set_cons_zero, List.set_cons_succ, List.getElem_toArray, List.getElem_cons_succ, List.getElem_cons_zero]
  refine wpAnyH_take (i := 4) (oi := _) (v := ?_) rfl (by kernel_rfl) (by kernel_rfl) (by kernel_rfl) (fun _ _ _ h => h) (Or.inl ⟨by rfl, fun wz hSz => ?_⟩) (by assumption) ?_
  rotate_left
  · (first | (go_simp; done) | (go_simp; with_reducible rfl) | (obtain ⟨f1, f2⟩ := (unhide HF) wz hSz; clear hSz; first | (go_simp; done) | (go_simp; with_reducible rfl)))
  try simp only [Act.put, List.setIfInBounds_toArray, List.set_cons_zero, List.set_cons_succ, List.getElem_toArray, List.getElem_cons_succ, List.getElem_cons_zero]
  refine wpAnyH_take (i := 5) (oi := _) (v := _) rfl (by kernel_rfl) (by kernel_rfl) (by kernel_rfl) (fun _ _ _ h => h) (ylb digest_wide rfl (by rfl) rfl (unhide HSZ).2.2.1 (fun w' hw => hw.2)) (by assumption) ?_
  try simp only [Act.put, List.setIfInBounds_toArray, List.set_cons_zero, List.set_cons_succ, List.getElem_toArray, List.getElem_cons_succ, List.getElem_cons_zero]
  refine wpAnyH_take (i := 6) (oi := _) (v := ?_) rfl (by kernel_rfl) (by kernel_rfl) (by kernel_rfl) (fun _ _ _ h => h) (Or.inl ⟨by rfl, fun wz hSz => ?_⟩) (by assumption) ?_
  rotate_left
  · (first | (go_simp; done) | (go_simp; with_reducible rfl) | (obtain ⟨f1, f2⟩ := (unhide HF) wz hSz; clear hSz; first | (go_simp; done) | (go_simp; with_reducible rfl)))
  try simp only [Act.put, List.setIfInBounds_toArray, List.set_cons_zero, List.set_cons_succ, List.getElem_toArray, List.getElem_cons_succ, List.getElem_cons_zero]
  refine wpAnyH_take (i := 7) (oi := _) (v := ?_) rfl (by kernel_rfl) (by kernel_rfl) (by kernel_rfl) (fun _ _ _ h => h) (Or.inl ⟨by rfl, fun wz hSz => ?_⟩) (by assumption) ?_
  rotate_left
  · (first | (go_simp; done) | (go_simp; with_reducible rfl) | (obtain ⟨f1, f2⟩ := (unhide HF) wz hSz; clear hSz; first | (go_simp; done) | (go_simp; with_reducible rfl)))
  try simp only [Act.put, List.setIfInBounds_toArray, List.set_cons_zero, List.set_cons_succ, List.getElem_toArray, List.getElem_cons_succ, List.getElem_cons_zero]
  refine wpAnyH_ready (rs := [2]) (by kernel_rfl) (by simp) (AllReadyH.cons (o := _) rfl (fun K hK => ?_) AllReadyH.nil)
  try go_simp
  (refine (unhide HV _).mono ?_; rintro e w3 ⟨rfl, rfl⟩; have hS := hHeld; clear hHeld)
  refine hK.out _ _ ?_ (fun hHeld => ?_)
  · exact hS
  clear hK K
  try simp only [Act.put, List.setIfInBounds_toArray, List.set_cons_zero, List.set_cons_succ, List.getElem_toArray, List.getElem_cons_succ, List.getElem_cons_zero]
  refine wpAnyH_ready (rs := [8]) (by kernel_rfl) (by simp) (AllReadyH.cons (o := _) rfl (fun K hK => ?_) AllReadyH.nil)
  try go_simp
  (refine (unhide HMV _ hHeld.1.ext).mono ?_; rintro e w8 ⟨rfl, hE8⟩; have hS := And.intro (hHeld.1.to hE8) (hHeld.2.ext hE8); clear hHeld hE8)
  refine hK.out _ _ ?_ (fun hHeld => ?_)
  · exact hS
  clear hK K
  try simp only [Act.put, List.setIfInBounds_toArray, List.set_cons_zero, List.set_cons_succ, List.getElem_toArray, List.getElem_cons_succ, List.getElem_cons_zero]
  refine wpAnyH_take (i := 9) (oi := _) (v := ?_) rfl (by kernel_rfl) (by kernel_rfl) (by kernel_rfl) (fun _ _ _ h => h) (Or.inl ⟨by rfl, fun wz hSz => ?_⟩) (by assumption) ?_
  rotate_left
  · (first | (go_simp; done) | (go_simp; with_reducible rfl) | (obtain ⟨f1, f2⟩ := (unhide HF) wz hSz; clear hSz; first | (go_simp; done) | (go_simp; with_reducible rfl)))
  try simp only [Act.put, List.setIfInBounds_toArray, List.set_cons_zero, List.set_cons_succ, List.getElem_toArray, List.getElem_cons_succ, List.getElem_cons_zero]
  refine wpAnyH_done (by kernel_rfl) ?_ _
  have H9 := hide hHeld.1.ext
  clear hHeld
  go_wp2
  go_ret
  exact ⟨rfl, unhide H9⟩

end Go.Proofs.YtjemfefkgfoikaaDoor

/-
  What the program and the reference of trees of keys return alike; parts of a parameter.
-/
namespace Go.Proofs.YtjemfefkgfoikaaDoor
open Go.RowKit

theorem blk_part {w : World} {g : Nat} {t : TypeId} {cs pre l post : List Value} (h : Blk w g t cs.toArray) (e : cs = pre ++ (l ++ post)) : w.rangeAt g pre.length l := fun j v hj => by
  have hl : j < l.length := by
    rcases Nat.lt_or_ge j l.length with h | h
    · exact h
    · rw [List.getElem?_eq_none h] at hj; cases hj
  rw [h.cell, List.getElem?_toArray, e, List.getElem?_append_right (by omega), Nat.add_sub_cancel_left, List.getElem?_append_left hl]
  exact hj
theorem blk_at {w : World} {g : Nat} {t : TypeId} {cs pre post : List Value} {v : Value} (h : Blk w g t cs.toArray) (e : cs = pre ++ (v :: post)) (k : Nat) (hk : pre.length = k) : w.cell? ⟨g, k, none⟩ = some v := by
  subst hk
  rw [h.cell, List.getElem?_toArray, e, List.getElem?_append_right (Nat.le_refl _), Nat.sub_self]
  rfl
def RootP (W : World) (r : List UInt8) (err : Int) (e : Ending) (w' : World) : Prop := e = .returned (.tuple #[.agg (r.map u8v).toArray, .int .i64 err]) ∧ Ext W w'
def SignP (W : World) (err i : Int) (chain path : List (List UInt8)) (e : Ending) (w' : World) : Prop := ∃ A c B d, e = .returned (.tuple #[.agg #[.int .i64 i, .slice A chain.length c, .slice B path.length d], .int .i64 err]) ∧ Digs w' (.slice A chain.length c) chain ∧ Digs w' (.slice B path.length d) path ∧ Ext W w'
theorem SignP.of_post {W : World} {i : Int} {chain path : List (List UInt8)} {e : Ending} {w' : World} (h : SignPost W i chain path e w') : SignP W 0 i chain path e w' := by
  obtain ⟨v, rfl, ⟨cv, pv, rfl, h1, h2⟩, hE⟩ := h
  obtain ⟨A, c, rfl, _, _⟩ := h1.form
  obtain ⟨B, d, rfl, _, _⟩ := h2.form
  exact ⟨A, c, B, d, rfl, h1, h2, hE⟩
theorem SignP.of_err {W : World} {err : Int} {e : Ending} {w' : World} (h : e = .returned (.tuple #[.agg #[.int .i64 0, .slice none 0 0, .slice none 0 0], .int .i64 err]) ∧ Ext W w') : SignP W err 0 [] [] e w' :=
  ⟨none, 0, none, 0, h.1, Digs.nil _, Digs.nil _, h.2⟩
theorem roots_agree (seed : List UInt8) (h : Int) (w : World) (hM : ShaMem w) (hv : seed.length = 16) : ∃ (r : List UInt8) (err : Int), r.length = 16 ∧
    (∀ W, Ext w W → Calls Tryd.prog 28 #[.agg (seed.map u8v).toArray, .int .i64 h] W (RootP W r err)) ∧ (∀ W, Calls Tryd.prog 29 #[.agg (seed.map u8v).toArray, .int .i64 h] W (RootP W r err)) := by
  by_cases ho : okH h
  · obtain ⟨k, rfl, hk⟩ := okH_cases h ho
    exact ⟨_, 0, rootS_length _, fun W hE => troot_yes seed k _ rfl hk W hv (hM.ext hE), fun W => rtroot_yes seed k _ rfl hk W hv⟩
  · exact ⟨z16, 1, rfl, fun W _ => troot_no seed h W ho, fun W => rtroot_no seed h W ho⟩
theorem signs_agree (seed msg : List UInt8) (h i : Int) (w : World) (hM : ShaMem w) (hv : seed.length = 16) (hm : msg.length = 16) : ∃ (err i' : Int) (chain path : List (List UInt8)), chain.length ≤ 100 ∧ path.length ≤ 100 ∧
    (∀ W, Ext w W → Calls Tryd.prog 30 #[.agg (seed.map u8v).toArray, .int .i64 h, .int .i64 i, .agg (msg.map u8v).toArray] W (SignP W err i' chain path)) ∧ (∀ W, Calls Tryd.prog 31 #[.agg (seed.map u8v).toArray, .int .i64 h, .int .i64 i, .agg (msg.map u8v).toArray] W (SignP W err i' chain path)) := by
  by_cases ho : okH h
  · obtain ⟨k, rfl, hk⟩ := okH_cases h ho
    by_cases hi : i < 0
    · exact ⟨1, 0, [], [], by simp, by simp, fun W _ => (tsign_arg seed msg _ i W (.inr hi)).mono fun _ _ h => SignP.of_err h, fun W => (rtsign_arg seed msg _ i W (.inr hi)).mono fun _ _ h => SignP.of_err h⟩
    · obtain ⟨j, rfl⟩ : ∃ j : Nat, i = (j : Int) := ⟨i.toNat, by omega⟩
      by_cases hj : j < 2 ^ k
      · refine ⟨0, j, signS seed (j : Int) msg 68, proveS (leavesS seed (2 ^ k)) j, by rw [signS_length]; omega, by rw [prove_height k _ rfl hk seed j hj]; omega, fun W hE => (tsign_yes seed msg k _ rfl hk j hj W hv hm (hM.ext hE)).mono fun _ _ h => SignP.of_post h, fun W => (rtsign_yes seed msg k _ rfl hk j hj W hv hm).mono fun _ _ h => SignP.of_post h⟩
      · exact ⟨17, 0, [], [], by simp, by simp, fun W _ => (tsign_out seed msg k _ rfl hk j W (by omega)).mono fun _ _ h => SignP.of_err h, fun W => (rtsign_out seed msg k _ rfl hk j W (by omega)).mono fun _ _ h => SignP.of_err h⟩
  · exact ⟨1, 0, [], [], by simp, by simp, fun W _ => (tsign_arg seed msg _ i W (.inl ho)).mono fun _ _ h => SignP.of_err h, fun W => (rtsign_arg seed msg _ i W (.inl ho)).mono fun _ _ h => SignP.of_err h⟩
theorem vers_agree (root msg : List UInt8) (h i : Int) (chain path : List (List UInt8)) (cv pv : Value) (w : World) (hM : ShaMem w) (hr : root.length = 16) (hm : msg.length = 16) (hDc : Digs w cv chain) (hDp : Digs w pv path) (hpl : path.length ≤ 1000) : ∃ b : Bool,
    (∀ W, Ext w W → Calls Tryd.prog 34 #[.agg (root.map u8v).toArray, .int .i64 h, .agg (msg.map u8v).toArray, .agg #[.int .i64 i, cv, pv]] W fun e w' => e = .returned (.bool b) ∧ Ext W w') ∧
    (∀ W, Ext w W → Calls Tryd.prog 35 #[.agg (root.map u8v).toArray, .int .i64 h, .agg (msg.map u8v).toArray, .agg #[.int .i64 i, cv, pv]] W fun e w' => e = .returned (.bool b) ∧ Ext W w') ∧
    (b = true → okH h ∧ 0 ≤ i ∧ ∃ k j : Nat, h = (k : Int) ∧ i = (j : Int) ∧ j < 2 ^ k ∧ chain.length = 68 ∧ verifyS root (2 ^ k) j (recoverS msg (chainAt chain)) path = true) := by
  by_cases hi : i < 0
  · by_cases ho : okH h
    · exact ⟨false, fun W _ => tver_neg _ _ h i cv pv W ho hi, fun W _ => rtver_neg _ _ h i cv pv W hi, fun h => nomatch h⟩
    · exact ⟨false, fun W _ => tver_height _ _ h i cv pv W ho, fun W _ => rtver_neg _ _ h i cv pv W hi, fun h => nomatch h⟩
  · by_cases ho : okH h
    · obtain ⟨k, rfl, hk⟩ := okH_cases h ho
      obtain ⟨j, rfl⟩ : ∃ j : Nat, i = (j : Int) := ⟨i.toNat, by omega⟩
      by_cases hj : j < 2 ^ k
      · by_cases hc : chain.length = 68
        · exact ⟨_, fun W hE => tver_in root msg k _ rfl hk j hj chain path cv pv W (hM.ext hE) hr hm (hDc.ext hE) (hDp.ext hE) (by omega) hc, fun W hE => rtver_in root msg k _ rfl hk j hj chain path cv pv W hr hm (hDc.ext hE) (hDp.ext hE) hc, fun h => ⟨ho, by omega, k, j, rfl, rfl, hj, hc, h⟩⟩
        · exact ⟨false, fun W hE => tver_chain root msg k _ rfl hk j hj hm chain cv pv W (hDc.ext hE) hc, fun W hE => rtver_chain root msg k _ rfl hk j hj hm chain cv pv W (hDc.ext hE) hc, fun h => nomatch h⟩
      · exact ⟨false, fun W _ => tver_big _ _ k _ rfl hk j cv pv W (by omega), fun W _ => rtver_big _ _ k _ rfl hk j cv pv W (by omega), fun h => nomatch h⟩
    · exact ⟨false, fun W _ => tver_height _ _ h i cv pv W ho, fun W _ => rtver_height _ _ h i cv pv W ho (by omega), fun h => nomatch h⟩

end Go.Proofs.YtjemfefkgfoikaaDoor
