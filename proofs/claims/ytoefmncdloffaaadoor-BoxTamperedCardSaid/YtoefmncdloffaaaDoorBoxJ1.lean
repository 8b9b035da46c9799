
/-
  The law BoxTampered: the changed nonce.
-/
import Derived.Test.YtoefmncdloffaaaDoorBoxQ
namespace Go.Proofs.YtoefmncdloffaaaDoor
open Go.RowKit

theorem wpList_loadBG1 {P : Program} {ops : Array Oper} {rest : List Oper} {o : Oper} {a : Act} {w : World} {Q : Exit → Act → World → Prop} (hgd : Region.wanted o (yielded ops a.tmps) = true) {ty : TypeId} {x : Operand} (ho : o.op = .load ty x) {n : Nat} (W : Wide P ty n)
    {g : Nat} (hx : a.eval x = .pointer (some ⟨g, 0, none⟩)) {t : TypeId} {cs : Array Value} (hB : Blk w g t cs) (hn : cs.size = n) (h : wpList P ops Q rest (a.put o.dst (.agg cs)) w) : wpList P ops Q (o :: rest) a w :=
  Go.BigFrame.wpList_want hgd fun _ hK => wp_loadB ho W hx hB hn (hK _ _ h)

set_option maxRecDepth 100000 in
set_option maxHeartbeats 8000000 in
theorem tam1_any (key : List UInt8) (nonce : Int) (plain : ByteArray) (pos : Nat) (by' : UInt8) (what : Nat) (w : World) (hM : ShaMem w) (hk : key.length = 16) (h1 : -9223372036854775808 ≤ nonce) (h2 : nonce < 9223372036854775808) (hp : pos < 65536) (hw : what < 256) (hr : what % 3 = 1) (h3 : ¬ 300 < plain.size) (h0 : ¬ by'.toNat = 0) :
    Calls Tryd.prog 3 #[.agg (key.map u8v).toArray, .int .i64 nonce, .string plain, .int .u16 (pos : Int), .int .u8 (by'.toNat : Int), .int .u8 (what : Int)] w fun e w' => e = .returned (.bool true) ∧ Ext w w' := by
  have HM := hide hM
  clear hM
  have d1 : decide ((300 : Int) < (plain.size : Int)) = false := decide_eq_false (by omega)
  have d0 : ((by'.toNat : Int) == 0) = false := by simp; omega
  have d0' : ¬ (by'.toNat : Int) = 0 := by omega
  obtain ⟨cs, hcs⟩ : ∃ c, strOf (applyS key nonce plain.data.toList) = c := ⟨_, rfl⟩
  have hcz : cs.size = plain.size := by rw [← hcs, strOf_size, applyS_length]; exact Array.length_toList
  have HSeal := hide (fun W hW => seal_any key nonce plain W hW hk h1 h2 (by omega))
  obtain ⟨tg, htg⟩ : ∃ l, tagS key nonce (applyS key nonce plain.data.toList) = l := ⟨_, rfl⟩
  have htl : tg.length = 16 := by rw [← htg]; exact tagS_length _ _ _
  have HTC := hide (show tagS key nonce cs.data.toList = tg from by rw [← hcs, strOf_list]; exact htg)
  rw [htg, hcs] at HSeal
  obtain ⟨tv, htv⟩ : ∃ l, tg.map u8v = l := ⟨_, rfl⟩
  have HTV := hide (show tv.length = 16 ∧ (boxL nonce cs tv).all (·.oneCell') = true from by rw [← htv]; exact ⟨by simpa using htl, boxL_one⟩)
  rw [boxV_eq, htv] at HSeal
  obtain ⟨arr, harr⟩ : ∃ r, (key.map u8v).toArray = r := ⟨_, rfl⟩
  have hasz : arr.size = 16 := by rw [← harr]; simpa using hk
  rw [harr] at HSeal ⊢
  have HTG := hide (And.intro htg (And.intro htl htv))
  have HA := hide harr
  clear hcs htg htl htv harr
  go_enter Tryd.func3, Tryd.ntmps3
  go_upto_region 6 with (first
    | (go_at_call 12; refine (sanity6_any _ ((unhide HM).ext ((Ext.refl w).alloc _))).mono ?_; rintro e w1 ⟨rfl, hE1⟩; have H1 := hide (And.intro (((Ext.refl w).alloc _).trans hE1) ((Blk.new w 23 arr).ext hE1)); clear hE1)
    | (refine wpList_loadB (ty := 23) (t := 23) (x := .tmp 6) rfl rfl digest_wide rfl (cs := arr) (unhide H1).2 hasz ?_)
    | (go_at_call 13; refine (unhide HSeal _ ((unhide HM).ext (unhide H1).1)).mono ?_; rintro e w2 ⟨rfl, hE2⟩; have H2 := hide (And.intro ((unhide H1).1.trans hE2) ((unhide H1).2.ext hE2)); clear hE2)
    | (refine wpList_storeB (ty := 27) (t := 27) (x := .tmp 14) (y := .tmp 35) (cs := boxL nonce cs tv) rfl rfl box_wide rfl rfl (Blk.new w2 _ _) rfl (boxL_size (unhide HTV).1) (unhide HTV).2 ?_; intro w3 hb3 hc3 hz3; have H3 := hide (And.intro (made_ext (unhide H2).1 hc3) (And.intro ((unhide H2).2.ext (made_ext1 hc3)) hb3)); clear hb3 hc3 hz3)
    | (refine wpList_loadB (ty := 27) (t := 27) (x := .tmp 14) rfl rfl box_wide rfl (cs := boxL nonce cs tv) (unhide H3).2.2 (boxL_size (unhide HTV).1) ?_)
    | (refine wpList_storeB (ty := 27) (t := 27) (x := .tmp 15) (y := .tmp 36) (cs := boxL nonce cs tv) rfl rfl box_wide rfl rfl (Blk.new w3 _ _) rfl (boxL_size (unhide HTV).1) (unhide HTV).2 ?_; intro w4 hb4 hc4 hz4; have H4 := hide (And.intro (made_ext (unhide H3).1 hc4) (And.intro ((unhide H3).2.1.ext (made_ext1 hc4)) (And.intro ((unhide H3).2.2.ext (made_ext1 hc4)) hb4))); clear hb4 hc4 hz4))
  have hrI : (what : Int) % 3 = 1 := by omega
  have cx : w4.cell? ⟨w3.heap.size, 0, none⟩ = some (.int .i64 nonce) := by rw [(unhide H4).2.2.2.cell]; rfl
  have fx := (unhide H4).2.2.2.frozen 0
  go_upto_region 21 with fail
  obtain ⟨n1, hn1⟩ : ∃ x, wrap64 (nonce + wrap64 (by'.toNat : Int)) = x := ⟨_, rfl⟩
  have hb1 : -9223372036854775808 ≤ n1 ∧ n1 < 9223372036854775808 := by rw [← hn1]; unfold wrap64; omega
  rw [hn1]
  obtain ⟨c1, hc1⟩ : ∃ x, cs = x := ⟨_, rfl⟩
  clear h1 h2
  have h1 := hb1.1
  have h2 := hb1.2
  have hcs1 : c1.size ≤ 300 := by rw [← hc1]; omega
  have ht := (unhide HTG).2.1
  have htl := (unhide HTV).1
  have hlw : w.heap.size < w3.heap.size := (unhide H3).2.1.lt
  have hl2 : w2.heap.size < w3.heap.size := (unhide H3).2.2.lt
  have H5 := hide (And.intro ((unhide H4).1.setCell (p := ⟨w3.heap.size, 0, none⟩) (by show w.heap.size ≤ w3.heap.size; omega) (.int .i64 n1)) (And.intro ((unhide H4).2.1.far' (show ¬ w.heap.size = w3.heap.size by omega) 0 (.int .i64 n1)) (And.intro (show Blk (w4.setCell ⟨w3.heap.size, 0, none⟩ (.int .i64 n1)) w3.heap.size 27 (boxL n1 c1 tv) from by rw [← hc1]; exact (unhide H4).2.2.2.set_ 0 (.int .i64 n1)) ((unhide H4).2.2.1.far' (show ¬ w2.heap.size = w3.heap.size by omega) 0 (.int .i64 n1)))))
  generalize w4.setCell ⟨w3.heap.size, 0, none⟩ (.int .i64 n1) = W5 at *
  obtain ⟨gb, hgb⟩ : ∃ x, w3.heap.size = x := ⟨_, rfl⟩
  rw [hgb] at H5 ⊢
  obtain ⟨dk, hdk⟩ : ∃ d, deriveS key labAuth.data.toList [] = d := ⟨_, rfl⟩
  have hdl : dk.length = 16 := by rw [← hdk]; exact deriveS_length _ _ _
  have HDK := hide hdk
  clear hdk
  go_upto_region 21 with fail
  go_wp2_with fail
  refine (derive_any key _ labAuth [] _ _ ((unhide HM).ext (unhide H5).1) ?_ (by omega) (by decide) (Parts.nil _) (by simp) (fun p hp => by cases hp)).mono ?_
  · have := Reads.of_blk (unhide H5).2.1 (i := 0) (n := 16) (c := 16) (by omega) (by omega) (by unfold maxLen; omega)
    rw [← unhide HA] at this
    simp only [List.drop_zero] at this
    rw [List.take_of_length_le (by rw [List.length_map]; omega)] at this
    rw [hk]
    exact this
  rintro e w6 ⟨rfl, hE6⟩
  rw [unhide HDK]
  have H6 := hide (And.intro ((unhide H5).1.trans hE6) (And.intro ((unhide H5).2.1.ext hE6) (And.intro ((unhide H5).2.2.1.ext hE6) ((unhide H5).2.2.2.ext hE6))))
  clear hE6 H5
  have HMT := hide (show mac dk (wInt n1 ++ wBytes c1.data.toList) = tagS key n1 c1.data.toList from by rw [← unhide HDK]; rfl)
  have HS := hide (show ((dk.map u8v).toArray).size = 16 from by simpa using hdl)
  go_upto_region 22 with (refine wpList_storeB (ty := 23) (t := 23) (x := .tmp 19) (y := .tmp 108) rfl rfl digest_wide rfl rfl (Blk.new w6 _ _) rfl (unhide HS) (bytes_one _) ?_; intro w7 hb7 hc7 hz7; have H7 := hide (And.intro (made_ext (unhide H6).1 hc7) (And.intro ((unhide H6).2.1.ext (made_ext1 hc7)) (And.intro ((unhide H6).2.2.1.ext (made_ext1 hc7)) (And.intro hb7 ((unhide H6).2.2.2.ext (made_ext1 hc7)))))); clear hb7 hc7 hz7)
  clear H6
  have HW1 := hide (fun w => wint_any n1 w h1 h2)
  have HW2 := hide (fun w => wbytes_any c1 w (by omega))
  have hl1 := wInt_length n1
  have hl2 := wBytes_length c1.data.toList
  have hcl : c1.data.toList.length = c1.size := by rw [Array.length_toList]; rfl
  have HMC := hide (fun (W : World) (A : Option Addr) (cc : Nat) (hE : Ext w7 W) (hr : Reads W 1 (.slice A ((wInt n1).length + (wBytes c1.data.toList).length) cc) ((wInt n1).length + (wBytes c1.data.toList).length) ((wInt n1).map u8v ++ (wBytes c1.data.toList).map u8v)) =>
    mac_any dk (wInt n1 ++ wBytes c1.data.toList) (.slice (some ⟨w6.heap.size, 0, none⟩) 16 16) (.slice A ((wInt n1).length + (wBytes c1.data.toList).length) cc) W ((unhide HM).ext ((unhide H7).1.trans hE))
      (by
        have := Reads.of_blk ((unhide H7).2.2.2.1.ext hE) (i := 0) (n := 16) (c := 16) (by simp; omega) (by omega) (by unfold maxLen; omega)
        simp only [List.drop_zero] at this
        rw [List.take_of_length_le (by simp; omega)] at this
        rw [hdl]
        exact this) (by rw [List.length_append, List.map_append]; exact hr) (by omega) (by rw [List.length_append]; omega))
  rw [unhide HMT] at HMC
  have HTS := hide (tagS_length key n1 c1.data.toList)
  have HOY := hide (fun (hyes : tagS key n1 c1.data.toList = tg) W (hE : Ext w W) => open_yes key n1 c1 tg W ((unhide HM).ext hE) hk ht h1 h2 (by omega) hyes)
  have HON := hide (fun (hno : ¬ tagS key n1 c1.data.toList = tg) W (hE : Ext w W) => open_no key n1 c1 tg W ((unhide HM).ext hE) hk ht h1 h2 (by omega) hno)
  have hne := fun W => ne16 (tagS_length key n1 c1.data.toList) ht W
  have heq := fun W => eq16 (tagS_length key n1 c1.data.toList) ht W
  have HAL := hide (applyS_length key n1 c1.data.toList)
  rw [boxV_eq, unhide HA, (unhide HTG).2.2] at HOY HON
  obtain ⟨macA, hmacA⟩ : ∃ r, ((tagS key n1 c1.data.toList).map u8v).toArray = r := ⟨_, rfl⟩
  have HMA := hide (show macA.size = 16 ∧ macA.all (·.oneCell') = true from by rw [← hmacA]; exact ⟨by simpa using unhide HTS, bytes_one _⟩)
  have HTW := hide (show tv.toArray.size = 16 from by simpa using htl)
  rw [hmacA] at HMC hne heq
  rw [(unhide HTG).2.2] at hne heq
  clear hmacA
  go_simp
  refine region_facts 13 _ [some 109, some 110, some 111, some 112, some 113, some 114, some 115, some 116, some 117, some 118, some 119, some 20, none] [12]
    (fun _ _ W => Ext w7 W) (fun i => if i = 12 then 11 else i) (AuthF w7 w6.heap.size gb n1 c1 (wInt n1) (wBytes c1.data.toList) macA) rfl (by kernel_rfl) (by simp) (by kernel_rfl) (by kernel_rfl) (by kernel_rfl) (by kernel_rfl) (.inl (by kernel_rfl)) (fun _ => (Ext.refl _).drew) ?steps ?fin
  case steps =>
    simp only [List.take_succ_cons, List.take_zero, StepsOK, Nat.zero_add, Nat.reduceAdd, and_true]
    refine ⟨?_, ?_, ?_, ?_, ?_, ?_, ?_, ?_, ?_, ?_, ?_, ?_, ?_⟩
    · intro L xs W K hB hC hi hd hL hK
      try dsimp only at hB hK
      simp only [setAll, putL, Act.put, List.setIfInBounds_toArray, List.set_cons_succ, List.set_cons_zero, Nat.zero_add, Nat.reduceAdd] at hK ⊢
      go_simp
      exact hK _ _ rfl (fun j _ _ _ _ h => h) hB
    · intro L xs W K hB hC hi hd hL hK
      try dsimp only at hB hK
      simp only [setAll, putL, Act.put, List.setIfInBounds_toArray, List.set_cons_succ, List.set_cons_zero, Nat.zero_add, Nat.reduceAdd] at hK ⊢
      go_simp
      exact hK _ _ ⟨by simp, .inr ⟨W.heap.size, 0, #[], rfl, hB.size', heap_alloc_new W _, Nat.le_refl _, Nat.zero_le _, rfl, rfl⟩⟩ (fun j _ _ _ _ h => h.ext ((Ext.refl _).alloc _)) (hB.alloc _)
    · intro L xs W K hB hC hi hd hL hK
      try dsimp only at hB hK
      simp only [setAll, putL, Act.put, List.setIfInBounds_toArray, List.set_cons_succ, List.set_cons_zero, Nat.zero_add, Nat.reduceAdd] at hK ⊢
      go_simp
      exact hK _ _ rfl (fun j _ _ _ _ h => h) hB
    · intro L xs W K hB hC hi hd hL hK
      try dsimp only at hB hK
      simp only [setAll, putL, Act.put, List.setIfInBounds_toArray, List.set_cons_succ, List.set_cons_zero, Nat.zero_add, Nat.reduceAdd] at hK ⊢
      have d2 : xs 2 = _ := (hd 2 (by omega) (by kernel_rfl)).2
      have q1 : W.cell? ⟨gb, 0, none⟩ = some (.int .i64 n1) := by rw [((unhide H7).2.2.1.ext hB).cell]; rfl
      simp only [d2] at hK ⊢
      go_simp
      exact hK _ _ rfl (fun j _ _ _ _ h => h) hB
    · intro L xs W K hB hC hi hd hL hK
      try dsimp only at hB hK
      simp only [setAll, putL, Act.put, List.setIfInBounds_toArray, List.set_cons_succ, List.set_cons_zero, Nat.zero_add, Nat.reduceAdd] at hK ⊢
      have d3 : xs 3 = _ := (hd 3 (by omega) (by kernel_rfl)).2
      simp only [d3] at hK ⊢
      go_simp
      refine (unhide HW1 W).mono ?_
      rintro e W' ⟨A, cc, rfl, ho, hE⟩
      exact hK _ _ ⟨A, cc, rfl, Reads.of_own ho⟩ (fun j _ _ _ _ h => h.ext hE) (hB.trans hE)
    · intro L xs W K hB hC hi hd hL hK
      try dsimp only at hB hK
      simp only [setAll, putL, Act.put, List.setIfInBounds_toArray, List.set_cons_succ, List.set_cons_zero, Nat.zero_add, Nat.reduceAdd] at hK ⊢
      have d1 := (hd 1 (by omega) (by kernel_rfl)).2
      obtain ⟨A4, cc4, d4, h4⟩ := (hd 4 (by omega) (by kernel_rfl)).2
      have d1' : W.ownsRow w7.heap.size 5 1 (xs 1) 0 [] := d1
      rw [if_pos (by rfl)]
      refine wp_app (s := .tmp 110) (x := .tmp 113) rfl u8_row (show _ = xs 1 from rfl) d1' d4 h4 (AllOne.u8 _) (by omega) hB.size' ?_
      intro A' c' W' ho hc hv
      refine hK _ W' (by rw [Nat.zero_add] at ho ⊢; exact ho) (fun j hj hne hl hkp h => ?_) (hB.trans' hc (fun _ _ h => h) (fun i hi e => by have := (d1'.lt i e).1; omega))
      by_cases e1 : j = 1
      · subst e1; exact nomatch (hkp.symm.trans (by kernel_rfl) : true = false)
      by_cases e4 : j = 4
      · subst e4; exact nomatch (hkp.symm.trans (by kernel_rfl) : true = false)
      by_cases e5 : j = 5
      · subst e5; exact absurd rfl hne
      by_cases e8 : j = 8
      · subst e8; exact nomatch (hi.symm.trans (hC _ _ hl (by kernel_rfl)) : false = true)
      by_cases e9 : j = 9
      · subst e9; exact nomatch (hi.symm.trans (hC _ _ hl (by kernel_rfl)) : false = true)
      by_cases e11 : j = 11
      · subst e11
        obtain ⟨g, q1, q2, cs, q3, q4⟩ := h
        exact ⟨g, q1, q2, cs, q3, q4.chg hc (fun e => own_blk_ne d1' q4 (by decide) e)⟩
      by_cases e12 : j = 12
      · subst e12; exact nomatch (hi.symm.trans (hC _ _ hl (by kernel_rfl)) : false = true)
      exact h.any e1 e4 e5 e8 e9 e11 e12
    · intro L xs W K hB hC hi hd hL hK
      try dsimp only at hB hK
      simp only [setAll, putL, Act.put, List.setIfInBounds_toArray, List.set_cons_succ, List.set_cons_zero, Nat.zero_add, Nat.reduceAdd] at hK ⊢
      go_simp
      exact hK _ _ rfl (fun j _ _ _ _ h => h) hB
    · intro L xs W K hB hC hi hd hL hK
      try dsimp only at hB hK
      simp only [setAll, putL, Act.put, List.setIfInBounds_toArray, List.set_cons_succ, List.set_cons_zero, Nat.zero_add, Nat.reduceAdd] at hK ⊢
      have d6 : xs 6 = _ := (hd 6 (by omega) (by kernel_rfl)).2
      have q1 : W.cell? ⟨gb, 1, none⟩ = some (.string c1) := by rw [((unhide H7).2.2.1.ext hB).cell]; rfl
      simp only [d6] at hK ⊢
      go_simp
      exact hK _ _ rfl (fun j _ _ _ _ h => h) hB
    · intro L xs W K hB hC hi hd hL hK
      try dsimp only at hB hK
      simp only [setAll, putL, Act.put, List.setIfInBounds_toArray, List.set_cons_succ, List.set_cons_zero, Nat.zero_add, Nat.reduceAdd] at hK ⊢
      have d7 : xs 7 = _ := (hd 7 (by omega) (by kernel_rfl)).2
      simp only [d7] at hK ⊢
      go_simp
      refine (unhide HW2 W).mono ?_
      rintro e W' ⟨A, cc, rfl, ho, hE⟩
      exact hK _ _ ⟨A, cc, rfl, Reads.of_own ho⟩ (fun j _ _ _ _ h => h.ext hE) (hB.trans hE)
    · intro L xs W K hB hC hi hd hL hK
      try dsimp only at hB hK
      simp only [setAll, putL, Act.put, List.setIfInBounds_toArray, List.set_cons_succ, List.set_cons_zero, Nat.zero_add, Nat.reduceAdd] at hK ⊢
      have d5' : W.ownsRow w7.heap.size 5 1 (xs 5) (wInt n1).length ((wInt n1).map u8v) := (hd 5 (by omega) (by kernel_rfl)).2
      obtain ⟨A8, cc8, d8, h8⟩ := (hd 8 (by omega) (by kernel_rfl)).2
      rw [if_pos (by rfl)]
      refine wp_app (s := .tmp 114) (x := .tmp 117) rfl u8_row (show _ = xs 5 from rfl) d5' d8 h8 (AllOne.u8 _) (by omega) hB.size' ?_
      intro A' c' W' ho hc hv
      refine hK _ W' ⟨A', c', rfl, Reads.of_own ho⟩ (fun j hj hne hl hkp h => ?_) (hB.trans' hc (fun _ _ h => h) (fun i hi e => by have := (d5'.lt i e).1; omega))
      by_cases e1 : j = 1
      · subst e1; exact nomatch (hkp.symm.trans (by kernel_rfl) : true = false)
      by_cases e4 : j = 4
      · subst e4; exact nomatch (hkp.symm.trans (by kernel_rfl) : true = false)
      by_cases e5 : j = 5
      · subst e5; exact nomatch (hkp.symm.trans (by kernel_rfl) : true = false)
      by_cases e8 : j = 8
      · subst e8; exact nomatch (hkp.symm.trans (by kernel_rfl) : true = false)
      by_cases e9 : j = 9
      · subst e9; exact absurd rfl hne
      by_cases e11 : j = 11
      · subst e11
        obtain ⟨g, q1, q2, cs, q3, q4⟩ := h
        exact ⟨g, q1, q2, cs, q3, q4.chg hc (fun e => own_blk_ne d5' q4 (by decide) e)⟩
      by_cases e12 : j = 12
      · subst e12; exact nomatch (hi.symm.trans (hC _ _ hl (by kernel_rfl)) : false = true)
      exact h.any e1 e4 e5 e8 e9 e11 e12
    · intro L xs W K hB hC hi hd hL hK
      try dsimp only at hB hK
      simp only [setAll, putL, Act.put, List.setIfInBounds_toArray, List.set_cons_succ, List.set_cons_zero, Nat.zero_add, Nat.reduceAdd] at hK ⊢
      have d0 : xs 0 = _ := (hd 0 (by omega) (by kernel_rfl)).2
      obtain ⟨A9, cc9, d9, h9⟩ := (hd 9 (by omega) (by kernel_rfl)).2
      simp only [d0, d9] at hK ⊢
      go_simp
      refine (unhide HMC W A9 cc9 hB h9).mono ?_
      rintro e W' ⟨rfl, hE⟩
      exact hK _ _ rfl (fun j _ _ _ _ h => h.ext hE) (hB.trans hE)
    · intro L xs W K hB hC hi hd hL hK
      try dsimp only at hB hK
      simp only [setAll, putL, Act.put, List.setIfInBounds_toArray, List.set_cons_succ, List.set_cons_zero, Nat.zero_add, Nat.reduceAdd] at hK ⊢
      go_simp
      exact hK _ _ (Fresh.new _ W hB.size' _ (by rfl)) (fun j _ _ _ _ h => h.ext ((Ext.refl _).alloc _)) (hB.alloc _)
    · intro L xs W K hB hC hi hd hL hK
      try dsimp only at hB hK
      simp only [setAll, putL, Act.put, List.setIfInBounds_toArray, List.set_cons_succ, List.set_cons_zero, Nat.zero_add, Nat.reduceAdd] at hK ⊢
      have d10 : xs 10 = _ := (hd 10 (by omega) (by kernel_rfl)).2
      obtain ⟨g, e11, hg, cs, hcs2, hb⟩ := (hd 11 (by omega) (by kernel_rfl)).2
      have e11' : xs 11 = ptr g := e11
      rw [if_pos (by rfl)]
      refine wp_storeB (ty := 23) (x := .tmp 20) (y := .tmp 119) rfl digest_wide e11 d10 hb hcs2 (unhide HMA).1 (unhide HMA).2 ?_
      intro W' hb' hc' hz'
      refine hK undef W' ⟨g, e11', hg, hb'⟩ (fun j hj hne hl hkp h => ?_) (hB.trans' hc' (fun _ _ h => h) (fun i hi e => by omega))
      by_cases e1 : j = 1
      · subst e1; exact nomatch (hkp.symm.trans (by kernel_rfl) : true = false)
      by_cases e4 : j = 4
      · subst e4; exact nomatch (hkp.symm.trans (by kernel_rfl) : true = false)
      by_cases e5 : j = 5
      · subst e5; exact nomatch (hkp.symm.trans (by kernel_rfl) : true = false)
      by_cases e8 : j = 8
      · subst e8; exact nomatch (hkp.symm.trans (by kernel_rfl) : true = false)
      by_cases e9 : j = 9
      · subst e9; exact nomatch (hkp.symm.trans (by kernel_rfl) : true = false)
      by_cases e11 : j = 11
      · subst e11; exact nomatch (hkp.symm.trans (by kernel_rfl) : true = false)
      exact h.any e1 e4 e5 e8 e9 e11 hne
  case fin =>
    intro L xs W hL hB hF
    try dsimp only at hB
    obtain ⟨g, e11, hg, hb⟩ := hF 12 (by omega) (by rfl)
    have e11' : xs 11 = ptr g := e11
    refine wpAny_done (by kernel_rfl) ?_ _
    simp only [setAll, putL, List.setIfInBounds_toArray, List.set_cons_succ, List.set_cons_zero, Nat.zero_add, Nat.reduceAdd]
    generalize xs 0 = u0
    generalize xs 1 = u1
    generalize xs 2 = u2
    generalize xs 3 = u3
    generalize xs 4 = u4
    generalize xs 5 = u5
    generalize xs 6 = u6
    generalize xs 7 = u7
    generalize xs 8 = u8
    generalize xs 9 = u9
    generalize xs 10 = u10
    rw [e11']
    unfold ptr
    have H8 := hide (And.intro ((unhide H7).1.trans hB) (And.intro ((unhide H7).2.1.ext hB) (And.intro ((unhide H7).2.2.1.ext hB) (And.intro hb ((unhide H7).2.2.2.2.ext hB)))))
    clear hB hF e11 e11' hb hg hL H7
    by_cases htt : tagS key n1 c1.data.toList = tg
    · have hne2 : ∀ W, (binOp .eql 23 (.agg macA) (.agg tv.toArray)).run Tryd.prog W = .ok (.bool true) W := fun W => by rw [heq W, decide_eq_true htt]
      have HO := hide (unhide HOY htt)
      clear hne heq
      go_upto_region 24 with (first
        | (refine wpList_loadB (ty := 23) (t := 23) (x := .tmp 6) rfl rfl digest_wide rfl (cs := arr) (unhide H8).2.1 hasz ?_)
        | (refine wpList_loadB (ty := 27) (t := 27) (x := .tmp 15) rfl rfl box_wide rfl (cs := boxL n1 c1 tv) (unhide H8).2.2.1 (boxL_size htl) ?_)
        | (go_at_call 14; refine (unhide HO _ (unhide H8).1).mono ?_; rintro e w8 ⟨rfl, hE8⟩; have H9 := hide (And.intro ((unhide H8).1.trans hE8) (And.intro ((unhide H8).2.1.ext hE8) (And.intro ((unhide H8).2.2.1.ext hE8) (And.intro ((unhide H8).2.2.2.1.ext hE8) ((unhide H8).2.2.2.2.ext hE8))))); clear hE8))
      go_wp2_with (first
        | (refine wpList_loadBG1 (by rfl) (ty := 23) (x := .tmp 20) rfl digest_wide rfl (unhide H9).2.2.2.1 (unhide HMA).1 ?_)
        | (refine wpList_loadMG (by rfl) (ty := 23) (x := .tmp 131) rfl digest_wide rfl (boxL_range (unhide H9).2.2.2.2) htl ?_))
      go_ret
      exact ⟨rfl, (unhide H9).1⟩
    · have hne2 : ∀ W, (binOp .eql 23 (.agg macA) (.agg tv.toArray)).run Tryd.prog W = .ok (.bool false) W := fun W => by rw [heq W, decide_eq_false htt]
      have HO := hide (unhide HON htt)
      clear hne heq
      go_upto_region 24 with (first
        | (refine wpList_loadB (ty := 23) (t := 23) (x := .tmp 6) rfl rfl digest_wide rfl (cs := arr) (unhide H8).2.1 hasz ?_)
        | (refine wpList_loadB (ty := 27) (t := 27) (x := .tmp 15) rfl rfl box_wide rfl (cs := boxL n1 c1 tv) (unhide H8).2.2.1 (boxL_size htl) ?_)
        | (go_at_call 14; refine (unhide HO _ (unhide H8).1).mono ?_; rintro e w8 ⟨rfl, hE8⟩; have H9 := hide (And.intro ((unhide H8).1.trans hE8) (And.intro ((unhide H8).2.1.ext hE8) (And.intro ((unhide H8).2.2.1.ext hE8) (And.intro ((unhide H8).2.2.2.1.ext hE8) ((unhide H8).2.2.2.2.ext hE8))))); clear hE8))
      go_wp2_with (first
        | (refine wpList_loadBG1 (by rfl) (ty := 23) (x := .tmp 20) rfl digest_wide rfl (unhide H9).2.2.2.1 (unhide HMA).1 ?_)
        | (refine wpList_loadMG (by rfl) (ty := 23) (x := .tmp 131) rfl digest_wide rfl (boxL_range (unhide H9).2.2.2.2) htl ?_))
      go_ret
      exact ⟨rfl, (unhide H9).1⟩

end Go.Proofs.YtoefmncdloffaaaDoor
