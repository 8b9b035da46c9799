/-
  The law BoxAuthentic.
-/
import Derived.Test.YtnnecanjkogloaaDoorBoxF
import Derived.Test.YtnnecanjkogloaaDoorTwo
namespace Go.Proofs.YtnnecanjkogloaaDoor
open Go.RowKit

def AuthF (w0 : World) (gd gb : Nat) (nonce : Int) (c : ByteArray) (l1 l2 : List UInt8) (macA : Array Value) : Nat → Value → Value → World → Prop
  | 0, v, _, _ => v = .slice (some ⟨gd, 0, none⟩) 16 16
  | 1, v, _, W => W.ownsRow w0.heap.size 5 1 v 0 []
  | 2, v, _, _ => v = .pointer (some ⟨gb, 0, none⟩)
  | 3, v, _, _ => v = .int .i64 nonce
  | 4, v, _, W => ∃ A cc, v = .slice A l1.length cc ∧ Reads W 1 (.slice A l1.length cc) l1.length (l1.map u8v)
  | 5, v, _, W => W.ownsRow w0.heap.size 5 1 v l1.length (l1.map u8v)
  | 6, v, _, _ => v = .pointer (some ⟨gb, 1, none⟩)
  | 7, v, _, _ => v = .string c
  | 8, v, _, W => ∃ A cc, v = .slice A l2.length cc ∧ Reads W 1 (.slice A l2.length cc) l2.length (l2.map u8v)
  | 9, v, _, W => ∃ A cc, v = .slice A (l1.length + l2.length) cc ∧ Reads W 1 (.slice A (l1.length + l2.length) cc) (l1.length + l2.length) (l1.map u8v ++ l2.map u8v)
  | 10, v, _, _ => v = .agg macA
  | 11, v, _, W => Fresh w0 v W
  | 12, _, u, W => Filled w0 u macA W
  | _, _, _, _ => True
section
variable {w0 : World} {gd gb : Nat} {nonce : Int} {c : ByteArray} {l1 l2 : List UInt8} {macA : Array Value} {i : Nat} {v u : Value} {W W' : World}
theorem AuthF.ext (h : AuthF w0 gd gb nonce c l1 l2 macA i v u W) (hE : Ext W W') : AuthF w0 gd gb nonce c l1 l2 macA i v u W' := by
  unfold AuthF at h ⊢
  split at h <;> try exact h
  · exact ownsRow_ext h hE
  · obtain ⟨A, cc, h1, h2⟩ := h; exact ⟨A, cc, h1, h2.ext hE⟩
  · exact ownsRow_ext h hE
  · obtain ⟨A, cc, h1, h2⟩ := h; exact ⟨A, cc, h1, h2.ext hE⟩
  · obtain ⟨A, cc, h1, h2⟩ := h; exact ⟨A, cc, h1, h2.ext hE⟩
  · exact h.ext hE
  · exact h.ext hE
theorem AuthF.any (h : AuthF w0 gd gb nonce c l1 l2 macA i v u W) (h1 : i ≠ 1) (h4 : i ≠ 4) (h5 : i ≠ 5) (h8 : i ≠ 8) (h9 : i ≠ 9) (h11 : i ≠ 11) (h12 : i ≠ 12) : AuthF w0 gd gb nonce c l1 l2 macA i v u W' := by
  unfold AuthF at h ⊢
  split at h <;> first | exact h | omega
end
set_option maxRecDepth 100000 in
set_option maxHeartbeats 4000000 in
theorem auth_any (key : List UInt8) (nonce : Int) (c : ByteArray) (t : List UInt8) (w : World) (hM : ShaMem w) (hk : key.length = 16) (ht : t.length = 16) (h1 : -9223372036854775808 ≤ nonce) (h2 : nonce < 9223372036854775808) (hcm : c.size ≤ 9223372036854775807) :
    Calls Tryd.prog 11 #[.agg (key.map u8v).toArray, .agg (boxV nonce c t)] w fun e w' => e = .returned (.bool true) ∧ Ext w w' := by
  have HM := hide hM
  clear hM
  obtain ⟨arr, harr⟩ : ∃ r, (key.map u8v).toArray = r := ⟨_, rfl⟩
  have hasz : arr.size = 16 := by rw [← harr]; simpa using hk
  obtain ⟨tv, htv⟩ : ∃ l, t.map u8v = l := ⟨_, rfl⟩
  have htl : tv.length = 16 := by rw [← htv]; simpa using ht
  rw [boxV_eq, htv]
  have HQ := hide (show Blk ((w.alloc (.cells arr 32)).alloc (.cells (boxL nonce c tv) 47)) w.heap.size 32 arr ∧
      Blk ((w.alloc (.cells arr 32)).alloc (.cells (boxL nonce c tv) 47)) (w.heap.size + 1) 47 (boxL nonce c tv) from ⟨(Blk.new w _ _).alloc _, Blk.new' _ _ _ (by simp)⟩)
  by_cases h3 : 300 < c.size
  · have d1 : decide ((300 : Int) < (c.size : Int)) = true := decide_eq_true (by omega)
    rw [harr]
    clear harr htv
    go_enter Tryd.func11, Tryd.ntmps11
    go_wp2_with fail
    refine (sanity6_any _ ((unhide HM).ext (((Ext.refl w).alloc _).alloc _))).mono ?_
    rintro e w1 ⟨rfl, hE1⟩
    have H1 := hide (And.intro ((((Ext.refl w).alloc _).alloc _).trans hE1) ((unhide HQ).2.ext hE1))
    clear hE1
    have c1 : w1.cell? ⟨w.heap.size + 1, 1, none⟩ = some (.string c) := by rw [(unhide H1).2.cell]; rfl
    go_wp2
    go_ret
    exact ⟨rfl, (unhide H1).1⟩
  · have d1 : decide ((300 : Int) < (c.size : Int)) = false := decide_eq_false (by omega)
    rw [harr]
    obtain ⟨dk, hdk⟩ : ∃ d, deriveS key labAuth.data.toList [] = d := ⟨_, rfl⟩
    have hdl : dk.length = 16 := by rw [← hdk]; exact deriveS_length _ _ _
    have HAR := hide (And.intro harr htv)
    have HDK := hide hdk
    clear harr htv hdk
    go_enter Tryd.func11, Tryd.ntmps11
    go_wp2_with fail
    refine (sanity6_any _ ((unhide HM).ext (((Ext.refl w).alloc _).alloc _))).mono ?_
    rintro e w1 ⟨rfl, hE1⟩
    have H1 := hide (And.intro ((((Ext.refl w).alloc _).alloc _).trans hE1) (And.intro ((unhide HQ).1.ext hE1) ((unhide HQ).2.ext hE1)))
    clear hE1 HQ
    have c1 : w1.cell? ⟨w.heap.size + 1, 1, none⟩ = some (.string c) := by rw [(unhide H1).2.2.cell]; rfl
    go_wp2_with fail
    clear c1
    refine (derive_any key _ labAuth [] _ _ ((unhide HM).ext (unhide H1).1) ?_ (by omega) (by decide) (Parts.nil _) (by simp) (fun p hp => by cases hp)).mono ?_
    · have := Reads.of_blk (unhide H1).2.1 (i := 0) (n := 16) (c := 16) (by omega) (by omega) (by unfold maxLen; omega)
      rw [← (unhide HAR).1] at this
      simp only [List.drop_zero] at this
      rw [List.take_of_length_le (by rw [List.length_map]; omega)] at this
      rw [hk]
      exact this
    rintro e w2 ⟨rfl, hE2⟩
    rw [unhide HDK]
    have H2 := hide (And.intro ((unhide H1).1.trans hE2) (And.intro ((unhide H1).2.1.ext hE2) ((unhide H1).2.2.ext hE2)))
    clear hE2 H1
    have HMT := hide (show mac dk (wInt nonce ++ wBytes c.data.toList) = tagS key nonce c.data.toList from by rw [← unhide HDK]; rfl)
    have hcs : c.size ≤ 300 := by omega
    have HS := hide (show ((dk.map u8v).toArray).size = 16 from by simpa using hdl)
    go_upto_region 5 with (refine wpList_storeB (ty := 32) (t := 32) (x := .tmp 6) (y := .tmp 17) rfl rfl digest_wide rfl rfl (Blk.new w2 _ _) rfl (unhide HS) (bytes_one _) ?_; intro w3 hb3 hc3 hz3; have H3 := hide (And.intro (made_ext (unhide H2).1 hc3) (And.intro ((unhide H2).2.1.ext (made_ext1 hc3)) (And.intro ((unhide H2).2.2.ext (made_ext1 hc3)) hb3))); clear hb3 hc3 hz3)
    clear H2
    have HW1 := hide (fun w => wint_any nonce w h1 h2)
    have HW2 := hide (fun w => wbytes_any c w (by omega))
    have hl1 := wInt_length nonce
    have hl2 := wBytes_length c.data.toList
    have hcl : c.data.toList.length = c.size := by rw [Array.length_toList]; rfl
    have HMC := hide (fun (W : World) (A : Option Addr) (cc : Nat) (hE : Ext w3 W) (hr : Reads W 1 (.slice A ((wInt nonce).length + (wBytes c.data.toList).length) cc) ((wInt nonce).length + (wBytes c.data.toList).length) ((wInt nonce).map u8v ++ (wBytes c.data.toList).map u8v)) =>
      mac_any dk (wInt nonce ++ wBytes c.data.toList) (.slice (some ⟨w2.heap.size, 0, none⟩) 16 16) (.slice A ((wInt nonce).length + (wBytes c.data.toList).length) cc) W ((unhide HM).ext ((unhide H3).1.trans hE))
        (by
          have := Reads.of_blk ((unhide H3).2.2.2.ext hE) (i := 0) (n := 16) (c := 16) (by simp; omega) (by omega) (by unfold maxLen; omega)
          simp only [List.drop_zero] at this
          rw [List.take_of_length_le (by simp; omega)] at this
          rw [hdl]
          exact this) (by rw [List.length_append, List.map_append]; exact hr) (by omega) (by rw [List.length_append]; omega))
    rw [unhide HMT] at HMC
    have HTS := hide (tagS_length key nonce c.data.toList)
    have HOY := hide (fun (hyes : tagS key nonce c.data.toList = t) W (hE : Ext w W) => open_yes key nonce c t W ((unhide HM).ext hE) hk ht h1 h2 (by omega) hyes)
    have HON := hide (fun (hno : ¬ tagS key nonce c.data.toList = t) W (hE : Ext w W) => open_no key nonce c t W ((unhide HM).ext hE) hk ht h1 h2 (by omega) hno)
    have hne := fun W => ne16 (tagS_length key nonce c.data.toList) ht W
    have HAL := hide (applyS_length key nonce c.data.toList)
    rw [boxV_eq, (unhide HAR).1, (unhide HAR).2] at HOY HON
    obtain ⟨macA, hmacA⟩ : ∃ r, ((tagS key nonce c.data.toList).map u8v).toArray = r := ⟨_, rfl⟩
    have HMA := hide (show macA.size = 16 ∧ macA.all (·.oneCell') = true from by rw [← hmacA]; exact ⟨by simpa using unhide HTS, bytes_one _⟩)
    have HTW := hide (show tv.toArray.size = 16 from by simpa using htl)
    rw [hmacA] at HMC hne
    rw [(unhide HAR).2] at hne
    clear hmacA
    go_simp
    refine region_facts 13 _ [some 18, some 19, some 20, some 21, some 22, some 23, some 24, some 25, some 26, some 27, some 28, some 7, none] [12]
      (fun _ _ W => Ext w3 W) (fun i => if i = 12 then 11 else i) (AuthF w3 w2.heap.size (w.heap.size + 1) nonce c (wInt nonce) (wBytes c.data.toList) macA) rfl (by kernel_rfl) (by simp) (by kernel_rfl) (by kernel_rfl) (by kernel_rfl) (by kernel_rfl) (.inl (by kernel_rfl)) (fun _ => (Ext.refl _).drew) ?steps ?fin
    case steps =>
      simp only [List.take_succ_cons, List.take_zero, StepsOK, Nat.zero_add, Nat.reduceAdd, and_true]
      refine ⟨?_, ?_, ?_, ?_, ?_, ?_, ?_, ?_, ?_, ?_, ?_, ?_, ?_⟩
      · intro L xs W K hB hC hi hd hL hK
        try dsimp only at hB hK
        simp only [setAll, putL, Act.put, List.setIfInBounds_toArray, List.set_cons_succ, List.set_cons_zero, Nat.zero_add, Nat.reduceAdd] at hK ⊢
        go_simp
        exact hK _ _ rfl (fun j _ _ _ _ h => h) hB
      · intro L xs W K hB hC hi hd hL hK
        try dsimp only at hB hK
        simp only [setAll, putL, Act.put, List.setIfInBounds_toArray, List.set_cons_succ, List.set_cons_zero, Nat.zero_add, Nat.reduceAdd] at hK ⊢
        go_simp
        exact hK _ _ ⟨by simp, .inr ⟨W.heap.size, 0, #[], rfl, hB.size', heap_alloc_new W _, Nat.le_refl _, Nat.zero_le _, rfl, rfl⟩⟩ (fun j _ _ _ _ h => h.ext ((Ext.refl _).alloc _)) (hB.alloc _)
      · intro L xs W K hB hC hi hd hL hK
        try dsimp only at hB hK
        simp only [setAll, putL, Act.put, List.setIfInBounds_toArray, List.set_cons_succ, List.set_cons_zero, Nat.zero_add, Nat.reduceAdd] at hK ⊢
        go_simp
        exact hK _ _ rfl (fun j _ _ _ _ h => h) hB
      · intro L xs W K hB hC hi hd hL hK
        try dsimp only at hB hK
        simp only [setAll, putL, Act.put, List.setIfInBounds_toArray, List.set_cons_succ, List.set_cons_zero, Nat.zero_add, Nat.reduceAdd] at hK ⊢
        have d2 : xs 2 = _ := (hd 2 (by omega) (by kernel_rfl)).2
        have q1 : W.cell? ⟨w.heap.size + 1, 0, none⟩ = some (.int .i64 nonce) := by rw [((unhide H3).2.2.1.ext hB).cell]; rfl
        simp only [d2] at hK ⊢
        go_simp
        exact hK _ _ rfl (fun j _ _ _ _ h => h) hB
      · intro L xs W K hB hC hi hd hL hK
        try dsimp only at hB hK
        simp only [setAll, putL, Act.put, List.setIfInBounds_toArray, List.set_cons_succ, List.set_cons_zero, Nat.zero_add, Nat.reduceAdd] at hK ⊢
        have d3 : xs 3 = _ := (hd 3 (by omega) (by kernel_rfl)).2
        simp only [d3] at hK ⊢
        go_simp
        refine (unhide HW1 W).mono ?_
        rintro e W' ⟨A, cc, rfl, ho, hE⟩
        exact hK _ _ ⟨A, cc, rfl, Reads.of_own ho⟩ (fun j _ _ _ _ h => h.ext hE) (hB.trans hE)
      · intro L xs W K hB hC hi hd hL hK
        try dsimp only at hB hK
        simp only [setAll, putL, Act.put, List.setIfInBounds_toArray, List.set_cons_succ, List.set_cons_zero, Nat.zero_add, Nat.reduceAdd] at hK ⊢
        have d1 := (hd 1 (by omega) (by kernel_rfl)).2
        obtain ⟨A4, cc4, d4, h4⟩ := (hd 4 (by omega) (by kernel_rfl)).2
        have d1' : W.ownsRow w3.heap.size 5 1 (xs 1) 0 [] := d1
        rw [if_pos (by rfl)]
        refine wp_app (s := .tmp 19) (x := .tmp 22) rfl u8_row (show _ = xs 1 from rfl) d1' d4 h4 (AllOne.u8 _) (by omega) hB.size' ?_
        intro A' c' W' ho hc hv
        refine hK _ W' (by rw [Nat.zero_add] at ho ⊢; exact ho) (fun j hj hne hl hkp h => ?_) (hB.trans' hc (fun _ _ h => h) (fun i hi e => by have := (d1'.lt i e).1; omega))
        by_cases e1 : j = 1
        · subst e1; exact nomatch (hkp.symm.trans (by kernel_rfl) : true = false)
        by_cases e4 : j = 4
        · subst e4; exact nomatch (hkp.symm.trans (by kernel_rfl) : true = false)
        by_cases e5 : j = 5
        · subst e5; exact absurd rfl hne
        by_cases e8 : j = 8
        · subst e8; exact nomatch (hi.symm.trans (hC _ _ hl (by kernel_rfl)) : false = true)
        by_cases e9 : j = 9
        · subst e9; exact nomatch (hi.symm.trans (hC _ _ hl (by kernel_rfl)) : false = true)
        by_cases e11 : j = 11
        · subst e11
          obtain ⟨g, q1, q2, cs, q3, q4⟩ := h
          exact ⟨g, q1, q2, cs, q3, q4.chg hc (fun e => own_blk_ne d1' q4 (by decide) e)⟩
        by_cases e12 : j = 12
        · subst e12; exact nomatch (hi.symm.trans (hC _ _ hl (by kernel_rfl)) : false = true)
        exact h.any e1 e4 e5 e8 e9 e11 e12
      · intro L xs W K hB hC hi hd hL hK
        try dsimp only at hB hK
        simp only [setAll, putL, Act.put, List.setIfInBounds_toArray, List.set_cons_succ, List.set_cons_zero, Nat.zero_add, Nat.reduceAdd] at hK ⊢
        go_simp
        exact hK _ _ rfl (fun j _ _ _ _ h => h) hB
      · intro L xs W K hB hC hi hd hL hK
        try dsimp only at hB hK
        simp only [setAll, putL, Act.put, List.setIfInBounds_toArray, List.set_cons_succ, List.set_cons_zero, Nat.zero_add, Nat.reduceAdd] at hK ⊢
        have d6 : xs 6 = _ := (hd 6 (by omega) (by kernel_rfl)).2
        have q1 : W.cell? ⟨w.heap.size + 1, 1, none⟩ = some (.string c) := by rw [((unhide H3).2.2.1.ext hB).cell]; rfl
        simp only [d6] at hK ⊢
        go_simp
        exact hK _ _ rfl (fun j _ _ _ _ h => h) hB
      · intro L xs W K hB hC hi hd hL hK
        try dsimp only at hB hK
        simp only [setAll, putL, Act.put, List.setIfInBounds_toArray, List.set_cons_succ, List.set_cons_zero, Nat.zero_add, Nat.reduceAdd] at hK ⊢
        have d7 : xs 7 = _ := (hd 7 (by omega) (by kernel_rfl)).2
        simp only [d7] at hK ⊢
        go_simp
        refine (unhide HW2 W).mono ?_
        rintro e W' ⟨A, cc, rfl, ho, hE⟩
        exact hK _ _ ⟨A, cc, rfl, Reads.of_own ho⟩ (fun j _ _ _ _ h => h.ext hE) (hB.trans hE)
      · intro L xs W K hB hC hi hd hL hK
        try dsimp only at hB hK
        simp only [setAll, putL, Act.put, List.setIfInBounds_toArray, List.set_cons_succ, List.set_cons_zero, Nat.zero_add, Nat.reduceAdd] at hK ⊢
        have d5' : W.ownsRow w3.heap.size 5 1 (xs 5) (wInt nonce).length ((wInt nonce).map u8v) := (hd 5 (by omega) (by kernel_rfl)).2
        obtain ⟨A8, cc8, d8, h8⟩ := (hd 8 (by omega) (by kernel_rfl)).2
        rw [if_pos (by rfl)]
        refine wp_app (s := .tmp 23) (x := .tmp 26) rfl u8_row (show _ = xs 5 from rfl) d5' d8 h8 (AllOne.u8 _) (by omega) hB.size' ?_
        intro A' c' W' ho hc hv
        refine hK _ W' ⟨A', c', rfl, Reads.of_own ho⟩ (fun j hj hne hl hkp h => ?_) (hB.trans' hc (fun _ _ h => h) (fun i hi e => by have := (d5'.lt i e).1; omega))
        by_cases e1 : j = 1
        · subst e1; exact nomatch (hkp.symm.trans (by kernel_rfl) : true = false)
        by_cases e4 : j = 4
        · subst e4; exact nomatch (hkp.symm.trans (by kernel_rfl) : true = false)
        by_cases e5 : j = 5
        · subst e5; exact nomatch (hkp.symm.trans (by kernel_rfl) : true = false)
        by_cases e8 : j = 8
        · subst e8; exact nomatch (hkp.symm.trans (by kernel_rfl) : true = false)
        by_cases e9 : j = 9
        · subst e9; exact absurd rfl hne
        by_cases e11 : j = 11
        · subst e11
          obtain ⟨g, q1, q2, cs, q3, q4⟩ := h
          exact ⟨g, q1, q2, cs, q3, q4.chg hc (fun e => own_blk_ne d5' q4 (by decide) e)⟩
        by_cases e12 : j = 12
        · subst e12; exact nomatch (hi.symm.trans (hC _ _ hl (by kernel_rfl)) : false = true)
        exact h.any e1 e4 e5 e8 e9 e11 e12
      · intro L xs W K hB hC hi hd hL hK
        try dsimp only at hB hK
        simp only [setAll, putL, Act.put, List.setIfInBounds_toArray, List.set_cons_succ, List.set_cons_zero, Nat.zero_add, Nat.reduceAdd] at hK ⊢
        have d0 : xs 0 = _ := (hd 0 (by omega) (by kernel_rfl)).2
        obtain ⟨A9, cc9, d9, h9⟩ := (hd 9 (by omega) (by kernel_rfl)).2
        simp only [d0, d9] at hK ⊢
        go_simp
        refine (unhide HMC W A9 cc9 hB h9).mono ?_
        rintro e W' ⟨rfl, hE⟩
        exact hK _ _ rfl (fun j _ _ _ _ h => h.ext hE) (hB.trans hE)
      · intro L xs W K hB hC hi hd hL hK
        try dsimp only at hB hK
        simp only [setAll, putL, Act.put, List.setIfInBounds_toArray, List.set_cons_succ, List.set_cons_zero, Nat.zero_add, Nat.reduceAdd] at hK ⊢
        go_simp
        exact hK _ _ (Fresh.new _ W hB.size' _ (by rfl)) (fun j _ _ _ _ h => h.ext ((Ext.refl _).alloc _)) (hB.alloc _)
      · intro L xs W K hB hC hi hd hL hK
        try dsimp only at hB hK
        simp only [setAll, putL, Act.put, List.setIfInBounds_toArray, List.set_cons_succ, List.set_cons_zero, Nat.zero_add, Nat.reduceAdd] at hK ⊢
        have d10 : xs 10 = _ := (hd 10 (by omega) (by kernel_rfl)).2
        obtain ⟨g, e11, hg, cs, hcs2, hb⟩ := (hd 11 (by omega) (by kernel_rfl)).2
        have e11' : xs 11 = ptr g := e11
        rw [if_pos (by rfl)]
        refine wp_storeB (ty := 32) (x := .tmp 7) (y := .tmp 28) rfl digest_wide e11 d10 hb hcs2 (unhide HMA).1 (unhide HMA).2 ?_
        intro W' hb' hc' hz'
        refine hK undef W' ⟨g, e11', hg, hb'⟩ (fun j hj hne hl hkp h => ?_) (hB.trans' hc' (fun _ _ h => h) (fun i hi e => by omega))
        by_cases e1 : j = 1
        · subst e1; exact nomatch (hkp.symm.trans (by kernel_rfl) : true = false)
        by_cases e4 : j = 4
        · subst e4; exact nomatch (hkp.symm.trans (by kernel_rfl) : true = false)
        by_cases e5 : j = 5
        · subst e5; exact nomatch (hkp.symm.trans (by kernel_rfl) : true = false)
        by_cases e8 : j = 8
        · subst e8; exact nomatch (hkp.symm.trans (by kernel_rfl) : true = false)
        by_cases e9 : j = 9
        · subst e9; exact nomatch (hkp.symm.trans (by kernel_rfl) : true = false)
        by_cases e11 : j = 11
        · subst e11; exact nomatch (hkp.symm.trans (by kernel_rfl) : true = false)
        exact h.any e1 e4 e5 e8 e9 e11 hne
    case fin =>
      intro L xs W hL hB hF
      try dsimp only at hB
      obtain ⟨g, e11, hg, hb⟩ := hF 12 (by omega) (by rfl)
      have e11' : xs 11 = ptr g := e11
      refine wpAny_done (by kernel_rfl) ?_ _
      simp only [setAll, putL, List.setIfInBounds_toArray, List.set_cons_succ, List.set_cons_zero, Nat.zero_add, Nat.reduceAdd]
      generalize xs 0 = u0
      generalize xs 1 = u1
      generalize xs 2 = u2
      generalize xs 3 = u3
      generalize xs 4 = u4
      generalize xs 5 = u5
      generalize xs 6 = u6
      generalize xs 7 = u7
      generalize xs 8 = u8
      generalize xs 9 = u9
      generalize xs 10 = u10
      rw [e11']
      unfold ptr
      have H5 := hide (And.intro ((unhide H3).1.trans hB) (And.intro ((unhide H3).2.1.ext hB) (And.intro ((unhide H3).2.2.1.ext hB) hb)))
      clear hB hF e11 e11' hb hg hL H3
      by_cases htt : tagS key nonce c.data.toList = t
      · have hne2 : ∀ W, (binOp .neq 32 (.agg macA) (.agg tv.toArray)).run Tryd.prog W = .ok (.bool false) W := fun W => by rw [hne W, decide_eq_true htt]; rfl
        have HO := hide (unhide HOY htt)
        clear hne
        go_upto_region 7 with (first
          | (refine wpList_loadB (ty := 32) (t := 32) (x := .tmp 2) rfl rfl digest_wide rfl (cs := arr) (unhide H5).2.1 hasz ?_)
          | (refine wpList_loadB (ty := 47) (t := 47) (x := .tmp 3) rfl rfl box_wide rfl (cs := boxL nonce c tv) (unhide H5).2.2.1 (boxL_size htl) ?_)
          | (go_at_call 30; refine (unhide HO _ (unhide H5).1).mono ?_; rintro e w6 ⟨rfl, hE6⟩; have H6 := hide (And.intro ((unhide H5).1.trans hE6) (And.intro ((unhide H5).2.1.ext hE6) (And.intro ((unhide H5).2.2.1.ext hE6) ((unhide H5).2.2.2.ext hE6)))); clear hE6))
        go_step
        refine wpList_loadB (ty := 32) (t := 32) (x := .tmp 7) rfl rfl digest_wide rfl (unhide H6).2.2.2 (unhide HMA).1 ?_
        go_upto_if 38 with (refine wpList_loadMG (by rfl) (ty := 32) (x := .tmp 36) rfl digest_wide rfl (boxL_range (unhide H6).2.2.1) htl ?_)
        have c6 : w6.cell? ⟨w.heap.size + 1, 1, none⟩ = some (.string c) := by rw [(unhide H6).2.2.1.cell]; rfl
        have hsz : ((strOf (applyS key nonce c.data.toList)).size : Int) = (c.size : Int) := by rw [strOf_size, unhide HAL, hcl]
        go_wp2
        go_ret
        exact ⟨rfl, (unhide H6).1⟩
      · have hne2 : ∀ W, (binOp .neq 32 (.agg macA) (.agg tv.toArray)).run Tryd.prog W = .ok (.bool true) W := fun W => by rw [hne W, decide_eq_false htt]; rfl
        have HO := hide (unhide HON htt)
        clear hne
        go_upto_region 7 with (first
          | (refine wpList_loadB (ty := 32) (t := 32) (x := .tmp 2) rfl rfl digest_wide rfl (cs := arr) (unhide H5).2.1 hasz ?_)
          | (refine wpList_loadB (ty := 47) (t := 47) (x := .tmp 3) rfl rfl box_wide rfl (cs := boxL nonce c tv) (unhide H5).2.2.1 (boxL_size htl) ?_)
          | (go_at_call 30; refine (unhide HO _ (unhide H5).1).mono ?_; rintro e w6 ⟨rfl, hE6⟩; have H6 := hide (And.intro ((unhide H5).1.trans hE6) (And.intro ((unhide H5).2.1.ext hE6) (And.intro ((unhide H5).2.2.1.ext hE6) ((unhide H5).2.2.2.ext hE6)))); clear hE6))
        go_step
        refine wpList_loadB (ty := 32) (t := 32) (x := .tmp 7) rfl rfl digest_wide rfl (unhide H6).2.2.2 (unhide HMA).1 ?_
        go_upto_if 38 with (refine wpList_loadMG (by rfl) (ty := 32) (x := .tmp 36) rfl digest_wide rfl (boxL_range (unhide H6).2.2.1) htl ?_)
        go_wp2
        go_ret
        exact ⟨rfl, (unhide H6).1⟩

end Go.Proofs.YtnnecanjkogloaaDoor
