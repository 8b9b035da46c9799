/-
  The law BoxMatches.
-/
import Derived.Test.YtnnecanjkogloaaDoorRefK
namespace Go.Proofs.YtnnecanjkogloaaDoor
open Go.RowKit

set_option maxRecDepth 100000 in
set_option maxHeartbeats 4000000 in
theorem bmatch_any (key : List UInt8) (nonce : Int) (plain : ByteArray) (n2 : Int) (c : ByteArray) (t : List UInt8) (w : World) (hM : ShaMem w) (hk : key.length = 16) (ht : t.length = 16) (h1 : -9223372036854775808 ≤ nonce) (h2 : nonce < 9223372036854775808) (h3 : -9223372036854775808 ≤ n2) (h4 : n2 < 9223372036854775808)
    (hpm : plain.size ≤ 9223372036854775807) (hcm : c.size ≤ 9223372036854775807) :
    Calls Tryd.prog 9 #[.agg (key.map u8v).toArray, .int .i64 nonce, .string plain, .agg (boxV n2 c t)] w fun e w' => e = .returned (.bool true) ∧ Ext w w' := by
  by_cases h5 : 300 < plain.size
  · have d1 : decide ((300 : Int) < (plain.size : Int)) = true := decide_eq_true (by omega)
    have HM := hide hM
    clear hM
    obtain ⟨arr, harr⟩ : ∃ r, (key.map u8v).toArray = r := ⟨_, rfl⟩
    have hasz : arr.size = 16 := by rw [← harr]; simpa using hk
    obtain ⟨tv, htv⟩ : ∃ l, t.map u8v = l := ⟨_, rfl⟩
    have htl : tv.length = 16 := by rw [← htv]; simpa using ht
    have HQ := hide (show Blk ((w.alloc (.cells arr 32)).alloc (.cells (boxL n2 c tv) 47)) w.heap.size 32 arr ∧
        Blk ((w.alloc (.cells arr 32)).alloc (.cells (boxL n2 c tv) 47)) (w.heap.size + 1) 47 (boxL n2 c tv) from ⟨(Blk.new w _ _).alloc _, Blk.new' _ _ _ (by simp)⟩)
    have HP := hide (((Ext.refl w).alloc (.cells arr 32)).alloc (.cells (boxL n2 c tv) 47))
    rw [boxV_eq, htv, harr]
    clear harr htv
    go_enter Tryd.func9, Tryd.ntmps9
    go_wp2_with fail
    refine (sanity6_any _ ((unhide HM).ext (unhide HP))).mono ?_
    rintro e w1 ⟨rfl, hE1⟩
    have H1 := hide (And.intro ((unhide HP).trans hE1) ((unhide HQ).2.ext hE1))
    clear hE1
    have c1 : w1.cell? ⟨w.heap.size + 1, 1, none⟩ = some (.string c) := by rw [(unhide H1).2.cell]; rfl
    go_wp2
    go_ret
    exact ⟨rfl, (unhide H1).1⟩
  · have d1 : decide ((300 : Int) < (plain.size : Int)) = false := decide_eq_false (by omega)
    by_cases h6 : 300 < c.size
    · have d2 : decide ((300 : Int) < (c.size : Int)) = true := decide_eq_true (by omega)
      have HM := hide hM
      clear hM
      obtain ⟨arr, harr⟩ : ∃ r, (key.map u8v).toArray = r := ⟨_, rfl⟩
      have hasz : arr.size = 16 := by rw [← harr]; simpa using hk
      obtain ⟨tv, htv⟩ : ∃ l, t.map u8v = l := ⟨_, rfl⟩
      have htl : tv.length = 16 := by rw [← htv]; simpa using ht
      have HQ := hide (show Blk ((w.alloc (.cells arr 32)).alloc (.cells (boxL n2 c tv) 47)) w.heap.size 32 arr ∧
          Blk ((w.alloc (.cells arr 32)).alloc (.cells (boxL n2 c tv) 47)) (w.heap.size + 1) 47 (boxL n2 c tv) from ⟨(Blk.new w _ _).alloc _, Blk.new' _ _ _ (by simp)⟩)
      have HP := hide (((Ext.refl w).alloc (.cells arr 32)).alloc (.cells (boxL n2 c tv) 47))
      rw [boxV_eq, htv, harr]
      clear harr htv
      go_enter Tryd.func9, Tryd.ntmps9
      go_wp2_with fail
      refine (sanity6_any _ ((unhide HM).ext (unhide HP))).mono ?_
      rintro e w1 ⟨rfl, hE1⟩
      have H1 := hide (And.intro ((unhide HP).trans hE1) ((unhide HQ).2.ext hE1))
      clear hE1
      have c1 : w1.cell? ⟨w.heap.size + 1, 1, none⟩ = some (.string c) := by rw [(unhide H1).2.cell]; rfl
      go_wp2
      go_ret
      exact ⟨rfl, (unhide H1).1⟩
    · have d2 : decide ((300 : Int) < (c.size : Int)) = false := decide_eq_false (by omega)
      by_cases hcase : tagS key n2 c.data.toList = t
      · have HM := hide hM
        clear hM
        obtain ⟨arr, harr⟩ : ∃ r, (key.map u8v).toArray = r := ⟨_, rfl⟩
        have hasz : arr.size = 16 := by rw [← harr]; simpa using hk
        obtain ⟨tv, htv⟩ : ∃ l, t.map u8v = l := ⟨_, rfl⟩
        have htl : tv.length = 16 := by rw [← htv]; simpa using ht
        have HQ := hide (show Blk ((w.alloc (.cells arr 32)).alloc (.cells (boxL n2 c tv) 47)) w.heap.size 32 arr ∧
            Blk ((w.alloc (.cells arr 32)).alloc (.cells (boxL n2 c tv) 47)) (w.heap.size + 1) 47 (boxL n2 c tv) from ⟨(Blk.new w _ _).alloc _, Blk.new' _ _ _ (by simp)⟩)
        have HP := hide (((Ext.refl w).alloc (.cells arr 32)).alloc (.cells (boxL n2 c tv) 47))
        obtain ⟨cs, hcs⟩ : ∃ c, strOf (applyS key nonce plain.data.toList) = c := ⟨_, rfl⟩
        obtain ⟨tl, htl2⟩ : ∃ l, tagS key nonce (applyS key nonce plain.data.toList) = l := ⟨_, rfl⟩
        have heq := box_eql nonce cs tl (by rw [← htl2]; exact tagS_length _ _ _)
        have HSeal := hide (fun W hW => seal_any key nonce plain W hW hk h1 h2 (by omega))
        have HRSeal := hide (fun W => rseal_any key nonce plain W hk h1 h2 (by omega))
        have HOp := hide (fun W hW => open_yes key n2 c t W hW hk ht h3 h4 (by omega) hcase)
        have HROp := hide (fun W => ropen_yes key n2 c t W hk ht h3 h4 (by omega) hcase)
        rw [boxV_eq, hcs, htl2, harr] at HSeal HRSeal
        rw [boxV_eq, htv, harr] at HOp HROp
        rw [boxV_eq, htv, harr]
        generalize strOf (applyS key n2 c.data.toList) = sx at HOp HROp
        obtain ⟨bx, hbx⟩ : ∃ b, boxL nonce cs (tl.map u8v) = b := ⟨_, rfl⟩
        rw [hbx] at HSeal HRSeal heq
        clear harr htv hcs htl2 hbx hcase
        go_enter Tryd.func9, Tryd.ntmps9
        go_wp2_with fail
        refine (sanity6_any _ ((unhide HM).ext (unhide HP))).mono ?_
        rintro e w1 ⟨rfl, hE1⟩
        have H1 := hide (And.intro ((unhide HP).trans hE1) (And.intro ((unhide HQ).1.ext hE1) ((unhide HQ).2.ext hE1)))
        clear hE1 HP HQ
        have c1 : w1.cell? ⟨w.heap.size + 1, 1, none⟩ = some (.string c) := by rw [(unhide H1).2.2.cell]; rfl
        have TK := hide True.intro
        have TK2 := hide True.intro
        go_upto_region 6 with (first
          | (have TT := unhide TK; refine wpList_loadB (x := .tmp 4) rfl rfl digest_wide rfl (cs := arr) (unhide H1).2.1 hasz ?_; clear TT)
          | (have TT := unhide TK; refine wpList_loadB (x := .tmp 7) rfl rfl box_wide rfl (cs := boxL n2 c tv) (unhide H1).2.2 (boxL_size htl) ?_; clear TT)
          | (refine wpList_loadB (x := .tmp 4) rfl rfl digest_wide rfl (cs := arr) (unhide H2).2.1 hasz ?_)
          | (refine wpList_loadB (x := .tmp 7) rfl rfl box_wide rfl (cs := boxL n2 c tv) (unhide H2).2.2 (boxL_size htl) ?_)
          | (go_at_call 30; clear TK c1; refine (unhide HOp _ ((unhide HM).ext (unhide H1).1)).mono ?_; rintro e w2 ⟨rfl, hE2⟩; have H2 := hide (And.intro ((unhide H1).1.trans hE2) (And.intro ((unhide H1).2.1.ext hE2) ((unhide H1).2.2.ext hE2))); clear hE2)
          | (go_at_call 31; refine (unhide HROp _).mono ?_; rintro e w3 ⟨rfl, hE3⟩; have HZ := hide (And.intro ((unhide H2).1.trans hE3) ((unhide H2).2.1.ext hE3)); clear hE3))
        refine wp_region_held_drew (S := fun w' => Ext w3 w') (by kernel_rfl) (Ext.refl _).drew (fun hHeld => ?_)
        refine wpAnyH_take (i := 0) (oi := _) (v := ?_) rfl (by kernel_rfl) (by kernel_rfl) (by kernel_rfl) (fun _ _ _ h => h) (Or.inl ⟨by rfl, fun wz hSz => ?_⟩) (by assumption) ?_
        rotate_left
        · (clear hSz; first | (go_simp; done) | (go_simp; with_reducible rfl))
        try simp only [Act.put, List.setIfInBounds_toArray, List.set_cons_zero, List.set_cons_succ, List.getElem_toArray, List.getElem_cons_succ, List.getElem_cons_zero]
        refine wpAnyH_take (i := 1) (oi := _) (v := ?_) rfl (by kernel_rfl) (by kernel_rfl) (by kernel_rfl) (fun _ _ _ h => h) (Or.inl ⟨by rfl, fun wz hSz => ?_⟩) (by assumption) ?_
        rotate_left
        · (clear hSz; first | (go_simp; done) | (go_simp; with_reducible rfl))
        try simp only [Act.put, List.setIfInBounds_toArray, List.set_cons_zero, List.set_cons_succ, List.getElem_toArray, List.getElem_cons_succ, List.getElem_cons_zero]
        refine wpAnyH_take (i := 2) (oi := _) (v := _) rfl (by kernel_rfl) (by kernel_rfl) (by kernel_rfl) (fun _ _ _ h => h) (ylb digest_wide rfl (by rfl) rfl hasz (fun w' hw => (unhide HZ).2.ext hw)) (by assumption) ?_
        try simp only [Act.put, List.setIfInBounds_toArray, List.set_cons_zero, List.set_cons_succ, List.getElem_toArray, List.getElem_cons_succ, List.getElem_cons_zero]
        refine wpAnyH_take (i := 6) (oi := _) (v := _) rfl (by kernel_rfl) (by kernel_rfl) (by kernel_rfl) (fun _ _ _ h => h) (ylb digest_wide rfl (by rfl) rfl hasz (fun w' hw => (unhide HZ).2.ext hw)) (by assumption) ?_
        try simp only [Act.put, List.setIfInBounds_toArray, List.set_cons_zero, List.set_cons_succ, List.getElem_toArray, List.getElem_cons_succ, List.getElem_cons_zero]
        refine wpAnyH_take (i := 3) (oi := _) (v := ?_) rfl (by kernel_rfl) (by kernel_rfl) (by kernel_rfl) (fun _ _ _ h => h) (Or.inl ⟨by rfl, fun wz hSz => ?_⟩) (by assumption) ?_
        rotate_left
        · (clear hSz; first | (go_simp; done) | (go_simp; with_reducible rfl))
        try simp only [Act.put, List.setIfInBounds_toArray, List.set_cons_zero, List.set_cons_succ, List.getElem_toArray, List.getElem_cons_succ, List.getElem_cons_zero]
        refine wpAnyH_take (i := 4) (oi := _) (v := ?_) rfl (by kernel_rfl) (by kernel_rfl) (by kernel_rfl) (fun _ _ _ h => h) (Or.inl ⟨by rfl, fun wz hSz => ?_⟩) (by assumption) ?_
        rotate_left
        · (clear hSz; first | (go_simp; done) | (go_simp; with_reducible rfl))
        try simp only [Act.put, List.setIfInBounds_toArray, List.set_cons_zero, List.set_cons_succ, List.getElem_toArray, List.getElem_cons_succ, List.getElem_cons_zero]
        refine wpAnyH_take (i := 7) (oi := _) (v := ?_) rfl (by kernel_rfl) (by kernel_rfl) (by kernel_rfl) (fun _ _ _ h => h) (Or.inl ⟨by rfl, fun wz hSz => ?_⟩) (by assumption) ?_
        rotate_left
        · (clear hSz; first | (go_simp; done) | (go_simp; with_reducible rfl))
        try simp only [Act.put, List.setIfInBounds_toArray, List.set_cons_zero, List.set_cons_succ, List.getElem_toArray, List.getElem_cons_succ, List.getElem_cons_zero]
        refine wpAnyH_take (i := 8) (oi := _) (v := ?_) rfl (by kernel_rfl) (by kernel_rfl) (by kernel_rfl) (fun _ _ _ h => h) (Or.inl ⟨by rfl, fun wz hSz => ?_⟩) (by assumption) ?_
        rotate_left
        · (clear hSz; first | (go_simp; done) | (go_simp; with_reducible rfl))
        try simp only [Act.put, List.setIfInBounds_toArray, List.set_cons_zero, List.set_cons_succ, List.getElem_toArray, List.getElem_cons_succ, List.getElem_cons_zero]
        refine wpAnyH_ready (rs := [5]) (by kernel_rfl) (by simp) (AllReadyH.cons (o := _) rfl (fun K hK => ?_) AllReadyH.nil)
        go_simp
        refine (unhide HSeal _ ((unhide HM).ext ((unhide HZ).1.trans hHeld))).mono ?_; rintro e w5 ⟨rfl, hE5⟩; have hS := Ext.trans hHeld hE5; clear hE5 hHeld
        refine hK.out _ _ ?_ (fun hHeld => ?_)
        · exact hS
        clear hK K
        try simp only [Act.put, List.setIfInBounds_toArray, List.set_cons_zero, List.set_cons_succ, List.getElem_toArray, List.getElem_cons_succ, List.getElem_cons_zero]
        refine wpAnyH_ready (rs := [9]) (by kernel_rfl) (by simp) (AllReadyH.cons (o := _) rfl (fun K hK => ?_) AllReadyH.nil)
        go_simp
        refine (unhide HRSeal _).mono ?_; rintro e w6 ⟨rfl, hE6⟩; have hS := Ext.trans hHeld hE6; clear hE6 hHeld
        refine hK.out _ _ ?_ (fun hHeld => ?_)
        · exact hS
        clear hK K
        try simp only [Act.put, List.setIfInBounds_toArray, List.set_cons_zero, List.set_cons_succ, List.getElem_toArray, List.getElem_cons_succ, List.getElem_cons_zero]
        refine wpAnyH_take (i := 10) (oi := _) (v := ?_) rfl (by kernel_rfl) (by kernel_rfl) (by kernel_rfl) (fun _ _ _ h => h) (Or.inl ⟨by rfl, fun wz hSz => ?_⟩) (by assumption) ?_
        rotate_left
        · (clear hSz; first | (go_simp; done) | (go_simp; with_reducible rfl))
        try simp only [Act.put, List.setIfInBounds_toArray, List.set_cons_zero, List.set_cons_succ, List.getElem_toArray, List.getElem_cons_succ, List.getElem_cons_zero]
        refine wpAnyH_take (i := 11) (oi := _) (v := ?_) rfl (by kernel_rfl) (by kernel_rfl) (by kernel_rfl) (fun _ _ _ h => h) (Or.inl ⟨by rfl, fun wz hSz => ?_⟩) (by assumption) ?_
        rotate_left
        · (clear hSz; first | (go_simp; done) | (go_simp; with_reducible rfl))
        try simp only [Act.put, List.setIfInBounds_toArray, List.set_cons_zero, List.set_cons_succ, List.getElem_toArray, List.getElem_cons_succ, List.getElem_cons_zero]
        refine wpAnyH_take (i := 12) (oi := _) (v := ?_) rfl (by kernel_rfl) (by kernel_rfl) (by kernel_rfl) (fun _ _ _ h => h) (Or.inl ⟨by rfl, fun wz hSz => ?_⟩) (by assumption) ?_
        rotate_left
        · (clear hSz; first | (go_simp; done) | (go_simp; with_reducible rfl))
        try simp only [Act.put, List.setIfInBounds_toArray, List.set_cons_zero, List.set_cons_succ, List.getElem_toArray, List.getElem_cons_succ, List.getElem_cons_zero]
        refine wpAnyH_take (i := 13) (oi := _) (v := ?_) rfl (by kernel_rfl) (by kernel_rfl) (by kernel_rfl) (fun _ _ _ h => h) (Or.inl ⟨by rfl, fun wz hSz => ?_⟩) (by assumption) ?_
        rotate_left
        · (clear hSz; first | (go_simp; done) | (go_simp; with_reducible rfl))
        try simp only [Act.put, List.setIfInBounds_toArray, List.set_cons_zero, List.set_cons_succ, List.getElem_toArray, List.getElem_cons_succ, List.getElem_cons_zero]
        refine wpAnyH_take (i := 14) (oi := _) (v := ?_) rfl (by kernel_rfl) (by kernel_rfl) (by kernel_rfl) (fun _ _ _ h => h) (Or.inl ⟨by rfl, fun wz hSz => ?_⟩) (by assumption) ?_
        rotate_left
        · (clear hSz; first | (go_simp; done) | (go_simp; with_reducible rfl))
        try simp only [Act.put, List.setIfInBounds_toArray, List.set_cons_zero, List.set_cons_succ, List.getElem_toArray, List.getElem_cons_succ, List.getElem_cons_zero]
        refine wpAnyH_take (i := 15) (oi := _) (v := ?_) rfl (by kernel_rfl) (by kernel_rfl) (by kernel_rfl) (fun _ _ _ h => h) (Or.inl ⟨by rfl, fun wz hSz => ?_⟩) (by assumption) ?_
        rotate_left
        · (clear hSz; first | (go_simp; done) | (go_simp; with_reducible rfl))
        try simp only [Act.put, List.setIfInBounds_toArray, List.set_cons_zero, List.set_cons_succ, List.getElem_toArray, List.getElem_cons_succ, List.getElem_cons_zero]
        refine wpAnyH_take (i := 16) (oi := _) (v := ?_) rfl (by kernel_rfl) (by kernel_rfl) (by kernel_rfl) (fun _ _ _ h => h) (Or.inl ⟨by rfl, fun wz hSz => ?_⟩) (by assumption) ?_
        rotate_left
        · (clear hSz; first | (go_simp; done) | (go_simp; with_reducible rfl))
        try simp only [Act.put, List.setIfInBounds_toArray, List.set_cons_zero, List.set_cons_succ, List.getElem_toArray, List.getElem_cons_succ, List.getElem_cons_zero]
        refine wpAnyH_take (i := 17) (oi := _) (v := ?_) rfl (by kernel_rfl) (by kernel_rfl) (by kernel_rfl) (fun _ _ _ h => h) (Or.inl ⟨by rfl, fun wz hSz => ?_⟩) (by assumption) ?_
        rotate_left
        · (clear hSz; first | (go_simp; done) | (go_simp; with_reducible rfl))
        try simp only [Act.put, List.setIfInBounds_toArray, List.set_cons_zero, List.set_cons_succ, List.getElem_toArray, List.getElem_cons_succ, List.getElem_cons_zero]
        refine wpAnyH_take (i := 18) (oi := _) (v := ?_) rfl (by kernel_rfl) (by kernel_rfl) (by kernel_rfl) (fun _ _ _ h => h) (Or.inl ⟨by rfl, fun wz hSz => ?_⟩) (by assumption) ?_
        rotate_left
        · (clear hSz; first | (go_simp; done) | (go_simp; with_reducible rfl))
        try simp only [Act.put, List.setIfInBounds_toArray, List.set_cons_zero, List.set_cons_succ, List.getElem_toArray, List.getElem_cons_succ, List.getElem_cons_zero]
        refine wpAnyH_take (i := 19) (oi := _) (v := ?_) rfl (by kernel_rfl) (by kernel_rfl) (by kernel_rfl) (fun _ _ _ h => h) (Or.inl ⟨by rfl, fun wz hSz => ?_⟩) (by assumption) ?_
        rotate_left
        · (clear hSz; first | (go_simp; done) | (go_simp; with_reducible rfl))
        try simp only [Act.put, List.setIfInBounds_toArray, List.set_cons_zero, List.set_cons_succ, List.getElem_toArray, List.getElem_cons_succ, List.getElem_cons_zero]
        refine wpAnyH_take (i := 20) (oi := _) (v := ?_) rfl (by kernel_rfl) (by kernel_rfl) (by kernel_rfl) (fun _ _ _ h => h) (Or.inl ⟨by rfl, fun wz hSz => ?_⟩) (by assumption) ?_
        rotate_left
        · (clear hSz; first | (go_simp; done) | (go_simp; with_reducible rfl))
        try simp only [Act.put, List.setIfInBounds_toArray, List.set_cons_zero, List.set_cons_succ, List.getElem_toArray, List.getElem_cons_succ, List.getElem_cons_zero]
        refine wpAnyH_take (i := 21) (oi := _) (v := ?_) rfl (by kernel_rfl) (by kernel_rfl) (by kernel_rfl) (fun _ _ _ h => h) (Or.inl ⟨by rfl, fun wz hSz => ?_⟩) (by assumption) ?_
        rotate_left
        · (clear hSz; first | (go_simp; done) | (go_simp; with_reducible rfl))
        try simp only [Act.put, List.setIfInBounds_toArray, List.set_cons_zero, List.set_cons_succ, List.getElem_toArray, List.getElem_cons_succ, List.getElem_cons_zero]
        refine wpAnyH_take (i := 22) (oi := _) (v := ?_) rfl (by kernel_rfl) (by kernel_rfl) (by kernel_rfl) (fun _ _ _ h => h) (Or.inl ⟨by rfl, fun wz hSz => ?_⟩) (by assumption) ?_
        rotate_left
        · (clear hSz; first | (go_simp; done) | (go_simp; with_reducible rfl))
        try simp only [Act.put, List.setIfInBounds_toArray, List.set_cons_zero, List.set_cons_succ, List.getElem_toArray, List.getElem_cons_succ, List.getElem_cons_zero]
        refine wpAnyH_done (by kernel_rfl) ?_ _
        go_wp2
        go_ret
        exact ⟨rfl, (unhide HZ).1.trans hHeld⟩
      · have HM := hide hM
        clear hM
        obtain ⟨arr, harr⟩ : ∃ r, (key.map u8v).toArray = r := ⟨_, rfl⟩
        have hasz : arr.size = 16 := by rw [← harr]; simpa using hk
        obtain ⟨tv, htv⟩ : ∃ l, t.map u8v = l := ⟨_, rfl⟩
        have htl : tv.length = 16 := by rw [← htv]; simpa using ht
        have HQ := hide (show Blk ((w.alloc (.cells arr 32)).alloc (.cells (boxL n2 c tv) 47)) w.heap.size 32 arr ∧
            Blk ((w.alloc (.cells arr 32)).alloc (.cells (boxL n2 c tv) 47)) (w.heap.size + 1) 47 (boxL n2 c tv) from ⟨(Blk.new w _ _).alloc _, Blk.new' _ _ _ (by simp)⟩)
        have HP := hide (((Ext.refl w).alloc (.cells arr 32)).alloc (.cells (boxL n2 c tv) 47))
        obtain ⟨cs, hcs⟩ : ∃ c, strOf (applyS key nonce plain.data.toList) = c := ⟨_, rfl⟩
        obtain ⟨tl, htl2⟩ : ∃ l, tagS key nonce (applyS key nonce plain.data.toList) = l := ⟨_, rfl⟩
        have heq := box_eql nonce cs tl (by rw [← htl2]; exact tagS_length _ _ _)
        have HSeal := hide (fun W hW => seal_any key nonce plain W hW hk h1 h2 (by omega))
        have HRSeal := hide (fun W => rseal_any key nonce plain W hk h1 h2 (by omega))
        have HOp := hide (fun W hW => open_no key n2 c t W hW hk ht h3 h4 (by omega) hcase)
        have HROp := hide (fun W => ropen_no key n2 c t W hk ht h3 h4 (by omega) hcase)
        rw [boxV_eq, hcs, htl2, harr] at HSeal HRSeal
        rw [boxV_eq, htv, harr] at HOp HROp
        rw [boxV_eq, htv, harr]
        skip
        obtain ⟨bx, hbx⟩ : ∃ b, boxL nonce cs (tl.map u8v) = b := ⟨_, rfl⟩
        rw [hbx] at HSeal HRSeal heq
        clear harr htv hcs htl2 hbx hcase
        go_enter Tryd.func9, Tryd.ntmps9
        go_wp2_with fail
        refine (sanity6_any _ ((unhide HM).ext (unhide HP))).mono ?_
        rintro e w1 ⟨rfl, hE1⟩
        have H1 := hide (And.intro ((unhide HP).trans hE1) (And.intro ((unhide HQ).1.ext hE1) ((unhide HQ).2.ext hE1)))
        clear hE1 HP HQ
        have c1 : w1.cell? ⟨w.heap.size + 1, 1, none⟩ = some (.string c) := by rw [(unhide H1).2.2.cell]; rfl
        have TK := hide True.intro
        have TK2 := hide True.intro
        go_upto_region 6 with (first
          | (have TT := unhide TK; refine wpList_loadB (x := .tmp 4) rfl rfl digest_wide rfl (cs := arr) (unhide H1).2.1 hasz ?_; clear TT)
          | (have TT := unhide TK; refine wpList_loadB (x := .tmp 7) rfl rfl box_wide rfl (cs := boxL n2 c tv) (unhide H1).2.2 (boxL_size htl) ?_; clear TT)
          | (refine wpList_loadB (x := .tmp 4) rfl rfl digest_wide rfl (cs := arr) (unhide H2).2.1 hasz ?_)
          | (refine wpList_loadB (x := .tmp 7) rfl rfl box_wide rfl (cs := boxL n2 c tv) (unhide H2).2.2 (boxL_size htl) ?_)
          | (go_at_call 30; clear TK c1; refine (unhide HOp _ ((unhide HM).ext (unhide H1).1)).mono ?_; rintro e w2 ⟨rfl, hE2⟩; have H2 := hide (And.intro ((unhide H1).1.trans hE2) (And.intro ((unhide H1).2.1.ext hE2) ((unhide H1).2.2.ext hE2))); clear hE2)
          | (go_at_call 31; refine (unhide HROp _).mono ?_; rintro e w3 ⟨rfl, hE3⟩; have HZ := hide (And.intro ((unhide H2).1.trans hE3) ((unhide H2).2.1.ext hE3)); clear hE3))
        refine wp_region_held_drew (S := fun w' => Ext w3 w') (by kernel_rfl) (Ext.refl _).drew (fun hHeld => ?_)
        refine wpAnyH_take (i := 0) (oi := _) (v := ?_) rfl (by kernel_rfl) (by kernel_rfl) (by kernel_rfl) (fun _ _ _ h => h) (Or.inl ⟨by rfl, fun wz hSz => ?_⟩) (by assumption) ?_
        rotate_left
        · (clear hSz; first | (go_simp; done) | (go_simp; with_reducible rfl))
        try simp only [Act.put, List.setIfInBounds_toArray, List.set_cons_zero, List.set_cons_succ, List.getElem_toArray, List.getElem_cons_succ, List.getElem_cons_zero]
        refine wpAnyH_take (i := 1) (oi := _) (v := ?_) rfl (by kernel_rfl) (by kernel_rfl) (by kernel_rfl) (fun _ _ _ h => h) (Or.inl ⟨by rfl, fun wz hSz => ?_⟩) (by assumption) ?_
        rotate_left
        · (clear hSz; first | (go_simp; done) | (go_simp; with_reducible rfl))
        try simp only [Act.put, List.setIfInBounds_toArray, List.set_cons_zero, List.set_cons_succ, List.getElem_toArray, List.getElem_cons_succ, List.getElem_cons_zero]
        refine wpAnyH_take (i := 2) (oi := _) (v := _) rfl (by kernel_rfl) (by kernel_rfl) (by kernel_rfl) (fun _ _ _ h => h) (ylb digest_wide rfl (by rfl) rfl hasz (fun w' hw => (unhide HZ).2.ext hw)) (by assumption) ?_
        try simp only [Act.put, List.setIfInBounds_toArray, List.set_cons_zero, List.set_cons_succ, List.getElem_toArray, List.getElem_cons_succ, List.getElem_cons_zero]
        refine wpAnyH_take (i := 6) (oi := _) (v := _) rfl (by kernel_rfl) (by kernel_rfl) (by kernel_rfl) (fun _ _ _ h => h) (ylb digest_wide rfl (by rfl) rfl hasz (fun w' hw => (unhide HZ).2.ext hw)) (by assumption) ?_
        try simp only [Act.put, List.setIfInBounds_toArray, List.set_cons_zero, List.set_cons_succ, List.getElem_toArray, List.getElem_cons_succ, List.getElem_cons_zero]
        refine wpAnyH_take (i := 3) (oi := _) (v := ?_) rfl (by kernel_rfl) (by kernel_rfl) (by kernel_rfl) (fun _ _ _ h => h) (Or.inl ⟨by rfl, fun wz hSz => ?_⟩) (by assumption) ?_
        rotate_left
        · (clear hSz; first | (go_simp; done) | (go_simp; with_reducible rfl))
        try simp only [Act.put, List.setIfInBounds_toArray, List.set_cons_zero, List.set_cons_succ, List.getElem_toArray, List.getElem_cons_succ, List.getElem_cons_zero]
        refine wpAnyH_take (i := 4) (oi := _) (v := ?_) rfl (by kernel_rfl) (by kernel_rfl) (by kernel_rfl) (fun _ _ _ h => h) (Or.inl ⟨by rfl, fun wz hSz => ?_⟩) (by assumption) ?_
        rotate_left
        · (clear hSz; first | (go_simp; done) | (go_simp; with_reducible rfl))
        try simp only [Act.put, List.setIfInBounds_toArray, List.set_cons_zero, List.set_cons_succ, List.getElem_toArray, List.getElem_cons_succ, List.getElem_cons_zero]
        refine wpAnyH_take (i := 7) (oi := _) (v := ?_) rfl (by kernel_rfl) (by kernel_rfl) (by kernel_rfl) (fun _ _ _ h => h) (Or.inl ⟨by rfl, fun wz hSz => ?_⟩) (by assumption) ?_
        rotate_left
        · (clear hSz; first | (go_simp; done) | (go_simp; with_reducible rfl))
        try simp only [Act.put, List.setIfInBounds_toArray, List.set_cons_zero, List.set_cons_succ, List.getElem_toArray, List.getElem_cons_succ, List.getElem_cons_zero]
        refine wpAnyH_take (i := 8) (oi := _) (v := ?_) rfl (by kernel_rfl) (by kernel_rfl) (by kernel_rfl) (fun _ _ _ h => h) (Or.inl ⟨by rfl, fun wz hSz => ?_⟩) (by assumption) ?_
        rotate_left
        · (clear hSz; first | (go_simp; done) | (go_simp; with_reducible rfl))
        try simp only [Act.put, List.setIfInBounds_toArray, List.set_cons_zero, List.set_cons_succ, List.getElem_toArray, List.getElem_cons_succ, List.getElem_cons_zero]
        refine wpAnyH_ready (rs := [5]) (by kernel_rfl) (by simp) (AllReadyH.cons (o := _) rfl (fun K hK => ?_) AllReadyH.nil)
        go_simp
        refine (unhide HSeal _ ((unhide HM).ext ((unhide HZ).1.trans hHeld))).mono ?_; rintro e w5 ⟨rfl, hE5⟩; have hS := Ext.trans hHeld hE5; clear hE5 hHeld
        refine hK.out _ _ ?_ (fun hHeld => ?_)
        · exact hS
        clear hK K
        try simp only [Act.put, List.setIfInBounds_toArray, List.set_cons_zero, List.set_cons_succ, List.getElem_toArray, List.getElem_cons_succ, List.getElem_cons_zero]
        refine wpAnyH_ready (rs := [9]) (by kernel_rfl) (by simp) (AllReadyH.cons (o := _) rfl (fun K hK => ?_) AllReadyH.nil)
        go_simp
        refine (unhide HRSeal _).mono ?_; rintro e w6 ⟨rfl, hE6⟩; have hS := Ext.trans hHeld hE6; clear hE6 hHeld
        refine hK.out _ _ ?_ (fun hHeld => ?_)
        · exact hS
        clear hK K
        try simp only [Act.put, List.setIfInBounds_toArray, List.set_cons_zero, List.set_cons_succ, List.getElem_toArray, List.getElem_cons_succ, List.getElem_cons_zero]
        refine wpAnyH_take (i := 10) (oi := _) (v := ?_) rfl (by kernel_rfl) (by kernel_rfl) (by kernel_rfl) (fun _ _ _ h => h) (Or.inl ⟨by rfl, fun wz hSz => ?_⟩) (by assumption) ?_
        rotate_left
        · (clear hSz; first | (go_simp; done) | (go_simp; with_reducible rfl))
        try simp only [Act.put, List.setIfInBounds_toArray, List.set_cons_zero, List.set_cons_succ, List.getElem_toArray, List.getElem_cons_succ, List.getElem_cons_zero]
        refine wpAnyH_take (i := 11) (oi := _) (v := ?_) rfl (by kernel_rfl) (by kernel_rfl) (by kernel_rfl) (fun _ _ _ h => h) (Or.inl ⟨by rfl, fun wz hSz => ?_⟩) (by assumption) ?_
        rotate_left
        · (clear hSz; first | (go_simp; done) | (go_simp; with_reducible rfl))
        try simp only [Act.put, List.setIfInBounds_toArray, List.set_cons_zero, List.set_cons_succ, List.getElem_toArray, List.getElem_cons_succ, List.getElem_cons_zero]
        refine wpAnyH_take (i := 12) (oi := _) (v := ?_) rfl (by kernel_rfl) (by kernel_rfl) (by kernel_rfl) (fun _ _ _ h => h) (Or.inl ⟨by rfl, fun wz hSz => ?_⟩) (by assumption) ?_
        rotate_left
        · (clear hSz; first | (go_simp; done) | (go_simp; with_reducible rfl))
        try simp only [Act.put, List.setIfInBounds_toArray, List.set_cons_zero, List.set_cons_succ, List.getElem_toArray, List.getElem_cons_succ, List.getElem_cons_zero]
        refine wpAnyH_take (i := 13) (oi := _) (v := ?_) rfl (by kernel_rfl) (by kernel_rfl) (by kernel_rfl) (fun _ _ _ h => h) (Or.inl ⟨by rfl, fun wz hSz => ?_⟩) (by assumption) ?_
        rotate_left
        · (clear hSz; first | (go_simp; done) | (go_simp; with_reducible rfl))
        try simp only [Act.put, List.setIfInBounds_toArray, List.set_cons_zero, List.set_cons_succ, List.getElem_toArray, List.getElem_cons_succ, List.getElem_cons_zero]
        refine wpAnyH_take (i := 14) (oi := _) (v := ?_) rfl (by kernel_rfl) (by kernel_rfl) (by kernel_rfl) (fun _ _ _ h => h) (Or.inl ⟨by rfl, fun wz hSz => ?_⟩) (by assumption) ?_
        rotate_left
        · (clear hSz; first | (go_simp; done) | (go_simp; with_reducible rfl))
        try simp only [Act.put, List.setIfInBounds_toArray, List.set_cons_zero, List.set_cons_succ, List.getElem_toArray, List.getElem_cons_succ, List.getElem_cons_zero]
        refine wpAnyH_take (i := 15) (oi := _) (v := ?_) rfl (by kernel_rfl) (by kernel_rfl) (by kernel_rfl) (fun _ _ _ h => h) (Or.inl ⟨by rfl, fun wz hSz => ?_⟩) (by assumption) ?_
        rotate_left
        · (clear hSz; first | (go_simp; done) | (go_simp; with_reducible rfl))
        try simp only [Act.put, List.setIfInBounds_toArray, List.set_cons_zero, List.set_cons_succ, List.getElem_toArray, List.getElem_cons_succ, List.getElem_cons_zero]
        refine wpAnyH_take (i := 16) (oi := _) (v := ?_) rfl (by kernel_rfl) (by kernel_rfl) (by kernel_rfl) (fun _ _ _ h => h) (Or.inl ⟨by rfl, fun wz hSz => ?_⟩) (by assumption) ?_
        rotate_left
        · (clear hSz; first | (go_simp; done) | (go_simp; with_reducible rfl))
        try simp only [Act.put, List.setIfInBounds_toArray, List.set_cons_zero, List.set_cons_succ, List.getElem_toArray, List.getElem_cons_succ, List.getElem_cons_zero]
        refine wpAnyH_take (i := 17) (oi := _) (v := ?_) rfl (by kernel_rfl) (by kernel_rfl) (by kernel_rfl) (fun _ _ _ h => h) (Or.inl ⟨by rfl, fun wz hSz => ?_⟩) (by assumption) ?_
        rotate_left
        · (clear hSz; first | (go_simp; done) | (go_simp; with_reducible rfl))
        try simp only [Act.put, List.setIfInBounds_toArray, List.set_cons_zero, List.set_cons_succ, List.getElem_toArray, List.getElem_cons_succ, List.getElem_cons_zero]
        refine wpAnyH_take (i := 18) (oi := _) (v := ?_) rfl (by kernel_rfl) (by kernel_rfl) (by kernel_rfl) (fun _ _ _ h => h) (Or.inl ⟨by rfl, fun wz hSz => ?_⟩) (by assumption) ?_
        rotate_left
        · (clear hSz; first | (go_simp; done) | (go_simp; with_reducible rfl))
        try simp only [Act.put, List.setIfInBounds_toArray, List.set_cons_zero, List.set_cons_succ, List.getElem_toArray, List.getElem_cons_succ, List.getElem_cons_zero]
        refine wpAnyH_take (i := 19) (oi := _) (v := ?_) rfl (by kernel_rfl) (by kernel_rfl) (by kernel_rfl) (fun _ _ _ h => h) (Or.inl ⟨by rfl, fun wz hSz => ?_⟩) (by assumption) ?_
        rotate_left
        · (clear hSz; first | (go_simp; done) | (go_simp; with_reducible rfl))
        try simp only [Act.put, List.setIfInBounds_toArray, List.set_cons_zero, List.set_cons_succ, List.getElem_toArray, List.getElem_cons_succ, List.getElem_cons_zero]
        refine wpAnyH_take (i := 20) (oi := _) (v := ?_) rfl (by kernel_rfl) (by kernel_rfl) (by kernel_rfl) (fun _ _ _ h => h) (Or.inl ⟨by rfl, fun wz hSz => ?_⟩) (by assumption) ?_
        rotate_left
        · (clear hSz; first | (go_simp; done) | (go_simp; with_reducible rfl))
        try simp only [Act.put, List.setIfInBounds_toArray, List.set_cons_zero, List.set_cons_succ, List.getElem_toArray, List.getElem_cons_succ, List.getElem_cons_zero]
        refine wpAnyH_take (i := 21) (oi := _) (v := ?_) rfl (by kernel_rfl) (by kernel_rfl) (by kernel_rfl) (fun _ _ _ h => h) (Or.inl ⟨by rfl, fun wz hSz => ?_⟩) (by assumption) ?_
        rotate_left
        · (clear hSz; first | (go_simp; done) | (go_simp; with_reducible rfl))
        try simp only [Act.put, List.setIfInBounds_toArray, List.set_cons_zero, List.set_cons_succ, List.getElem_toArray, List.getElem_cons_succ, List.getElem_cons_zero]
        refine wpAnyH_take (i := 22) (oi := _) (v := ?_) rfl (by kernel_rfl) (by kernel_rfl) (by kernel_rfl) (fun _ _ _ h => h) (Or.inl ⟨by rfl, fun wz hSz => ?_⟩) (by assumption) ?_
        rotate_left
        · (clear hSz; first | (go_simp; done) | (go_simp; with_reducible rfl))
        try simp only [Act.put, List.setIfInBounds_toArray, List.set_cons_zero, List.set_cons_succ, List.getElem_toArray, List.getElem_cons_succ, List.getElem_cons_zero]
        refine wpAnyH_done (by kernel_rfl) ?_ _
        go_wp2
        go_ret
        exact ⟨rfl, (unhide HZ).1.trans hHeld⟩

end Go.Proofs.YtnnecanjkogloaaDoor
