/-
  Several texts in one file: each has its own heading below.
-/
import Derived.Test.YtplkplegjoabgaaGreatDoorHzJ
import Derived.Test.YtplkplegjoabgaaGreatDoorHzE
import Derived.Test.YtplkplegjoabgaaGreatDoorHzI
import Derived.Test.YtplkplegjoabgaaGreatDoorHzK
import Derived.WalkMore


namespace Go.Proofs.YtplkplegjoabgaaGreatDoor
open Go.RowKit
structure PI (B bw bp : Nat) (ds : List (List UInt8)) (w : World) : Prop where
  mem : ShaMem w
  low : 1 < B ∧ 0 < B
  lt : B ≤ bp ∧ bp < bw
  walk : Blk w bw 215 #[.func (.func 164) #[] #[.pointer (some ⟨bw, 0, none⟩), .pointer (some ⟨bp, 0, none⟩)]]
  proof : ∃ A c, Blk w bp 30 #[.slice A ds.length c] ∧ w.ownsRow (bw + 1) 23 16 (.slice A ds.length c) ds.length (dcells ds)
  all : D16 ds
theorem PI.ext {B bw bp : Nat} {ds : List (List UInt8)} {w w' : World} (h : PI B bw bp ds w) (hE : Ext w w') : PI B bw bp ds w' := by
  obtain ⟨A, c, h1, h2⟩ := h.proof
  exact ⟨h.mem.ext hE, h.low, h.lt, h.walk.ext hE, ⟨A, c, h1.ext hE, ownsRow_ext h2 hE⟩, h.all⟩
theorem PI.step {B bw bp : Nat} {ds : List (List UInt8)} {d : List UInt8} {w w2 w3 : World} (h : PI B bw bp ds w) (hd : d.length = 16) (hE : Ext w w2) {A : Option Addr} {c : Nat} (hb : Blk w bp 30 #[.slice A ds.length c]) (ho0 : w.ownsRow (bw + 1) 23 16 (.slice A ds.length c) ds.length (dcells ds))
    (hc : Chg (fun k => (Value.slice A ds.length c).ownBlock = some k) w2 w3) {A' : Option Addr} {c' : Nat} (ho : w3.ownsRow (bw + 1) 23 16 (.slice A' (ds.length + 1) c') (ds.length + 1) (dcells ds ++ d.map u8v)) :
    PI B bw bp (ds ++ [d]) (w3.setCell ⟨bp, 0, none⟩ (.slice A' (ds.length + 1) c')) ∧ Chg (fun k => B ≤ k) w2 (w3.setCell ⟨bp, 0, none⟩ (.slice A' (ds.length + 1) c')) := by
  have h2 := h.ext hE
  have hlt := h.lt
  have hlow := h.low
  have hS : ∀ k, (Value.slice A ds.length c).ownBlock = some k → bw + 1 ≤ k := fun k hk => (ho0.lt k hk).1
  have hC : Chg (fun k => B ≤ k) w2 (w3.setCell ⟨bp, 0, none⟩ (.slice A' (ds.length + 1) c')) := (hc.mono fun k _ hk => by have := hS k hk; omega).setCell (p := ⟨bp, 0, none⟩) (.inl (by show B ≤ bp; omega)) _
  refine ⟨⟨h2.mem.chg hC (by omega) (by omega), hlow, hlt, ?_, ⟨A', c', ?_, ?_⟩, h.all.append (D16.one hd)⟩, hC⟩
  · exact ((h2.walk.chg hc (fun e => by have := hS _ e; omega)).far' (by omega) _ _)
  · have := ((hb.ext hE).chg hc (fun e => by have := hS _ e; omega)).set_ 0 (.slice A' (ds.length + 1) c')
    rw [List.length_append]
    exact this
  · rw [dcells_append, dcells_one, List.length_append]
    refine ownsRow_chg ho (Chg.setCell (Chg.refl (fun k => k = bp) w3) (p := ⟨bp, 0, none⟩) (.inl rfl) _) (fun k hk => ?_)
    have := (ho.lt k hk).1
    omega
set_option maxRecDepth 100000 in
set_option maxHeartbeats 4000000 in
theorem walk_any (B bw bp : Nat) (N : Nat) : ∀ (l ds : List (List UInt8)) (i : Nat) (lv : Value) (w : World), l.length ≤ N → i < l.length → l.length + ds.length ≤ 100000 → Digs w lv l → (∀ k, lv.ownBlock = some k → k < B) → PI B bw bp ds w →
    Calls Tryz.prog 164 #[lv, .int .i64 (i : Int), .pointer (some ⟨bw, 0, none⟩), .pointer (some ⟨bp, 0, none⟩)] w fun e w' => e = .returned (.tuple #[]) ∧ PI B bw bp (ds ++ proveS l i) w' ∧ Chg (fun k => B ≤ k) w w' := by
  induction N with
  | zero => intro l ds i lv w h1 h2; omega
  | succ N ih =>
    intro l ds i lv w hN hi h5 hD hlv hP
    by_cases h1 : l.length = 1
    · obtain ⟨A, c, rfl, _, _⟩ := hD.form
      have HP := hide (show PI B bw bp (ds ++ proveS l i) w from by rw [proveS_one l i (by omega), List.append_nil]; exact hP)
      rw [h1]
      clear hD hP ih hlv
      go_enter Tryz.func164, Tryz.ntmps164
      go_wp2_with fail
      refine bodyPost_ret (results_none rfl _ _ _) rfl ?_
      exact ⟨rfl, unhide HP, Chg.refl _ _⟩
    · have hb := splitS_bounds l.length (by omega)
      have HSp := hide (fun W => split_any l.length W (by omega) (by omega))
      obtain ⟨b, o, c, rfl, hc1, hc2, hbl, hL, hRt⟩ := hD.parts (by omega) hb.1 hb.2
      have hbB : b < B := hlv b rfl
      have hll : (l.take (splitS l.length)).length = splitS l.length := by rw [List.length_take]; omega
      have hrl : (l.drop (splitS l.length)).length = l.length - splitS l.length := by rw [List.length_drop]
      have HDL := hide (hL (splitS l.length) (by omega) (by omega))
      have HDR := hide (hRt (l.length - splitS l.length) (by omega) (by omega))
      have hnI : ¬ (l.length : Int) = 1 := by omega
      have HP := hide hP
      have HM := hide (And.intro hP.mem (And.intro hP.low hP.lt))
      have hwc : w.cell? ⟨bw, 0, none⟩ = some (.func (.func 164) #[] #[.pointer (some ⟨bw, 0, none⟩), .pointer (some ⟨bp, 0, none⟩)]) := by rw [hP.walk.cell]; rfl
      have hcall := call_enters Tryz.func164 (by kernel_rfl) rfl
      have hk1 : splitS l.length ≤ l.length := by omega
      have hk2 : splitS l.length ≤ c := by omega
      have hk3 : ¬ l.length = splitS l.length := by omega
      have hk4 : ¬ c = splitS l.length := by omega
      unfold maxLen at hc2
      by_cases hk : i < splitS l.length
      · have HQ := hide (proveS_left l i (by omega) hk)
        have HW := hide (fun W (hD : Digs W (.slice (some ⟨b, o, none⟩) (splitS l.length) (splitS l.length)) (l.take (splitS l.length))) (hP : PI B bw bp ds W) => ih (l.take (splitS l.length)) ds i (.slice (some ⟨b, o, none⟩) (splitS l.length) (splitS l.length)) W (by omega) (by omega) (by omega) hD (fun k hk => by cases hk; exact hbB) hP)
        obtain ⟨ro, hro⟩ : ∃ r, rootS (l.drop (splitS l.length)) = r := ⟨_, rfl⟩
        have HRt := hide (fun W (hC : Chg (fun k => B ≤ k) w W) => root_any (l.drop (splitS l.length)).length (l.drop (splitS l.length)) (.slice (some ⟨b, o + splitS l.length * 16, none⟩) (l.length - splitS l.length) (l.length - splitS l.length)) W ((unhide HM).1.chg hC (by have := (unhide HM).2.1; omega) (by have := (unhide HM).2.1; omega)) (Nat.le_refl _) (by omega) ((unhide HDR).chg hC (fun k hk e => by simp only [Value.ownBlock, Option.some.injEq] at hk; omega)))
        have hkI : (i : Int) < ((splitS l.length : Nat) : Int) := by omega
        have hle : l.length + ds.length ≤ 100000 := h5
        clear hD hP ih hlv hL hRt
        go_enter Tryz.func164, Tryz.ntmps164
        go_upto_region 3 with (go_at_call 119; refine (unhide HSp _).mono ?_; rintro e wz ⟨rfl, rfl⟩)
        refine wp_region_held_drew (S := fun _ => True) (by kernel_rfl) trivial (fun hHeld => ?_)
        refine wpAnyH_take (i := 0) (oi := _) (v := ?_) rfl (by kernel_rfl) (by kernel_rfl) (by kernel_rfl) (fun _ _ _ h => h) (Or.inl ⟨by rfl, fun wz hSz => ?_⟩) (by assumption) ?_
        rotate_left
        · (first | (go_simp; done) | (go_simp; with_reducible rfl))
        try simp only [Act.put, List.setIfInBounds_toArray, List.set_cons_zero, List.set_cons_succ, List.getElem_toArray, List.getElem_cons_zero]
        refine wpAnyH_take (i := 1) (oi := _) (v := ?_) rfl (by kernel_rfl) (by kernel_rfl) (by kernel_rfl) (fun _ _ _ h => h) (Or.inl ⟨by rfl, fun wz hSz => ?_⟩) (by assumption) ?_
        rotate_left
        · (first | (go_simp; done) | (go_simp; with_reducible rfl))
        try simp only [Act.put, List.setIfInBounds_toArray, List.set_cons_zero, List.set_cons_succ, List.getElem_toArray, List.getElem_cons_succ, List.getElem_cons_zero]
        refine wpAnyH_take (i := 2) (oi := _) (v := ?_) rfl (by kernel_rfl) (by kernel_rfl) (by kernel_rfl) (fun _ _ _ h => h) (Or.inl ⟨by rfl, fun wz hSz => ?_⟩) (by assumption) ?_
        rotate_left
        · (first | (go_simp; done) | (go_simp; with_reducible rfl))
        try simp only [Act.put, List.setIfInBounds_toArray, List.set_cons_zero, List.set_cons_succ, List.getElem_toArray, List.getElem_cons_succ, List.getElem_cons_zero]
        refine wpAnyH_take (i := 3) (oi := _) (v := ?_) rfl (by kernel_rfl) (by kernel_rfl) (by kernel_rfl) (fun _ _ _ h => h) (Or.inl ⟨by rfl, fun wz hSz => ?_⟩) (by assumption) ?_
        rotate_left
        · (first | (go_simp; done) | (go_simp; with_reducible rfl))
        try simp only [Act.put, List.setIfInBounds_toArray, List.set_cons_zero, List.set_cons_succ, List.getElem_toArray, List.getElem_cons_succ, List.getElem_cons_zero]
        refine wpAnyH_take (i := 4) (oi := _) (v := ?_) rfl (by kernel_rfl) (by kernel_rfl) (by kernel_rfl) (fun _ _ _ h => h) (Or.inl ⟨by rfl, fun wz hSz => ?_⟩) (by assumption) ?_
        rotate_left
        · (first | (go_simp; done) | (go_simp; with_reducible rfl))
        try simp only [Act.put, List.setIfInBounds_toArray, List.set_cons_zero, List.set_cons_succ, List.getElem_toArray, List.getElem_cons_succ, List.getElem_cons_zero]
        refine wpAnyH_take (i := 5) (oi := _) (v := ?_) rfl (by kernel_rfl) (by kernel_rfl) (by kernel_rfl) (fun _ _ _ h => h) (Or.inl ⟨by rfl, fun wz hSz => ?_⟩) (by assumption) ?_
        rotate_left
        · (first | (go_simp; done) | (go_simp; with_reducible rfl))
        try simp only [Act.put, List.setIfInBounds_toArray, List.set_cons_zero, List.set_cons_succ, List.getElem_toArray, List.getElem_cons_succ, List.getElem_cons_zero]
        refine wpAnyH_take (i := 6) (oi := _) (v := ?_) rfl (by kernel_rfl) (by kernel_rfl) (by kernel_rfl) (fun _ _ _ h => h) (Or.inl ⟨by rfl, fun wz hSz => ?_⟩) (by assumption) ?_
        rotate_left
        · (first | (go_simp; done) | (go_simp; with_reducible rfl))
        try simp only [Act.put, List.setIfInBounds_toArray, List.set_cons_zero, List.set_cons_succ, List.getElem_toArray, List.getElem_cons_succ, List.getElem_cons_zero]
        refine wpAnyH_take (i := 7) (oi := _) (v := ?_) rfl (by kernel_rfl) (by kernel_rfl) (by kernel_rfl) (fun _ _ _ h => h) (Or.inl ⟨by rfl, fun wz hSz => ?_⟩) (by assumption) ?_
        rotate_left
        · (first | (go_simp; done) | (go_simp; with_reducible rfl))
        try simp only [Act.put, List.setIfInBounds_toArray, List.set_cons_zero, List.set_cons_succ, List.getElem_toArray, List.getElem_cons_succ, List.getElem_cons_zero]
        refine wpAnyH_take (i := 8) (oi := _) (v := ?_) rfl (by kernel_rfl) (by kernel_rfl) (by kernel_rfl) (fun _ _ _ h => h) (Or.inl ⟨by rfl, fun wz hSz => ?_⟩) (by assumption) ?_
        rotate_left
        · (first | (go_simp; done) | (go_simp; with_reducible rfl))
        try simp only [Act.put, List.setIfInBounds_toArray, List.set_cons_zero, List.set_cons_succ, List.getElem_toArray, List.getElem_cons_succ, List.getElem_cons_zero]
        refine wpAnyH_take (i := 9) (oi := _) (v := ?_) rfl (by kernel_rfl) (by kernel_rfl) (by kernel_rfl) (fun _ _ _ h => h) (Or.inl ⟨by rfl, fun wz hSz => ?_⟩) (by assumption) ?_
        rotate_left
        · (first | (go_simp; done) | (go_simp; with_reducible rfl))
        try simp only [Act.put, List.setIfInBounds_toArray, List.set_cons_zero, List.set_cons_succ, List.getElem_toArray, List.getElem_cons_succ, List.getElem_cons_zero]
        refine wpAnyH_take (i := 10) (oi := _) (v := ?_) rfl (by kernel_rfl) (by kernel_rfl) (by kernel_rfl) (fun _ _ _ h => h) (Or.inl ⟨by rfl, fun wz hSz => ?_⟩) (by assumption) ?_
        rotate_left
        · (first | (go_simp; done) | (go_simp; with_reducible rfl))
        try simp only [Act.put, List.setIfInBounds_toArray, List.set_cons_zero, List.set_cons_succ, List.getElem_toArray, List.getElem_cons_succ, List.getElem_cons_zero]
        refine wpAnyH_done (by kernel_rfl) ?_ _
        go_wp2_with fail
        refine (unhide HW _ ((unhide HDL).ext (Ext.refl _).drew) ((unhide HP).ext (Ext.refl _).drew)).mono ?_
        rintro e w1 ⟨rfl, hP1, hC1⟩
        have H1 := hide (And.intro hP1 ((Chg.refl (fun k => B ≤ k) w).drew.trans hC1))
        obtain ⟨A, c1, hbp, hown⟩ := hP1.proof
        have hgp := hP1.lt
        have HBO := hide (And.intro hbp hown)
        have HL16 := hide (show ro.length = 16 from by rw [← hro]; exact rootS_length _)
        have HPL := hide (prove_le l.length (l.take (splitS l.length)) (i) (by omega))
        have hpl : (ds ++ proveS (l.take (splitS l.length)) (i)).length ≤ 100000 := by have := unhide HPL; rw [List.length_append]; omega
        have HQ2 := hide (show ds ++ proveS l i = (ds ++ proveS (l.take (splitS l.length)) (i)) ++ [ro] from by rw [unhide HQ, List.append_assoc, hro])
        generalize ds ++ proveS (l.take (splitS l.length)) (i) = ds1 at *
        have HF : Hid (∀ W, Chg (fun k => bw + 1 ≤ k) w1 W → W.cell? ⟨bp, 0, none⟩ = some (.slice A ds1.length c1)) := hide (fun W hW => by rw [(hbp.chg hW (by omega)).cell]; rfl)
        clear hbp hown hP1 hC1
        go_upto_region 6 with fail
        refine wp_region_key 5 (Chg (fun k => bw + 1 ≤ k) w1) (by kernel_rfl) ((Chg.refl _ _).drew) (fun hHeld => ?_)
        refine wpAnyK_take (i := 0) (oi := _) (v := ?_) rfl (by kernel_rfl) (by kernel_rfl) (by kernel_rfl) (by kernel_rfl) (by kernel_rfl) (fun _ _ _ h => h) (Or.inl ⟨by rfl, fun wz hSz => ?_⟩) (by assumption) ?_
        rotate_left
        · (first | (go_simp; done) | (go_simp; with_reducible rfl) | (obtain f1 := (unhide HF) wz hSz; clear hSz; first | (go_simp; done) | (go_simp; with_reducible rfl)))
        try simp only [Act.put, List.setIfInBounds_toArray, List.set_cons_zero, List.set_cons_succ, List.getElem_toArray, List.getElem_cons_zero]
        refine wpAnyK_take (i := 1) (oi := _) (v := ?_) rfl (by kernel_rfl) (by kernel_rfl) (by kernel_rfl) (by kernel_rfl) (by kernel_rfl) (fun _ _ _ h => h) (Or.inl ⟨by rfl, fun wz hSz => ?_⟩) (by assumption) ?_
        rotate_left
        · (first | (go_simp; done) | (go_simp; with_reducible rfl) | (obtain f1 := (unhide HF) wz hSz; clear hSz; first | (go_simp; done) | (go_simp; with_reducible rfl)))
        try simp only [Act.put, List.setIfInBounds_toArray, List.set_cons_zero, List.set_cons_succ, List.getElem_toArray, List.getElem_cons_succ, List.getElem_cons_zero]
        refine wpAnyK_ready (rs := [2]) (by kernel_rfl) (by simp) (AllReadyK.cons (o := _) rfl (fun K hK => ?_) AllReadyK.nil)
        try go_simp
        (refine (unhide HRt _ ((unhide H1).2.drew)).mono ?_; rintro e w3 ⟨rfl, hE3⟩; rw [hro]; have hS : Chg (fun k => bw + 1 ≤ k) w1 w3 := hHeld.ext hE3; have H3 := hide ((Ext.refl w1).drew.trans hE3); clear hHeld hE3)
        refine hK.out _ _ ?_ (fun hHeld => ?_)
        · exact hS
        clear hK K
        try simp only [Act.put, List.setIfInBounds_toArray, List.set_cons_zero, List.set_cons_succ, List.getElem_toArray, List.getElem_cons_succ, List.getElem_cons_zero]
        refine wpAnyK_ready (rs := [3]) (by kernel_rfl) (by simp) (AllReadyK.cons (o := _) rfl (fun K hK => ?_) AllReadyK.nil)
        (rw [if_pos (by rfl)]; refine wp_build1 (t := 30) (x := .tmp 34) digs_row (by omega) rfl rfl (by simpa using unhide HL16) ?_; have hS := hHeld.alloc (.cells (ro.map u8v).toArray 23); clear hHeld)
        refine hK.out _ _ ?_ (fun hHeld => ?_)
        · exact hS
        clear hK K
        try simp only [Act.put, List.setIfInBounds_toArray, List.set_cons_zero, List.set_cons_succ, List.getElem_toArray, List.getElem_cons_succ, List.getElem_cons_zero]
        refine wpAnyK_ready (rs := [4]) (by kernel_rfl) (by simp) (AllReadyK.cons (o := _) rfl (fun K hK => ?_) AllReadyK.nil)
        (refine step_app rfl rfl digs_row rfl (ownsRow_ext (unhide HBO).2 ((unhide H3).alloc _)) rfl (Reads.newD _ _ _ (unhide HL16) rfl) (AllOne.u8 ro) (by omega) (by have := (unhide HBO).1.lt; have := (unhide H1).1.walk.lt; have := (unhide H3).size'; simp; omega) ?_; intro A' c' w4 ho hc4 hv; have hS : Chg (fun k => bw + 1 ≤ k) w1 w4 := hHeld.trans (hc4.mono fun k _ hk => ((unhide HBO).2.lt k hk).1); have H4 := hide ((unhide H1).1.step (unhide HL16) ((unhide H3).alloc _) (unhide HBO).1 (unhide HBO).2 hc4 ho); have cb := unhide HF w4 hS; have fb := ((unhide HBO).1.chg hS (by omega)).frozen 0; have H34 := hide ((unhide H1).2.trans (((unhide H3).alloc (.cells (ro.map u8v).toArray 23)).chg)); clear ho hc4 hv hHeld)
        refine hK.out _ _ ?_ (fun hHeld => ?_)
        · exact hS
        clear hK K
        try simp only [Act.put, List.setIfInBounds_toArray, List.set_cons_zero, List.set_cons_succ, List.getElem_toArray, List.getElem_cons_succ, List.getElem_cons_zero]
        refine wpAnyK_ready (rs := [5]) (by kernel_rfl) (by simp) (AllReadyK.key (o := _) (by kernel_rfl) rfl (fun K hK => ?_))
        go_simp
        refine hK.out _ _ trivial (fun _ => ?_)
        clear hK K
        try simp only [Act.put, List.setIfInBounds_toArray, List.set_cons_zero, List.set_cons_succ, List.getElem_toArray, List.getElem_cons_succ, List.getElem_cons_zero]
        refine wpAnyK_done (by kernel_rfl) ?_ _
        go_wp2
        first | (refine bodyPost_ret (results_none rfl _ _ _) rfl ?_) | go_end0
        exact ⟨rfl, by rw [unhide HQ2]; exact (unhide H4).1, (unhide H34).trans (unhide H4).2⟩
      · have HQ := hide (proveS_right l i (by omega) hk)
        have HW := hide (fun W (hD : Digs W (.slice (some ⟨b, o + splitS l.length * 16, none⟩) (l.length - splitS l.length) (l.length - splitS l.length)) (l.drop (splitS l.length))) (hP : PI B bw bp ds W) => ih (l.drop (splitS l.length)) ds (i - splitS l.length) (.slice (some ⟨b, o + splitS l.length * 16, none⟩) (l.length - splitS l.length) (l.length - splitS l.length)) W (by omega) (by omega) (by omega) hD (fun k hk => by cases hk; exact hbB) hP)
        obtain ⟨ro, hro⟩ : ∃ r, rootS (l.take (splitS l.length)) = r := ⟨_, rfl⟩
        have HRt := hide (fun W (hC : Chg (fun k => B ≤ k) w W) => root_any (l.take (splitS l.length)).length (l.take (splitS l.length)) (.slice (some ⟨b, o, none⟩) (splitS l.length) (splitS l.length)) W ((unhide HM).1.chg hC (by have := (unhide HM).2.1; omega) (by have := (unhide HM).2.1; omega)) (Nat.le_refl _) (by omega) ((unhide HDL).chg hC (fun k hk e => by simp only [Value.ownBlock, Option.some.injEq] at hk; omega)))
        have hkI : ¬ (i : Int) < ((splitS l.length : Nat) : Int) := by omega
        have eki : ((i - splitS l.length : Nat) : Int) = (i : Int) - ((splitS l.length : Nat) : Int) := by omega
        rw [eki] at HW
        have hle : l.length + ds.length ≤ 100000 := h5
        clear hD hP ih hlv hL hRt
        go_enter Tryz.func164, Tryz.ntmps164
        go_upto_region 3 with (go_at_call 119; refine (unhide HSp _).mono ?_; rintro e wz ⟨rfl, rfl⟩)
        refine wp_region_held_drew (S := fun _ => True) (by kernel_rfl) trivial (fun hHeld => ?_)
        refine wpAnyH_take (i := 0) (oi := _) (v := ?_) rfl (by kernel_rfl) (by kernel_rfl) (by kernel_rfl) (fun _ _ _ h => h) (Or.inl ⟨by rfl, fun wz hSz => ?_⟩) (by assumption) ?_
        rotate_left
        · (first | (go_simp; done) | (go_simp; with_reducible rfl))
        try simp only [Act.put, List.setIfInBounds_toArray, List.set_cons_zero, List.set_cons_succ, List.getElem_toArray, List.getElem_cons_zero]
        refine wpAnyH_take (i := 1) (oi := _) (v := ?_) rfl (by kernel_rfl) (by kernel_rfl) (by kernel_rfl) (fun _ _ _ h => h) (Or.inl ⟨by rfl, fun wz hSz => ?_⟩) (by assumption) ?_
        rotate_left
        · (first | (go_simp; done) | (go_simp; with_reducible rfl))
        try simp only [Act.put, List.setIfInBounds_toArray, List.set_cons_zero, List.set_cons_succ, List.getElem_toArray, List.getElem_cons_succ, List.getElem_cons_zero]
        refine wpAnyH_take (i := 2) (oi := _) (v := ?_) rfl (by kernel_rfl) (by kernel_rfl) (by kernel_rfl) (fun _ _ _ h => h) (Or.inl ⟨by rfl, fun wz hSz => ?_⟩) (by assumption) ?_
        rotate_left
        · (first | (go_simp; done) | (go_simp; with_reducible rfl))
        try simp only [Act.put, List.setIfInBounds_toArray, List.set_cons_zero, List.set_cons_succ, List.getElem_toArray, List.getElem_cons_succ, List.getElem_cons_zero]
        refine wpAnyH_take (i := 3) (oi := _) (v := ?_) rfl (by kernel_rfl) (by kernel_rfl) (by kernel_rfl) (fun _ _ _ h => h) (Or.inl ⟨by rfl, fun wz hSz => ?_⟩) (by assumption) ?_
        rotate_left
        · (first | (go_simp; done) | (go_simp; with_reducible rfl))
        try simp only [Act.put, List.setIfInBounds_toArray, List.set_cons_zero, List.set_cons_succ, List.getElem_toArray, List.getElem_cons_succ, List.getElem_cons_zero]
        refine wpAnyH_take (i := 4) (oi := _) (v := ?_) rfl (by kernel_rfl) (by kernel_rfl) (by kernel_rfl) (fun _ _ _ h => h) (Or.inl ⟨by rfl, fun wz hSz => ?_⟩) (by assumption) ?_
        rotate_left
        · (first | (go_simp; done) | (go_simp; with_reducible rfl))
        try simp only [Act.put, List.setIfInBounds_toArray, List.set_cons_zero, List.set_cons_succ, List.getElem_toArray, List.getElem_cons_succ, List.getElem_cons_zero]
        refine wpAnyH_take (i := 5) (oi := _) (v := ?_) rfl (by kernel_rfl) (by kernel_rfl) (by kernel_rfl) (fun _ _ _ h => h) (Or.inl ⟨by rfl, fun wz hSz => ?_⟩) (by assumption) ?_
        rotate_left
        · (first | (go_simp; done) | (go_simp; with_reducible rfl))
        try simp only [Act.put, List.setIfInBounds_toArray, List.set_cons_zero, List.set_cons_succ, List.getElem_toArray, List.getElem_cons_succ, List.getElem_cons_zero]
        refine wpAnyH_take (i := 6) (oi := _) (v := ?_) rfl (by kernel_rfl) (by kernel_rfl) (by kernel_rfl) (fun _ _ _ h => h) (Or.inl ⟨by rfl, fun wz hSz => ?_⟩) (by assumption) ?_
        rotate_left
        · (first | (go_simp; done) | (go_simp; with_reducible rfl))
        try simp only [Act.put, List.setIfInBounds_toArray, List.set_cons_zero, List.set_cons_succ, List.getElem_toArray, List.getElem_cons_succ, List.getElem_cons_zero]
        refine wpAnyH_take (i := 7) (oi := _) (v := ?_) rfl (by kernel_rfl) (by kernel_rfl) (by kernel_rfl) (fun _ _ _ h => h) (Or.inl ⟨by rfl, fun wz hSz => ?_⟩) (by assumption) ?_
        rotate_left
        · (first | (go_simp; done) | (go_simp; with_reducible rfl))
        try simp only [Act.put, List.setIfInBounds_toArray, List.set_cons_zero, List.set_cons_succ, List.getElem_toArray, List.getElem_cons_succ, List.getElem_cons_zero]
        refine wpAnyH_take (i := 8) (oi := _) (v := ?_) rfl (by kernel_rfl) (by kernel_rfl) (by kernel_rfl) (fun _ _ _ h => h) (Or.inl ⟨by rfl, fun wz hSz => ?_⟩) (by assumption) ?_
        rotate_left
        · (first | (go_simp; done) | (go_simp; with_reducible rfl))
        try simp only [Act.put, List.setIfInBounds_toArray, List.set_cons_zero, List.set_cons_succ, List.getElem_toArray, List.getElem_cons_succ, List.getElem_cons_zero]
        refine wpAnyH_take (i := 9) (oi := _) (v := ?_) rfl (by kernel_rfl) (by kernel_rfl) (by kernel_rfl) (fun _ _ _ h => h) (Or.inl ⟨by rfl, fun wz hSz => ?_⟩) (by assumption) ?_
        rotate_left
        · (first | (go_simp; done) | (go_simp; with_reducible rfl))
        try simp only [Act.put, List.setIfInBounds_toArray, List.set_cons_zero, List.set_cons_succ, List.getElem_toArray, List.getElem_cons_succ, List.getElem_cons_zero]
        refine wpAnyH_take (i := 10) (oi := _) (v := ?_) rfl (by kernel_rfl) (by kernel_rfl) (by kernel_rfl) (fun _ _ _ h => h) (Or.inl ⟨by rfl, fun wz hSz => ?_⟩) (by assumption) ?_
        rotate_left
        · (first | (go_simp; done) | (go_simp; with_reducible rfl))
        try simp only [Act.put, List.setIfInBounds_toArray, List.set_cons_zero, List.set_cons_succ, List.getElem_toArray, List.getElem_cons_succ, List.getElem_cons_zero]
        refine wpAnyH_done (by kernel_rfl) ?_ _
        go_wp2_with fail
        refine (unhide HW _ ((unhide HDR).ext (Ext.refl _).drew) ((unhide HP).ext (Ext.refl _).drew)).mono ?_
        rintro e w1 ⟨rfl, hP1, hC1⟩
        have H1 := hide (And.intro hP1 ((Chg.refl (fun k => B ≤ k) w).drew.trans hC1))
        obtain ⟨A, c1, hbp, hown⟩ := hP1.proof
        have hgp := hP1.lt
        have HBO := hide (And.intro hbp hown)
        have HL16 := hide (show ro.length = 16 from by rw [← hro]; exact rootS_length _)
        have HPL := hide (prove_le l.length (l.drop (splitS l.length)) (i - splitS l.length) (by omega))
        have hpl : (ds ++ proveS (l.drop (splitS l.length)) (i - splitS l.length)).length ≤ 100000 := by have := unhide HPL; rw [List.length_append]; omega
        have HQ2 := hide (show ds ++ proveS l i = (ds ++ proveS (l.drop (splitS l.length)) (i - splitS l.length)) ++ [ro] from by rw [unhide HQ, List.append_assoc, hro])
        generalize ds ++ proveS (l.drop (splitS l.length)) (i - splitS l.length) = ds1 at *
        have HF : Hid (∀ W, Chg (fun k => bw + 1 ≤ k) w1 W → W.cell? ⟨bp, 0, none⟩ = some (.slice A ds1.length c1)) := hide (fun W hW => by rw [(hbp.chg hW (by omega)).cell]; rfl)
        clear hbp hown hP1 hC1
        go_upto_region 8 with fail
        refine wp_region_key 5 (Chg (fun k => bw + 1 ≤ k) w1) (by kernel_rfl) ((Chg.refl _ _).drew) (fun hHeld => ?_)
        refine wpAnyK_take (i := 0) (oi := _) (v := ?_) rfl (by kernel_rfl) (by kernel_rfl) (by kernel_rfl) (by kernel_rfl) (by kernel_rfl) (fun _ _ _ h => h) (Or.inl ⟨by rfl, fun wz hSz => ?_⟩) (by assumption) ?_
        rotate_left
        · (first | (go_simp; done) | (go_simp; with_reducible rfl) | (obtain f1 := (unhide HF) wz hSz; clear hSz; first | (go_simp; done) | (go_simp; with_reducible rfl)))
        try simp only [Act.put, List.setIfInBounds_toArray, List.set_cons_zero, List.set_cons_succ, List.getElem_toArray, List.getElem_cons_zero]
        refine wpAnyK_take (i := 1) (oi := _) (v := ?_) rfl (by kernel_rfl) (by kernel_rfl) (by kernel_rfl) (by kernel_rfl) (by kernel_rfl) (fun _ _ _ h => h) (Or.inl ⟨by rfl, fun wz hSz => ?_⟩) (by assumption) ?_
        rotate_left
        · (first | (go_simp; done) | (go_simp; with_reducible rfl) | (obtain f1 := (unhide HF) wz hSz; clear hSz; first | (go_simp; done) | (go_simp; with_reducible rfl)))
        try simp only [Act.put, List.setIfInBounds_toArray, List.set_cons_zero, List.set_cons_succ, List.getElem_toArray, List.getElem_cons_succ, List.getElem_cons_zero]
        refine wpAnyK_ready (rs := [2]) (by kernel_rfl) (by simp) (AllReadyK.cons (o := _) rfl (fun K hK => ?_) AllReadyK.nil)
        try go_simp
        (refine (unhide HRt _ ((unhide H1).2.drew)).mono ?_; rintro e w3 ⟨rfl, hE3⟩; rw [hro]; have hS : Chg (fun k => bw + 1 ≤ k) w1 w3 := hHeld.ext hE3; have H3 := hide ((Ext.refl w1).drew.trans hE3); clear hHeld hE3)
        refine hK.out _ _ ?_ (fun hHeld => ?_)
        · exact hS
        clear hK K
        try simp only [Act.put, List.setIfInBounds_toArray, List.set_cons_zero, List.set_cons_succ, List.getElem_toArray, List.getElem_cons_succ, List.getElem_cons_zero]
        refine wpAnyK_ready (rs := [3]) (by kernel_rfl) (by simp) (AllReadyK.cons (o := _) rfl (fun K hK => ?_) AllReadyK.nil)
        (rw [if_pos (by rfl)]; refine wp_build1 (t := 30) (x := .tmp 45) digs_row (by omega) rfl rfl (by simpa using unhide HL16) ?_; have hS := hHeld.alloc (.cells (ro.map u8v).toArray 23); clear hHeld)
        refine hK.out _ _ ?_ (fun hHeld => ?_)
        · exact hS
        clear hK K
        try simp only [Act.put, List.setIfInBounds_toArray, List.set_cons_zero, List.set_cons_succ, List.getElem_toArray, List.getElem_cons_succ, List.getElem_cons_zero]
        refine wpAnyK_ready (rs := [4]) (by kernel_rfl) (by simp) (AllReadyK.cons (o := _) rfl (fun K hK => ?_) AllReadyK.nil)
        (refine step_app rfl rfl digs_row rfl (ownsRow_ext (unhide HBO).2 ((unhide H3).alloc _)) rfl (Reads.newD _ _ _ (unhide HL16) rfl) (AllOne.u8 ro) (by omega) (by have := (unhide HBO).1.lt; have := (unhide H1).1.walk.lt; have := (unhide H3).size'; simp; omega) ?_; intro A' c' w4 ho hc4 hv; have hS : Chg (fun k => bw + 1 ≤ k) w1 w4 := hHeld.trans (hc4.mono fun k _ hk => ((unhide HBO).2.lt k hk).1); have H4 := hide ((unhide H1).1.step (unhide HL16) ((unhide H3).alloc _) (unhide HBO).1 (unhide HBO).2 hc4 ho); have cb := unhide HF w4 hS; have fb := ((unhide HBO).1.chg hS (by omega)).frozen 0; have H34 := hide ((unhide H1).2.trans (((unhide H3).alloc (.cells (ro.map u8v).toArray 23)).chg)); clear ho hc4 hv hHeld)
        refine hK.out _ _ ?_ (fun hHeld => ?_)
        · exact hS
        clear hK K
        try simp only [Act.put, List.setIfInBounds_toArray, List.set_cons_zero, List.set_cons_succ, List.getElem_toArray, List.getElem_cons_succ, List.getElem_cons_zero]
        refine wpAnyK_ready (rs := [5]) (by kernel_rfl) (by simp) (AllReadyK.key (o := _) (by kernel_rfl) rfl (fun K hK => ?_))
        go_simp
        refine hK.out _ _ trivial (fun _ => ?_)
        clear hK K
        try simp only [Act.put, List.setIfInBounds_toArray, List.set_cons_zero, List.set_cons_succ, List.getElem_toArray, List.getElem_cons_succ, List.getElem_cons_zero]
        refine wpAnyK_done (by kernel_rfl) ?_ _
        go_wp2
        first | (refine bodyPost_ret (results_none rfl _ _ _) rfl ?_) | go_end0
        exact ⟨rfl, by rw [unhide HQ2]; exact (unhide H4).1, (unhide H34).trans (unhide H4).2⟩
set_option maxRecDepth 100000 in
set_option maxHeartbeats 4000000 in
theorem prove_yes (l : List (List UInt8)) (i : Nat) (v : Value) (w : World) (hM : ShaMem w) (hl : l.length ≤ 1000) (hD : Digs w v l) (h : i < l.length) :
    Calls Tryz.prog 132 #[v, .int .i64 (i : Int)] w fun e w' => ∃ A c, e = .returned (.tuple #[.slice A (proveS l i).length c, .int .i64 0]) ∧ GD w w.heap.size (.slice A (proveS l i).length c) (proveS l i).length (proveS l i) w' := by
  have hsl := hM.lt
  have hol := hD.own_lt (by omega)
  obtain ⟨A, c, rfl, _, _⟩ := hD.form
  have hmf := mkfun
  have hcall := call_enters Tryz.func164 (by kernel_rfl) rfl
  have HW := hide (fun W (hE : Ext w W) (hP : PI w.heap.size (w.heap.size + 1) w.heap.size [] W) => walk_any w.heap.size (w.heap.size + 1) w.heap.size l.length l [] i _ W (Nat.le_refl _) h (by simp; omega) (hD.ext hE) hol hP)
  obtain ⟨p, hp⟩ : ∃ p, proveS l i = p := ⟨_, rfl⟩
  rw [hp] at HW ⊢
  have HP0 := hide (fun W (hE : Ext w W) (h1 : Blk W (w.heap.size + 1) 215 #[.func (.func 164) #[] #[.pointer (some ⟨w.heap.size + 1, 0, none⟩), .pointer (some ⟨w.heap.size, 0, none⟩)]]) (h2 : Blk W w.heap.size 30 #[.slice none 0 0]) =>
    show PI w.heap.size (w.heap.size + 1) w.heap.size [] W from ⟨hM.ext hE, ⟨hsl.1, hsl.2⟩, ⟨Nat.le_refl _, by omega⟩, h1, ⟨none, 0, h2, World.ownsRow_nil _ _ _ _⟩, D16.nil⟩)
  have hi1 : ¬ (i : Int) < 0 := by omega
  have hi2 : ¬ (l.length : Int) ≤ (i : Int) := by omega
  have hi3 : (i : Int) < (l.length : Int) := by omega
  clear hM hD hol hsl hp
  go_enter Tryz.func132, Tryz.ntmps132
  go_wp2_with fail
  refine (unhide HW _ ?hE (unhide HP0 _ ?hE2 ?h1 ?h2)).mono ?_
  case hE => exact ((Ext.refl w).alloc _).alloc _
  case hE2 => exact ((Ext.refl w).alloc _).alloc _
  case h1 => exact Blk.new' (w.alloc (.cells #[.slice none 0 0] 30)) _ _ (by simp)
  case h2 => exact (Blk.new w _ _).alloc _
  rintro e w1 ⟨rfl, hP1, hC1⟩
  rw [List.nil_append] at hP1
  obtain ⟨A1, c1, hbp, hown⟩ := hP1.proof
  have H1 := hide (And.intro hP1.all (And.intro hown hC1))
  have cb : w1.cell? ⟨w.heap.size, 0, none⟩ = some (.slice A1 p.length c1) := by rw [hbp.cell]; rfl
  have hsz := hbp.lt
  clear hP1 hbp hown hC1 hmf hcall
  go_wp2
  go_ret2
  refine ⟨A1, c1, rfl, ownsRow_base (unhide H1).2.1 (by omega), (unhide H1).1, ?_, Nat.le_refl _, by omega⟩
  exact (((Ext.refl w).alloc _).alloc _).trans' (unhide H1).2.2 (fun _ _ h => h) (fun k hk e => by omega)
end Go.Proofs.YtplkplegjoabgaaGreatDoor


namespace Go.Proofs.YtplkplegjoabgaaGreatDoor
open Go.RowKit
set_option maxRecDepth 100000 in
set_option maxHeartbeats 4000000 in
theorem sign_any (seed : List UInt8) (index : Int) (m : List UInt8) (w : World) (hM : ShaMem w) (hv : seed.length = 16) (hm : m.length = 16) (h1 : -9223372036854775808 ≤ index) (h2 : index < 9223372036854775808) :
    Calls Tryz.prog 133 #[.agg (seed.map u8v).toArray, .int .i64 index, .agg (m.map u8v).toArray] w fun e w' => ∃ A c, e = .returned (.slice A 68 c) ∧ GD w w.heap.size (.slice A 68 c) 68 (signS seed index m 68) w' := by
  have HDg := hide (fun (W : World) => digits_any m W hm)
  have HS := hide (fun k (hk : k < 68) (W : World) (hE : Ext w W) => start_any k seed index W (hM.ext hE) hv (by omega) h1 h2)
  have HA := hide (fun k (hk : k < 68) (W : World) (hE : Ext w W) => adv_any k (digC m k) (startS seed index k) W (hM.ext hE) (startS_length _ _ _) (by omega) (by have := digC_le m k; omega))
  have HL := hide (signAt_length seed index m)
  have HT := hide (signS_step seed index m)
  have HG := hide (fun k (hk : k < 68) => icells_get (digC m) hk)
  have HQ := hide (fun k => show advS k (startS seed index k) (digC m k) = signAt seed index m k from rfl)
  obtain ⟨arr, harr⟩ : ∃ r, (seed.map u8v).toArray = r := ⟨_, rfl⟩
  obtain ⟨marr, hmarr⟩ : ∃ r, (m.map u8v).toArray = r := ⟨_, rfl⟩
  rw [harr] at HS ⊢
  rw [hmarr] at HDg ⊢
  have HSZ := hide (show arr.size = 16 ∧ marr.size = 16 from by rw [← harr, ← hmarr]; simp; omega)
  clear hM harr hmarr hv hm
  go_enter Tryz.func133, Tryz.ntmps133
  go_wp2_with (refine wpList_loadB (ty := 23) (t := 23) (x := .tmp 5) rfl rfl digest_wide rfl (Blk.new' _ _ _ (by simp)) (unhide HSZ).2 ?_)
  refine (unhide HDg _).mono ?_
  rintro e w1 ⟨g, rfl, hb1, hg, hE1⟩
  have H1 := hide (And.intro hb1 (And.intro ((((Ext.refl w).alloc _).alloc _).trans hE1) (((Blk.new w 23 arr).alloc _).ext hE1)))
  clear hb1 hE1 hg
  go_wp2_with fail
  go_loopw [7, 13] (fun b i wr => ∃ (k : Nat) (A : Option Addr) (c : Nat), k ≤ 68 ∧ i = .int .i64 k ∧ b = .slice A k c ∧ Hid (GD w w1.heap.size (.slice A k c) k (signS seed index m k) wr ∧ Blk wr w.heap.size 23 arr ∧ Blk wr g 230 (icells (digC m) 68).toArray)) (fun _ i _ => 68 - (intOf i).toNat)
  case atStart => exact ⟨0, none, 0, by omega, rfl, rfl, hide ⟨GD.nil (unhide H1).2.1 (unhide H1).2.1.size' (Nat.le_refl _), (unhide H1).2.2, (unhide H1).1⟩⟩
  case round =>
    obtain ⟨k, A, c, hk, rfl, rfl, HI⟩ := hrel
    by_cases hlt : k < 68
    · have cg : wr.cell? ⟨g, k, none⟩ = some (.int .i64 ((digC m k : Nat) : Int)) := by rw [(unhide HI).2.2.cell, List.getElem?_toArray]; exact unhide HG k hlt
      have HSk := hide (unhide HS k hlt)
      have HAk := hide (unhide HA k hlt)
      have HLk := hide (unhide HL k)
      have HTk := hide (unhide HT k)
      rw [unhide HQ k] at HAk
      generalize digC m k = dk at *
      generalize hst : ((startS seed index k).map u8v).toArray = st at *
      generalize signAt seed index m k = d at *
      have hkI : (k : Int) < 68 := by omega
      go_wp2_with (refine wpList_loadB (ty := 23) (t := 23) (x := .tmp 3) rfl rfl digest_wide rfl (unhide HI).2.1 (unhide HSZ).1 ?_)
      refine (unhide HSk _ (unhide HI).1.ext).mono ?_
      rintro e w2 ⟨rfl, hE2⟩
      have H2 := hide hE2
      clear hE2
      go_wp2_with fail
      refine (unhide HAk _ ((unhide HI).1.ext.trans (unhide H2))).mono ?_
      rintro e w3 ⟨rfl, hE3⟩
      have H3 := hide ((unhide H2).trans hE3)
      clear hE3
      go_wp2_with (first | (refine wpList_build1 (t := 30) (x := .tmp 25) rfl digs_row (by omega) rfl rfl (by simpa using unhide HLk) ?_) | at_builtin; refine wpList_app rfl rfl digs_row rfl ((unhide HI).1.to ((unhide H3).alloc _)).own rfl (Reads.newD _ _ _ (unhide HLk) rfl) (AllOne.u8 d) (by omega) ((unhide HI).1.to ((unhide H3).alloc _)).room ?_; intro A' c' w4 ho hc4 hv; have H4 := hide (And.intro ho hc4); clear ho hc4 hv)
      go_roundw
      case rel =>
        refine ⟨k + 1, A', c', by omega, by go_num, rfl, hide ⟨by rw [unhide HTk]; exact (unhide HI).1.step (unhide HLk) ((unhide H3).alloc _) (unhide H4).2 (unhide H4).1, ?_, ?_⟩⟩
        · exact ((unhide HI).2.1.ext ((unhide H3).alloc _)).chg (unhide H4).2 (fun e => by have h5 := ((unhide HI).1.own.lt _ e).1; have h6 := (unhide H1).2.2.lt; omega)
        · exact ((unhide HI).2.2.ext ((unhide H3).alloc _)).chg (unhide H4).2 (fun e => by have h5 := ((unhide HI).1.own.lt _ e).1; have h6 := (unhide H1).1.lt; omega)
      case measure => simp [intOf]; omega
    · obtain rfl : k = 68 := by omega
      go_wp2
      go_ret
      exact ⟨A, c, rfl, ⟨ownsRow_base (unhide HI).1.own (unhide H1).2.1.size', (unhide HI).1.all, (unhide HI).1.ext, Nat.le_refl _, (unhide HI).1.ext.size'⟩⟩
end Go.Proofs.YtplkplegjoabgaaGreatDoor


namespace Go.Proofs.YtplkplegjoabgaaGreatDoor
open Go.RowKit
set_option maxRecDepth 100000 in
set_option maxHeartbeats 4000000 in
theorem tsign_arg (seed msg : List UInt8) (h index : Int) (w : World) (hh : ¬ okH h ∨ index < 0) :
    Calls Tryz.prog 107 #[.agg (seed.map u8v).toArray, .int .i64 h, .int .i64 index, .agg (msg.map u8v).toArray] w fun e w' => e = .returned (.tuple #[.agg #[.int .i64 0, .slice none 0 0, .slice none 0 0], .int .i64 1]) ∧ Ext w w' := by
  obtain ⟨arr, harr⟩ : ∃ x, (seed.map u8v).toArray = x := ⟨_, rfl⟩
  obtain ⟨mrr, hmrr⟩ : ∃ x, (msg.map u8v).toArray = x := ⟨_, rfl⟩
  rw [harr, hmrr]
  clear harr hmrr
  by_cases ho : okH h
  · have hi : index < 0 := by rcases hh with h | h; exact absurd ho h; exact h
    have HV := hide (fun W => valid_ok h ho W)
    clear hh ho
    go_enter Tryz.func107, Tryz.ntmps107
    go_wp2_with (go_at_call 88; refine (unhide HV _).mono ?_; rintro e wz ⟨rfl, rfl⟩)
    refine bodyPost_ret (v := .tuple #[.agg #[.int .i64 0, .slice none 0 0, .slice none 0 0], .int .i64 1]) (results_two sig_wide rfl (Blk.new' _ _ _ (by simp)) rfl rfl rfl) rfl ⟨rfl, ?_⟩
    exact (((Ext.refl w).alloc _).alloc _).alloc _
  · have HV := hide (fun W => valid_no h W ho)
    clear hh ho
    go_enter Tryz.func107, Tryz.ntmps107
    go_wp2_with (go_at_call 88; refine (unhide HV _).mono ?_; rintro e wz ⟨rfl, rfl⟩)
    refine bodyPost_ret (v := .tuple #[.agg #[.int .i64 0, .slice none 0 0, .slice none 0 0], .int .i64 1]) (results_two sig_wide rfl (Blk.new' _ _ _ (by simp)) rfl rfl rfl) rfl ⟨rfl, ?_⟩
    exact (((Ext.refl w).alloc _).alloc _).alloc _
set_option maxRecDepth 100000 in
set_option maxHeartbeats 4000000 in
theorem tsign_out (seed msg : List UInt8) (h n : Nat) (hn : n = 2 ^ h) (hh : h ≤ 4) (index : Int) (w : World) (h0 : (n : Int) ≤ index) :
    Calls Tryz.prog 107 #[.agg (seed.map u8v).toArray, .int .i64 (h : Int), .int .i64 index, .agg (msg.map u8v).toArray] w fun e w' => e = .returned (.tuple #[.agg #[.int .i64 0, .slice none 0 0, .slice none 0 0], .int .i64 17]) ∧ Ext w w' := by
  have HV := hide (fun W => (fun W => valid_yes (h : Int) W (okH_nat h hh)) W)
  have hsh : wrap64 ((2 : Int) ^ h) = (n : Int) := by rw [shl_one h hh, hn]
  have hn1 : 1 ≤ n := by subst hn; exact Nat.one_le_two_pow
  have hnI : ¬ (n : Int) = 0 := by omega
  have hnB : ((n : Int) == 0) = false := beq_eq_false_iff_ne.2 (by omega)
  have hi0 : ¬ index < 0 := by omega
  obtain ⟨arr, harr⟩ : ∃ x, (seed.map u8v).toArray = x := ⟨_, rfl⟩
  obtain ⟨mrr, hmrr⟩ : ∃ x, (msg.map u8v).toArray = x := ⟨_, rfl⟩
  rw [harr, hmrr]
  clear harr hmrr hn
  go_enter Tryz.func107, Tryz.ntmps107
  go_wp2_with (go_at_call 88; refine (unhide HV _).mono ?_; rintro e wz ⟨rfl, rfl⟩)
  refine bodyPost_ret (v := .tuple #[.agg #[.int .i64 0, .slice none 0 0, .slice none 0 0], .int .i64 17]) (results_two sig_wide rfl (Blk.new' _ _ _ (by simp)) rfl rfl rfl) rfl ⟨rfl, ?_⟩
  exact (((Ext.refl w).alloc _).alloc _).alloc _
set_option maxRecDepth 100000 in
set_option maxHeartbeats 4000000 in
theorem tsign_yes (seed msg : List UInt8) (h n : Nat) (hn : n = 2 ^ h) (hh : h ≤ 4) (i : Nat) (hi : i < n) (w : World) (hv : seed.length = 16) (hm : msg.length = 16) (hM : ShaMem w) :
    Calls Tryz.prog 107 #[.agg (seed.map u8v).toArray, .int .i64 (h : Int), .int .i64 (i : Int), .agg (msg.map u8v).toArray] w (SignPost w (i : Int) (signS seed (i : Int) msg 68) (proveS (leavesS seed n) i)) := by
  have hn16 : n ≤ 16 := by subst hn; exact pow_le16 h h (Nat.le_refl _) hh
  have hsh : wrap64 ((2 : Int) ^ h) = (n : Int) := by rw [shl_one h hh, hn]
  have HV := hide (fun W => (fun W => valid_yes (h : Int) W (okH_nat h hh)) W)
  have HK := hide (fun W (hE : Ext w W) => leaves_any seed h n hn hh W hv (hM.ext hE))
  have HP := hide (fun (A : Option Addr) (c : Nat) W (hE : Ext w W) (hD : Digs W (.slice A n c) (leavesS seed n)) => prove_yes (leavesS seed n) i (.slice A n c) W (hM.ext hE) (by rw [leavesS_length]; omega) hD (by rw [leavesS_length]; omega))
  have HS := hide (fun W (hE : Ext w W) => sign_any seed (i : Int) msg W (hM.ext hE) hv hm (by omega) (by omega))
  have hnI : ¬ (n : Int) = 0 := by omega
  have hnB : ((n : Int) == 0) = false := beq_eq_false_iff_ne.2 (by omega)
  have hi0 : ¬ (i : Int) < 0 := by omega
  have hi1 : ¬ (n : Int) ≤ (i : Int) := by omega
  have hi2 : (i : Int) < (n : Int) := by omega
  obtain ⟨chain, hchain⟩ : ∃ x, signS seed (i : Int) msg 68 = x := ⟨_, rfl⟩
  obtain ⟨path, hpath⟩ : ∃ x, proveS (leavesS seed n) i = x := ⟨_, rfl⟩
  rw [hchain] at HS ⊢
  rw [hpath] at HP ⊢
  obtain ⟨arr, harr⟩ : ∃ x, (seed.map u8v).toArray = x := ⟨_, rfl⟩
  obtain ⟨mrr, hmrr⟩ : ∃ x, (msg.map u8v).toArray = x := ⟨_, rfl⟩
  have HSZ := hide (show arr.size = 16 ∧ mrr.size = 16 from by rw [← harr, ← hmrr]; exact ⟨by simpa using hv, by simpa using hm⟩)
  rw [harr] at HK HS ⊢
  rw [hmrr] at HS ⊢
  have HZ := hide (show Ext w (((w.alloc (.cells arr 23)).alloc (.cells mrr 23)).alloc (.cells #[.int .i64 0, .slice none 0 0, .slice none 0 0] 32)) ∧ Blk (((w.alloc (.cells arr 23)).alloc (.cells mrr 23)).alloc (.cells #[.int .i64 0, .slice none 0 0, .slice none 0 0] 32)) w.heap.size 23 arr ∧
    Blk (((w.alloc (.cells arr 23)).alloc (.cells mrr 23)).alloc (.cells #[.int .i64 0, .slice none 0 0, .slice none 0 0] 32)) (w.heap.size + 1) 23 mrr ∧ Blk (((w.alloc (.cells arr 23)).alloc (.cells mrr 23)).alloc (.cells #[.int .i64 0, .slice none 0 0, .slice none 0 0] 32)) (w.heap.size + 1 + 1) 32 #[.int .i64 0, .slice none 0 0, .slice none 0 0]
    from ⟨(((Ext.refl w).alloc _).alloc _).alloc _, ((Blk.new w _ _).alloc _).alloc _, (Blk.new' _ _ _ (by simp)).alloc _, Blk.new' _ _ _ (by simp)⟩)
  clear hn hv hm harr hmrr hchain hpath hi hM
  go_enter Tryz.func107, Tryz.ntmps107
  go_upto_region 6 with (go_at_call 88; refine (unhide HV _).mono ?_; rintro e wz ⟨rfl, rfl⟩)
  generalize hW0 : (((w.alloc (.cells arr 23)).alloc (.cells mrr 23)).alloc (.cells #[.int .i64 0, .slice none 0 0, .slice none 0 0] 32)) = W0 at *
  clear hW0 hsh
  go_wp2_with (first
    | (refine wpList_loadB (ty := 23) (t := 23) (x := .tmp 4) rfl rfl digest_wide rfl (cs := arr) (unhide HZ).2.1 (unhide HSZ).1 ?_)
    | (go_at_call 90; refine (unhide HK _ (unhide HZ).1).mono ?_; rintro e w1 ⟨A1, c1, rfl, hG⟩; have H1 := hide (And.intro hG.digs hG.ext); clear hG)
    | (go_at_call 132; refine (unhide HP A1 c1 _ ((unhide HZ).1.trans (unhide H1).2) (unhide H1).1).mono ?_; rintro e w2 ⟨A2, c2, rfl, hG⟩; have HO2 := hide (fun k (hk : (Value.slice A2 path.length c2).ownBlock = some k) => show w.heap.size + 1 + 1 < k from by have := (hG.own.lt k hk).1; have := (unhide HZ).2.2.2.lt; have := (unhide H1).2.size'; omega); have H2 := hide (And.intro hG.digs ((unhide H1).2.trans hG.ext)); clear hG)
    | (refine wpList_loadB (ty := 23) (t := 23) (x := .tmp 4) rfl rfl digest_wide rfl (cs := arr) ((unhide HZ).2.1.ext (unhide H2).2) (unhide HSZ).1 ?_)
    | (refine wpList_loadB (ty := 23) (t := 23) (x := .tmp 7) rfl rfl digest_wide rfl (cs := mrr) ((unhide HZ).2.2.1.ext (unhide H2).2) (unhide HSZ).2 ?_)
    | (go_at_call 133; refine (unhide HS _ ((unhide HZ).1.trans (unhide H2).2)).mono ?_; rintro e w3 ⟨A3, c3, rfl, hG⟩; have HO3 := hide (fun k (hk : (Value.slice A3 68 c3).ownBlock = some k) => show w.heap.size + 1 + 1 < k from by have := (hG.own.lt k hk).1; have := (unhide HZ).2.2.2.lt; have := (unhide H2).2.size'; omega); have H3 := hide (And.intro hG.digs (And.intro ((unhide H2).1.ext hG.ext) ((unhide H2).2.trans hG.ext))); obtain ⟨q0, q1, q2, qf, ql⟩ := ((unhide HZ).2.2.2.ext (unhide H3).2.2).cells3; clear hG))
  refine bodyPost_ret (v := .tuple #[.agg #[.int .i64 (i : Int), .slice A3 68 c3, .slice A2 path.length c2], .int .i64 0]) (results_two sig_wide rfl ((((unhide HZ).2.2.2.ext (unhide H3).2.2).set_ 0 _).set_ 1 _ |>.set_ 2 _) rfl rfl rfl) rfl ?_
  have hc : Chg (fun k => k = w.heap.size + 1 + 1) w3 (((w3.setCell ⟨w.heap.size + 1 + 1, 0, none⟩ (.int .i64 (i : Int))).setCell ⟨w.heap.size + 1 + 1, 1, none⟩ (.slice A3 68 c3)).setCell ⟨w.heap.size + 1 + 1, 2, none⟩ (.slice A2 path.length c2)) := (((Chg.refl (fun k => k = w.heap.size + 1 + 1) w3).setCell (p := ⟨w.heap.size + 1 + 1, 0, none⟩) (.inl rfl) _).setCell (p := ⟨w.heap.size + 1 + 1, 1, none⟩) (.inl rfl) _).setCell (p := ⟨w.heap.size + 1 + 1, 2, none⟩) (.inl rfl) _
  refine ⟨_, rfl, ⟨_, _, rfl, ?_, ?_⟩, ((unhide HZ).1.trans (unhide H3).2.2).trans' hc (fun _ _ h => h) (fun i hi e => by omega), ⟨_, _, _, rfl, fun k hk => by have := unhide HO3 k hk; omega, fun k hk => by have := unhide HO2 k hk; omega⟩⟩
  · exact (unhide H3).1.chg hc (fun k hk e => by have := unhide HO3 k hk; omega)
  · exact (unhide H3).2.1.chg hc (fun k hk e => by have := unhide HO2 k hk; omega)
end Go.Proofs.YtplkplegjoabgaaGreatDoor


namespace Go.Proofs.YtplkplegjoabgaaGreatDoor.Pv
open Go.RowKit
set_option maxRecDepth 100000 in
theorem tsign_spec : SpecOk Tryz.prog ShaMem 107 (funSpec true signG) := by
  refine funSpec_ok (call_enters Tryz.func107 (by kernel_rfl) rfl) (fun xs p r hg hp w ok0 vs hI hv => ?_)
  unfold signG at hg
  split at hg
  · rename_i sd h i m
    cases hg
    match vs, hv with
    | [v1, v2, v3, v4], ⟨k1, k2, k3, k4, _⟩ =>
      obtain ⟨l1, rfl⟩ := rv_dig16 k1
      obtain rfl := k2.lit_inv
      obtain rfl := k3.lit_inv
      obtain ⟨l4, rfl⟩ := rv_dig16 k4
      by_cases ho : okH h
      · obtain ⟨k, rfl, hk⟩ := okH_cases h ho
        by_cases hi : i < 0
        · have e : sgnT sd (k : Int) i m = (⟨0, [], []⟩, 1) := by
            unfold sgnT
            rw [if_pos (.inr hi)]
          rw [e]
          refine (tsign_arg sd m _ i w (.inr hi)).mono ?_
          rintro e w' ⟨rfl, hE⟩
          exact ⟨_, rfl, hE, rv_pair sigPC_nil⟩
        · obtain ⟨j, rfl⟩ : ∃ j : Nat, i = (j : Int) := ⟨i.toNat, by omega⟩
          by_cases hj : j < 2 ^ k
          · have e : sgnT sd (k : Int) (j : Int) m = (⟨(j : Int), signS sd (j : Int) m 68, proveS (leavesS sd (2 ^ k)) j⟩, 0) := by
              unfold sgnT
              rw [if_neg (by omega)]
              simp only [Int.toNat_natCast]
              rw [if_pos hj]
            rw [e]
            refine (tsign_yes sd m k _ rfl hk j hj w l1 l4 hI).mono ?_
            rintro e w' ⟨v, rfl, ⟨cv, pv, rfl, d1, d2⟩, hE, ⟨i', cv', pv', q, n1, n2⟩⟩
            cases q
            exact ⟨_, rfl, hE, rv_pair (sigPC_rl d1 d2 (fun b hb => .inr (n1 b hb)) (fun b hb => .inr (n2 b hb)))⟩
          · have e : sgnT sd (k : Int) (j : Int) m = (⟨0, [], []⟩, 17) := by
              unfold sgnT
              rw [if_neg (by omega)]
              simp only [Int.toNat_natCast]
              rw [if_neg hj]
            rw [e]
            refine (tsign_out sd m k _ rfl hk j w (by omega)).mono ?_
            rintro e w' ⟨rfl, hE⟩
            exact ⟨_, rfl, hE, rv_pair sigPC_nil⟩
      · have e : sgnT sd h i m = (⟨0, [], []⟩, 1) := by
          unfold sgnT
          rw [if_pos (.inl ho)]
        rw [e]
        refine (tsign_arg sd m h i w (.inl ho)).mono ?_
        rintro e w' ⟨rfl, hE⟩
        exact ⟨_, rfl, hE, rv_pair sigPC_nil⟩
  · cases hg
end Go.Proofs.YtplkplegjoabgaaGreatDoor.Pv


namespace Go.Proofs.YtplkplegjoabgaaGreatDoor
open Go.RowKit
def Prg.sign (h : Nat) : Prg (Nat × Int) := (Prg.levelOf 2 16).bind fun n => if 2 ^ h ≤ n then .ret (n, 17) else (Prg.raiseTo 2 16 (n + 1)).bind fun p => .ret (n, p.2)
def Prg.signI (h : Int) : Prg (Nat × Int) := if 0 ≤ h ∧ h ≤ 4 then Prg.sign h.toNat else .ret (0, 1)
end Go.Proofs.YtplkplegjoabgaaGreatDoor
namespace Go.Proofs.YtplkplegjoabgaaGreatDoor.Pv
open Go.RowKit
def sgO (seed : List UInt8) (h : Int) (m : List UInt8) (p : Nat × Int) : Sig × Int := if p.2 = 0 then sgnT seed h p.1 m else (⟨0, [], []⟩, p.2)
def sgPair (x : Sig × Int) : PV := .tup [.agg (sigPC x.1), .one (.lit (.int .i64 x.2))]
def sgOut (x : Sig × Int) : PV := .w (.agg (sigPC x.1 ++ [.lit (.int .i64 x.2)]))
def sgL : List (Nat × Spec) := (106, prgSpec decRa) :: (107, funSpec true signG) :: raL
theorem sg_ok : ∀ p ∈ sgL, SpecOk Tryz.prog ShaMem p.1 p.2 := by
  intro p hp
  simp only [sgL, List.mem_cons] at hp
  rcases hp with rfl | rfl | hp
  · exact raiseTo_spec sha_ext
  · exact tsign_spec
  · exact ra_ok sha_ext p hp
theorem sgM : Mach Tryz.prog ShaMem (find sgL) := ⟨specs_of sg_ok, mixed_⟩
theorem raiseFrom_err (b : Int) : ∀ f n, Prg.All (fun p => p.2 = 0 ∨ p.2 = 12) (Prg.raiseFrom b f n)
  | 0, n => .inl rfl
  | f + 1, n => (Prg.All.triv (Prg.pulses b n)).bind fun _ _ => (Prg.All.triv (Prg.read b n)).bind fun x _ => by
    cases x with
    | true => exact raiseFrom_err b f (n + 1)
    | false => exact .inr rfl
theorem raiseTo_err (b : Int) (m t : Nat) : Prg.All (fun p => p.2 = 0 ∨ p.2 = 12) (Prg.raiseTo b m t) := (Prg.All.triv (Prg.levelOf b m)).bind fun _ _ => raiseFrom_err b _ _
theorem shl16 {h : Nat} (hh : h ≤ 4) : IntKind.i64.wrap (1 * 2 ^ (min ((h : Int).toNat) IntKind.i64.bits)) = ((2 ^ h : Nat) : Int) := by
  match h, hh with
  | 0, _ => rfl
  | 1, _ => rfl
  | 2, _ => rfl
  | 3, _ => rfl
  | 4, _ => rfl
def sgSt (O : List Acc → Option Res) (stp : List Acc → Prop) (seed m : List UInt8) (h : Nat) (s : List PC) (n : Nat) (e : Int) (lk : List Acc) : St :=
  ⟨[(0, none, .w (.one .dv)), (2, none, pvI h), (5, none, pv1 (.pt 0 0 0)), (7, none, pv1 (.pt 1 0 0)), (8, none, pv1 (.pt 2 0 0)), (9, none, pvI e), (10, none, pvI n)],
  [(dx, none, 0, .dev O stp lk), (0, none, 0, .box 23 [.bs 16 seed]), (1, none, 0, .box 23 [.bs 16 m]), (2, none, 0, .box 32 s)]⟩
def noSig : List PC := [.lit (.int .i64 0), .lit (.slice none 0 0), .lit (.slice none 0 0)]
set_option maxRecDepth 100000 in
set_option maxHeartbeats 1000000 in
theorem signWith_fun (seed m : List UInt8) (h : Nat) (hh : h ≤ 4) : FunP Tryz.prog ShaMem 69 (Prg.sign h) [.w (.one .dv), .w (.agg [.bs 16 seed]), pvI h, .w (.agg [.bs 16 m])] (fun p => sgPair (sgO seed h m p)) := by
  intro O l
  have M := sgM
  refine funX_of Tryz.func69 rfl rfl rfl (fun A hn hI => ?_)
  generalize hstp : (fun g => l <+: g ∧ g <+: (go O (Prg.sign h) l).2) = stp
  have hL0 : Left O (Prg.sign h) l ((Prg.levelOf 2 16).bind fun n => if 2 ^ h ≤ n then .ret (n, 17) else (Prg.raiseTo 2 16 (n + 1)).bind fun p => .ret (n, p.2)) l := Left.start _ _ _
  have hn0 : (go O (Prg.levelOf 2 16) l).1 ≤ 16 := go_all O (levelOf_all 2 16) l
  have hL := hL0.step
  have hsh := shl16 hh
  refine tri_reg M hI hn (outs := ?_) (s' := ?_) ?_ ?_ ?_ ?_
  rotate_left 2
  · rfl
  · kernel_rfl
  · simp
  refine tri_scope ?_
  refine tri_seq ?_
  refine tri_label ?_
  change Tri _ _ _ _ _
  refine tri_seq ?_
  refine tri_reg M hI hn (outs := ?_) (s' := ?_) ?_ ?_ ?_ ?_
  rotate_left 2
  · rfl
  · kernel_rfl
  · simp
    refine fun g h1 h2 h3 => ?_
    rw [← hstp]
    exact hL0.stp g h1 h2 h3
  obtain ⟨n0, l0, hq⟩ : ∃ n0 l0, go O (Prg.levelOf 2 16) l = (n0, l0) := ⟨_, _, rfl⟩
  rw [hq] at hn0 hL
  dsimp only at hn0 hL
  refine tri_conv (s' := sgSt O stp seed m h noSig n0 0 l0) (fun a w hg => (hg.reset (kT := [0, 2, 5, 7, 8, 9, 10]) (kO := [900000, 0, 1, 2]) (by rfl) (by simp)).same ?_ ?_) ?_
  · exact .cons rfl (.cons rfl (.cons rfl (.cons rfl (.cons rfl (.cons rfl (.cons (by show pvI ((go O (Prg.levelOf 2 16) l).1 : Int) = _; rw [hq]) .nil))))))
  · exact .cons (.dev (by show (go O (Prg.levelOf 2 16) l).2 = _; rw [hq])) (.cons (.box rfl) (.cons (.box rfl) (.cons (.box rfl) .nil)))
  refine tri_block ?_
  refine tri_reg M hI hn (outs := ?_) (s' := ?_) ?_ ?_ ?_ ?_
  rotate_left 2
  · rfl
  · kernel_rfl
  · simp
  refine tri_cond (b := ?_) ?_ (fun hc => ?_) (fun hc => ?_)
  rotate_left 1
  · rfl
  · have hge : 2 ^ h ≤ n0 := by
      have := of_decide_eq_true hc
      rw [hsh] at this
      omega
    rw [if_pos hge] at hL
    have hE : go O (Prg.sign h) l = ((n0, 17), l0) := hL.2
    refine tri_reg M hI hn (outs := ?_) (s' := ?_) ?_ ?_ ?_ ?_
    rotate_left 2
    · rfl
    · kernel_rfl
    · simp
    refine tri_exit ?_
    change Tri _ _ _ _ _
    refine tri_reg M hI hn (outs := ?_) (s' := ?_) ?_ ?_ ?_ ?_
    rotate_left 2
    · rfl
    · kernel_rfl
    · simp
    refine tri_ret (fun a w hg => ⟨.inr rfl, _, ⟨?_, (fun o ho => by cases ho), fun p hp => ?_⟩, hg⟩)
    rotate_left 1
    · cases hp
      rw [hE]
      rfl
    refine retTo_ex (out := ?_) ?_ ?_ ?_ ?_
    rotate_left 1
    · rfl
    · simp
    · rfl
    · rw [hE]
      exact .tup (.cons (.agg (.cons (.cold rfl) (.cons .nil (.cons .nil .nil)))) (.cons (.one (.cold rfl)) .nil))
  · have hge : ¬ 2 ^ h ≤ n0 := by
      have := of_decide_eq_false hc
      rw [hsh] at this
      omega
    rw [if_neg hge] at hL
    have hL2 := hL.step
    have hw : (IntKind.i64.wrap ((n0 : Int) + 1)).toNat = n0 + 1 := by rw [wrap_nat n0 (by omega)]; exact Int.toNat_natCast _
    have hw2 : IntKind.i64.wrap ((n0 : Int) + 1) = ((n0 + 1 : Nat) : Int) := wrap_nat n0 (by omega)
    refine tri_seq ?_
    refine tri_reg M hI hn (outs := ?_) (s' := ?_) ?_ ?_ ?_ ?_
    rotate_left 2
    · rfl
    · kernel_rfl
    · simp
      rw [hw2]
      refine ⟨by omega, fun g h1 h2 h3 => ?_⟩
      rw [← hstp]
      exact hL.stp g h1 h2 h3
    have he1 : (go O (Prg.raiseTo 2 16 (n0 + 1)) l0).1.2 = 0 ∨ (go O (Prg.raiseTo 2 16 (n0 + 1)) l0).1.2 = 12 := go_all O (raiseTo_err 2 16 (n0 + 1)) l0
    obtain ⟨m1, e1, l1, hq1⟩ : ∃ m1 e1 l1, go O (Prg.raiseTo 2 16 (n0 + 1)) l0 = ((m1, e1), l1) := ⟨_, _, _, rfl⟩
    rw [hq1] at hL2 he1
    dsimp only at hL2 he1
    have hE : go O (Prg.sign h) l = ((n0, e1), l1) := hL2.2
    refine tri_conv (s' := sgSt O stp seed m h noSig n0 e1 l1) (fun a w hg => (hg.reset (kT := [0, 2, 5, 7, 8, 9, 10]) (kO := [900000, 0, 1, 2]) (by rfl) (by simp)).same ?_ ?_) ?_
    · exact .cons rfl (.cons rfl (.cons rfl (.cons rfl (.cons rfl (.cons (by show pvI ((go O (Prg.raiseTo 2 16 (IntKind.i64.wrap ((n0 : Int) + 1)).toNat) l0).1.2) = _; rw [hw, hq1]) (.cons rfl .nil))))))
    · exact .cons (.dev (by show (go O (Prg.raiseTo 2 16 (IntKind.i64.wrap ((n0 : Int) + 1)).toNat) l0).2 = _; rw [hw, hq1])) (.cons (.box rfl) (.cons (.box rfl) (.cons (.box rfl) .nil)))
    refine tri_reg M hI hn (outs := ?_) (s' := ?_) ?_ ?_ ?_ ?_
    rotate_left 2
    · rfl
    · kernel_rfl
    · simp
    refine tri_cond (b := ?_) ?_ (fun hc => ?_) (fun hc => ?_)
    rotate_left 1
    · rfl
    · have hne : ¬ e1 = 0 := by
        have h2 : (e1 != 0) = true := hc
        simpa using h2
      have hO : sgO seed h m (n0, e1) = (⟨0, [], []⟩, e1) := if_neg hne
      refine tri_exit ?_
      change Tri _ _ _ _ _
      refine tri_reg M hI hn (outs := ?_) (s' := ?_) ?_ ?_ ?_ ?_
      rotate_left 2
      · rfl
      · kernel_rfl
      · simp
      refine tri_ret (fun a w hg => ⟨.inr rfl, _, ⟨?_, (fun o ho => by cases ho), fun p hp => ?_⟩, hg⟩)
      rotate_left 1
      · cases hp
        rw [hE]
        rfl
      refine retTo_ex (out := ?_) ?_ ?_ ?_ ?_
      rotate_left 1
      · rfl
      · simp
      · rfl
      · rw [hE]
        show ExV _ _ _ (sgPair (sgO seed h m (n0, e1))); rw [hO]; exact .tup (.cons (.agg (.cons (.cold rfl) (.cons .nil (.cons .nil .nil)))) (.cons (.one (.cold rfl)) .nil))
    · have hz : e1 = 0 := by
        have h2 : (e1 != 0) = false := hc
        simpa using h2
      have hO : sgO seed h m (n0, e1) = sgnT seed h n0 m := if_pos hz
      refine tri_skip ?_
      change Tri _ _ _ _ _
      refine tri_region M hI hn (outs := ?_) (s' := ?_) ?_ ?_ ?_ ?_
      rotate_left 2
      · rfl
      · kernel_rfl
      · simp
      change Tri _ _ _ _ _
      obtain ⟨x, hx⟩ : ∃ x, sgnT seed h n0 m = x := ⟨_, rfl⟩
      rw [hx] at hO
      refine tri_conv (s' := sgSt O stp seed m h (sigPC x.1) n0 x.2 l1) (fun a w hg => (hg.reset (kT := [0, 2, 5, 7, 8, 9, 10]) (kO := [900000, 0, 1, 2]) (by rfl) (by simp)).same ?_ ?_) ?_
      · exact .cons rfl (.cons rfl (.cons rfl (.cons rfl (.cons rfl (.cons (by rw [← hx]) (.cons rfl .nil))))))
      · exact .cons (.dev rfl) (.cons (.box rfl) (.cons (.box rfl) (.cons (.box (by rw [← hx]; rfl)) .nil)))
      refine tri_reg M hI hn (outs := ?_) (s' := ?_) ?_ ?_ ?_ ?_
      rotate_left 2
      · rfl
      · kernel_rfl
      · simp
      refine tri_ret (fun a w hg => ⟨.inr rfl, _, ⟨?_, (fun o ho => by cases ho), fun p hp => ?_⟩, hg⟩)
      rotate_left 1
      · cases hp
        rw [hE]
        rfl
      refine retTo_ex (out := ?_) ?_ ?_ ?_ ?_
      rotate_left 1
      · rfl
      · simp
      · rfl
      · rw [hE]
        show ExV _ _ _ (sgPair (sgO seed h m (n0, e1))); rw [hO]; exact .tup (.cons (.agg (.cons (.cold rfl) (.cons (.cold rfl) (.cons (.cold rfl) .nil)))) (.cons (.one (.cold rfl)) .nil))
def decSg : List PV → Option (Prop × Prg (Nat × Int) × (Nat × Int → PV))
  | [.w (.agg [.bs 16 seed]), .w (.one (.lit (.int .i64 h))), .w (.agg [.bs 16 m])] => some (0 ≤ h ∧ h ≤ 4, Prg.sign h.toNat, fun p => sgPair (sgO seed h m p))
  | _ => none
theorem signWith_spec : SpecOk Tryz.prog ShaMem 69 (prgSpec decSg) :=
  prgSpec_ok (call_enters Tryz.func69 (by kernel_rfl) rfl) (fun ys c p v h hc => by
    unfold decSg at h
    split at h
    · rename_i seed b m
      cases h
      obtain ⟨k, rfl⟩ : ∃ k : Nat, b = (k : Int) := ⟨b.toNat, by omega⟩
      rw [Int.toNat_natCast]
      exact signWith_fun seed m k (by omega)
    · cases h)
end Go.Proofs.YtplkplegjoabgaaGreatDoor.Pv


namespace Go.Proofs.YtplkplegjoabgaaGreatDoor.Pv
open Go.RowKit
def s1L : List (Nat × Spec) := [(69, prgSpec decSg)]
theorem s1M : Mach Tryz.prog ShaMem (find s1L) := ⟨specs_of (fun p hp => by
  simp only [s1L, List.mem_cons, List.not_mem_nil, or_false] at hp
  subst hp
  exact signWith_spec), mixed_⟩
def sgObs (seed m : List UInt8) (h : Int) : List Ob := [⟨900001, 3, [.lit (.int .i64 h)], [.lit (.int .i64 h)]⟩, ⟨900002, 23, [.bs 16 seed], [.bs 16 seed]⟩, ⟨900003, 23, [.bs 16 m], [.bs 16 m]⟩]
set_option maxRecDepth 100000 in
set_option maxHeartbeats 1000000 in
theorem sign1_fun (seed m : List UInt8) (h : Int) (O : List Acc → Option Res) (l : List Acc) : FunX Tryz.prog ShaMem 68 false (sgObs seed m h) O (some (l, (go O (Prg.signI h) l).2)) (fun g => l <+: g ∧ g <+: (go O (Prg.signI h) l).2)
    [.w (.one .dv), pv1 (.pt 900001 0 0), pv1 (.pt 900002 0 0), pv1 (.pt 900003 0 0)] (sgOut (sgO seed h m (go O (Prg.signI h) l).1)) := by
  have M := s1M
  refine funX_of Tryz.func68 rfl rfl rfl (fun A hn hI => ?_)
  generalize hstp : (fun g => l <+: g ∧ g <+: (go O (Prg.signI h) l).2) = stp
  refine tri_reg M hI hn (outs := ?_) (s' := ?_) ?_ ?_ ?_ ?_
  rotate_left 2
  · rfl
  · kernel_rfl
  · simp
  refine tri_seq ?_
  refine tri_reg M hI hn (outs := ?_) (s' := ?_) ?_ ?_ ?_ ?_
  rotate_left 2
  · rfl
  · kernel_rfl
  · simp
  refine tri_cond (b := ?_) ?_ (fun hc => ?_) (fun hc => ?_)
  rotate_left 1
  · rfl
  · have hh : ¬ (0 ≤ h ∧ h ≤ 4) := by
      intro hh
      have hc' : (bif decide (h < 0) then true else decide (h > 4)) = true := hc
      rw [decide_eq_false (by omega), decide_eq_false (by omega)] at hc'
      cases hc'
    have hE : go O (Prg.signI h) l = ((0, 1), l) := by unfold Prg.signI; rw [if_neg hh]; rfl
    refine tri_reg M hI hn (outs := ?_) (s' := ?_) ?_ ?_ ?_ ?_
    rotate_left 2
    · rfl
    · kernel_rfl
    · simp
    refine tri_ret (fun a w hg => ⟨.inr rfl, _, ⟨?_, ?_, fun p hp => ?_⟩, hg⟩)
    rotate_left 1
    · intro o ho
      simp only [sgObs, List.mem_cons, List.not_mem_nil, or_false] at ho
      rcases ho with rfl | rfl | rfl <;> exact ⟨_, rfl, .cons (.cold rfl) .nil⟩
    · cases hp
      rw [hE]; rfl
    refine retTo_ex (out := ?_) ?_ ?_ ?_ ?_
    rotate_left 1
    · rfl
    · simp
    · rfl
    rw [hE]
    exact .w (.agg (.cons (.cold rfl) (.cons .nil (.cons .nil (.cons (.cold rfl) .nil)))))
  · have hh : 0 ≤ h ∧ h ≤ 4 := by
      have hc' : (bif decide (h < 0) then true else decide (h > 4)) = false := hc
      have h1 : ¬ h < 0 := fun hx => by rw [decide_eq_true hx] at hc'; cases hc'
      have h2 : ¬ h > 4 := fun hx => by rw [decide_eq_false h1, decide_eq_true hx] at hc'; cases hc'
      omega
    have hP : Prg.signI h = Prg.sign h.toNat := by unfold Prg.signI; rw [if_pos hh]
    rw [hP] at hstp ⊢
    refine tri_skip ?_
    change Tri _ _ _ _ _
    refine tri_reg M hI hn (outs := ?_) (s' := ?_) ?_ ?_ ?_ ?_
    rotate_left 2
    · rfl
    · kernel_rfl
    · simp
      refine ⟨hh, fun g h1 h2 _ => ?_⟩
      rw [← hstp]
      exact ⟨h1, h2⟩
    refine tri_reg M hI hn (outs := ?_) (s' := ?_) ?_ ?_ ?_ ?_
    rotate_left 2
    · rfl
    · kernel_rfl
    · simp
    refine tri_ret (fun a w hg => ⟨.inr rfl, _, ⟨?_, ?_, fun p hp => ?_⟩, hg⟩)
    rotate_left 1
    · intro o ho
      simp only [sgObs, List.mem_cons, List.not_mem_nil, or_false] at ho
      rcases ho with rfl | rfl | rfl <;> exact ⟨_, rfl, .cons (.cold rfl) .nil⟩
    · cases hp
      rfl
    refine retTo_ex (out := ?_) ?_ ?_ ?_ ?_
    rotate_left 1
    · rfl
    · simp
    · rfl
    exact .w (.agg (.cons (.cold rfl) (.cons (.cold rfl) (.cons (.cold rfl) (.cons (.cold rfl) .nil)))))
end Go.Proofs.YtplkplegjoabgaaGreatDoor.Pv


namespace Go.Proofs.YtplkplegjoabgaaGreatDoor
open Go.RowKit
structure RunInv (A L : Nat) (lv : Value) (log : List Res) (i : Nat) (X : Nat → Prop) (w : World) : Prop where
  at_ : w.heap[A]? = some (.cells #[.int .i64 (i : Int)] 3 (0, 0))
  logv : w.heap[L]? = some (.cells #[lv] 24 (0, 0))
  reads : Reads w 2 lv log.length (logCells log)
  ne : A ≠ L
  own : 0 < log.length → lv.ownBlock ≠ some A
  le : i ≤ log.length
  mine : ∀ k, X k → k < w.heap.size ∧ k ≠ A ∧ k ≠ L ∧ (0 < log.length → lv.ownBlock ≠ some k)
def pending (a : Acc) : Value := .iface 130 a.v
theorem RunInv.chg {A L : Nat} {lv : Value} {log : List Res} {i : Nat} {X : Nat → Prop} {w w' : World} (h : RunInv A L lv log i X w) (hc : Chg X w w') : RunInv A L lv log i X w' :=
  ⟨Chg.blk hc h.at_ (fun hx => (h.mine _ hx).2.1 rfl), Chg.blk hc h.logv (fun hx => (h.mine _ hx).2.2.1 rfl), h.reads.chg hc (fun _ hn hk hx => (h.mine _ hx).2.2.2 hn hk), h.ne, h.own, h.le,
    fun k hk => ⟨Nat.lt_of_lt_of_le (h.mine k hk).1 hc.size, (h.mine k hk).2⟩⟩
theorem RunInv.step {A L : Nat} {lv : Value} {log : List Res} {i : Nat} {X : Nat → Prop} {w : World} (h : RunInv A L lv log i X w) (hi : i < log.length) : RunInv A L lv log (i + 1) X (w.setCell ⟨A, 0, none⟩ (.int .i64 ((i : Int) + 1))) := by
  have hc : Chg (fun k => k = A) w (w.setCell ⟨A, 0, none⟩ (.int .i64 ((i : Int) + 1))) := Chg.setCell (S := fun k => k = A) (p := ⟨A, 0, none⟩) (Chg.refl _ _) (.inl rfl) _
  refine ⟨?_, Chg.blk hc h.logv (fun e => h.ne e.symm), h.reads.chg hc (fun k hn hk e => h.own hn (e ▸ hk)), h.ne, h.own, hi, fun k hk => ⟨Nat.lt_of_lt_of_le (h.mine k hk).1 hc.size, (h.mine k hk).2⟩⟩
  exact one_setCell h.at_
set_option maxHeartbeats 400000 in
theorem run_do (A L : Nat) (lv : Value) (log : List Res) (a : Acc) (i : Nat) (X : Nat → Prop) (w : World) (h : RunInv A L lv log i X w) (F : Nat) (hF : F = 66) :
    Calls Tryz.prog F (#[a.v] ++ #[.pointer (some ⟨A, 0, none⟩), .pointer (some ⟨L, 0, none⟩)]) w (StepPost (RunInv A L lv log) (fun k => k = A) X pending w Res.v (replay log a i)) := by
  subst hF
  have hA := cell_of_one h.at_
  have hfA := free_of_one h.at_
  have hL := cell_of_one h.logv
  have hAw := lt_of_heap h.at_
  have hLw := lt_of_heap h.logv
  have hne : ¬ L = A := fun e => h.ne e.symm
  have hmx := h.reads.len_le
  have HH := hide h
  obtain ⟨_, B, c, rfl, hnc, hcm, _⟩ := h.reads
  clear h
  unfold maxLen at hmx
  obtain ⟨ak, ab, ac, ax⟩ := a
  simp only [Acc.v]
  by_cases hlt : i < log.length
  · obtain ⟨b, o, c', u1, u2, hv, _, _, hb, hu1, hu2, hc1, hc2⟩ := (unhide HH).reads.at2 hlt
    cases hv
    have hbA : ¬ b = A := fun e => (unhide HH).own (by omega) (by rw [e]; rfl)
    rw [(logCells_get log i).1, List.getElem?_eq_getElem hlt] at hu1
    rw [(logCells_get log i).2, List.getElem?_eq_getElem hlt] at hu2
    cases hu1
    cases hu2
    have R : Hid (replay log ⟨ak, ab, ac, ax⟩ i = .ok log[i] (i + 1)) := hide (by unfold replay; rw [List.getElem?_eq_getElem hlt])
    generalize log[i] = r at *
    have hli : ¬ log.length ≤ i := by omega
    go_enter Tryz.func66, Tryz.ntmps66
    go_wp2
    go_returns
    have hs := (unhide HH).step hlt
    refine StepPost.ok (unhide R) rfl ?_ ?_
    · exact (hs.chg (Chg.alloc (Chg.refl _ _) _)).chg (Chg.alloc (Chg.refl _ _) _)
    · exact ((Chg.setCell (S := fun k => k = A) (p := ⟨A, 0, none⟩) (Chg.refl _ _) (.inl rfl) _).alloc _).alloc _
  · have R : Hid (replay log ⟨ak, ab, ac, ax⟩ i = .error ⟨ak, ab, ac, ax⟩ i) := hide (by unfold replay; rw [List.getElem?_eq_none (by omega)])
    have hli : log.length ≤ i := by omega
    go_enter Tryz.func66, Tryz.ntmps66
    go_wp2
    refine ⟨rfl, StepPost.err (unhide R) rfl ?_ ?_⟩
    · exact ((unhide HH).chg (Chg.alloc (Chg.refl _ _) _)).chg (Chg.alloc (Chg.refl _ _) _)
    · exact ((Chg.refl _ _).alloc _).alloc _
theorem assert_pending (x : Value) (w : World) : (Instr.typeAssert (.iface 130 x) 20 130 true).run Tryz.prog w = .ok (.tuple #[x, .bool true]) w := by kernel_rfl
attribute [local go_sem] assert_pending
set_option maxRecDepth 100000 in
set_option maxHeartbeats 1000000 in
theorem catch_panicking (Ab Ob Db : Nat) (a : Acc) (x0 x1 x2 x3 y0 y1 y2 y3 z0 : Value) (older : List PanicEntry) (w : World)
    (hA : Blk w Ab 29 #[x0, x1, x2, x3]) (hO : Blk w Ob 35 #[y0, y1, y2, y3]) (hD : Blk w Db 4 #[z0]) (hAO : ¬ Ab = Ob) (hAD : ¬ Ab = Db) (hOD : ¬ Ob = Db) :
    CallsD Tryz.prog 67 #[.pointer (some ⟨Ab, 0, none⟩), .pointer (some ⟨Ob, 0, none⟩), .pointer (some ⟨Db, 0, none⟩)] (.panicking ({ v := pending a, recovered := false } :: older)) w fun e u' w' =>
      e = .returned (.tuple #[]) ∧ u' = .panicking ({ v := pending a, recovered := true } :: older) ∧ Chg (fun k => k = Ab ∨ k = Ob ∨ k = Db) w w' ∧
      Blk w' Ab 29 #[.int .i64 a.kind, .int .i64 a.bank, .int .i64 a.cell, .string a.bytes] ∧ Blk w' Ob 35 #[.int .i64 0, .slice none 0 0, .slice none 0 0, .int .i64 0] ∧ Blk w' Db 4 #[.bool false] := by
  have hA0 := hA.cell 0
  have hA1 := hA.cell 1
  have hA2 := hA.cell 2
  have hA3 := hA.cell 3
  have hO0 := hO.cell 0
  have hO1 := hO.cell 1
  have hO2 := hO.cell 2
  have hO3 := hO.cell 3
  have hD0 := hD.cell 0
  have fA := hA.frozen
  have fO := hO.frozen
  have fD := hD.frozen
  have lA := hA.lt
  have lO := hO.lt
  have lD := hD.lt
  simp only [List.getElem?_toArray, List.getElem?_cons_zero, List.getElem?_cons_succ] at hA0 hA1 hA2 hA3 hO0 hO1 hO2 hO3 hD0
  have HA := hide hA
  have HO := hide hO
  have HD := hide hD
  clear hA hO hD
  have hAO' : ¬ Ob = Ab := fun e => hAO e.symm
  have hAD' : ¬ Db = Ab := fun e => hAD e.symm
  have hOD' : ¬ Db = Ob := fun e => hOD e.symm
  obtain ⟨ak, ab, ac, ax⟩ := a
  simp only [pending, Acc.v]
  refine callsD_of_wpS Tryz.func67 rfl fun c₀ cs hu => ?_
  simp only [Tryz.ntmps67, List.size_toArray, List.length_cons, List.length_nil, Nat.reduceAdd, Nat.reduceSub, Array.replicate_succ, Array.replicate_zero, List.push_toArray, List.append_toArray, List.nil_append, List.cons_append]
  apply wpS_seq
  apply wpS_region
  simp [wpOpsS, go_sem, recoverD, hu, Exit.thenS]
  refine wpS_of_wp ?_
  go_wp2
  go_region
  go_wp2
  refine ⟨rfl, _, rfl, .tuple #[], results_none rfl _ _ _, rfl, rfl, ?_, ?_, ?_, ?_⟩
  · repeat' (first | (with_reducible exact Chg.refl _ _) | (with_reducible exact Ext.refl _) | (with_reducible assumption) | (with_reducible refine Chg.alloc ?_ _) | (with_reducible refine Chg.drew ?_) | (with_reducible refine Chg.drewN ?_ _) | (with_reducible refine Chg.setCell ?_ ?_ _) | (with_reducible refine Ext.alloc ?_ _) | (with_reducible refine Ext.drew ?_) | (with_reducible refine Ext.drewN ?_ _) | (with_reducible refine Ext.setCell ?_ ?_ _) | (simp; done) | (simp; omega) | omega)
  · exact ((((((((((((unhide HA).set_ 0 _).set_ 1 _).set_ 2 _).set_ 3 _).far (p := ⟨Ob, 0, none⟩) hAO _).far (p := ⟨Ob, 1, none⟩) hAO _).far (p := ⟨Ob, 2, none⟩) hAO _).far (p := ⟨Ob, 3, none⟩) hAO _).far (p := ⟨Db, 0, none⟩) hAD _).alloc _).alloc _).drew
  · exact ((((((((((((unhide HO).far (p := ⟨Ab, 0, none⟩) hAO' _).far (p := ⟨Ab, 1, none⟩) hAO' _).far (p := ⟨Ab, 2, none⟩) hAO' _).far (p := ⟨Ab, 3, none⟩) hAO' _).set_ 0 _).set_ 1 _).set_ 2 _).set_ 3 _).far (p := ⟨Db, 0, none⟩) hOD _).alloc _).alloc _).drew
  · exact ((((((((((((unhide HD).far (p := ⟨Ab, 0, none⟩) hAD' _).far (p := ⟨Ab, 1, none⟩) hAD' _).far (p := ⟨Ab, 2, none⟩) hAD' _).far (p := ⟨Ab, 3, none⟩) hAD' _).far (p := ⟨Ob, 0, none⟩) hOD' _).far (p := ⟨Ob, 1, none⟩) hOD' _).far (p := ⟨Ob, 2, none⟩) hOD' _).far (p := ⟨Ob, 3, none⟩) hOD' _).set_ 0 _).alloc _).alloc _).drew
theorem catch_idle (x y z : Value) (w : World) :
    CallsD Tryz.prog 67 #[x, y, z] .returning w fun e u' w' => e = .returned (.tuple #[]) ∧ u' = .returning ∧ w = w' := by
  refine callsD_of_wpS Tryz.func67 rfl fun c₀ cs hu => ?_
  simp only [Tryz.ntmps67, List.size_toArray, List.length_cons, List.length_nil, Nat.reduceAdd, Nat.reduceSub, Array.replicate_succ, Array.replicate_zero, List.push_toArray, List.append_toArray, List.nil_append, List.cons_append]
  apply wpS_seq
  apply wpS_region
  simp [wpOpsS, go_sem, recoverD, hu, Exit.thenS]
  refine wpS_of_wp ?_
  go_wp2
  exact ⟨rfl, .returning, by cases c₀; simp_all, .tuple #[], results_none rfl _ _ _, rfl, rfl, rfl⟩
end Go.Proofs.YtplkplegjoabgaaGreatDoor


namespace Go.Proofs.YtplkplegjoabgaaGreatDoor
open Go.RowKit
def runWorld (w : World) (lv : Value) : World :=
  ((((w.alloc (.cells #[lv] 24)).alloc (.cells #[.int .i64 0, .int .i64 0, .int .i64 0, .string { data := #[] }] 29)).alloc (.cells #[.int .i64 0, .slice none 0 0, .slice none 0 0, .int .i64 0] 35)).alloc (.cells #[.bool false] 4)).alloc (.cells #[.int .i64 0] 3)
theorem runWorld_facts (w : World) (lv : Value) (log : List Res) (hl : Reads w 2 lv log.length (logCells log)) :
    Ext w (runWorld w lv) ∧ (runWorld w lv).heap.size = w.heap.size + 5 ∧
    RunInv (w.heap.size + 1 + 1 + 1 + 1) w.heap.size lv log 0 (fun k => k = w.heap.size + 1 ∨ k = w.heap.size + 1 + 1 ∨ k = w.heap.size + 1 + 1 + 1) (runWorld w lv) ∧
    Blk (runWorld w lv) (w.heap.size + 1) 29 #[.int .i64 0, .int .i64 0, .int .i64 0, .string { data := #[] }] ∧
    Blk (runWorld w lv) (w.heap.size + 1 + 1) 35 #[.int .i64 0, .slice none 0 0, .slice none 0 0, .int .i64 0] ∧ Blk (runWorld w lv) (w.heap.size + 1 + 1 + 1) 4 #[.bool false] := by
  have hlt := fun k (hn : 0 < log.length) hk => hl.own_lt (by omega) hn k hk
  have hE : Ext w (runWorld w lv) := by
    unfold runWorld
    repeat' (first | (with_reducible exact Chg.refl _ _) | (with_reducible exact Ext.refl _) | (with_reducible assumption) | (with_reducible refine Chg.alloc ?_ _) | (with_reducible refine Chg.drew ?_) | (with_reducible refine Chg.drewN ?_ _) | (with_reducible refine Chg.setCell ?_ ?_ _) | (with_reducible refine Ext.alloc ?_ _) | (with_reducible refine Ext.drew ?_) | (with_reducible refine Ext.drewN ?_ _) | (with_reducible refine Ext.setCell ?_ ?_ _) | (simp; done) | (simp; omega) | omega)
  refine ⟨hE, by simp [runWorld], ⟨?_, ?_, hl.ext hE, by omega, ?_, by omega, ?_⟩, ?_, ?_, ?_⟩
  · exact Blk.new' _ _ _ (by simp)
  · exact ((((Blk.new w 24 #[lv]).alloc _).alloc _).alloc _).alloc _
  · intro hn hk
    have := hlt _ hn hk
    omega
  · rintro k hk
    refine ⟨by simp [runWorld]; omega, by omega, by omega, fun hn hk' => ?_⟩
    have := hlt _ hn hk'
    omega
  · exact (((Blk.new' _ _ _ (by simp)).alloc _).alloc _).alloc _
  · exact ((Blk.new' _ _ _ (by simp)).alloc _).alloc _
  · exact (Blk.new' _ _ _ (by simp)).alloc _
theorem run_results (tmps : Array Value) (w : World) (Ab Ob Db : Nat) (a0 a1 a2 a3 o0 o1 o2 o3 d0 : Value) (h4 : tmps[4]?.getD undef = .pointer (some ⟨Ab, 0, none⟩)) (h5 : tmps[5]?.getD undef = .pointer (some ⟨Ob, 0, none⟩)) (h6 : tmps[6]?.getD undef = .pointer (some ⟨Db, 0, none⟩))
    (hA : Blk w Ab 29 #[a0, a1, a2, a3]) (hO : Blk w Ob 35 #[o0, o1, o2, o3]) (hD : Blk w Db 4 #[d0]) :
    (results Tryz.f34 tmps).run Tryz.prog w = .ok (.tuple #[.agg #[a0, a1, a2, a3], .agg #[o0, o1, o2, o3], d0]) w := by
  have a0 := hA.cell 0
  have a1 := hA.cell 1
  have a2 := hA.cell 2
  have a3 := hA.cell 3
  have o0 := hO.cell 0
  have o1 := hO.cell 1
  have o2 := hO.cell 2
  have o3 := hO.cell 3
  have d0 := hD.cell 0
  simp only [List.getElem?_toArray, List.getElem?_cons_zero, List.getElem?_cons_succ] at a0 a1 a2 a3 o0 o1 o2 o3 d0
  simp [results, Tryz.results34, go_sem, h4, h5, h6, a0, a1, a2, a3, o0, o1, o2, o3, d0]
set_option maxHeartbeats 1000000 in
theorem runS_any {α : Type} (G : Nat) (pc : Array Value) (lv : Value) (log : List Res) (p : Prg α) (V : α → Array Value → World → Prop) (g : Nat) (w : World) (hl : Reads w 2 lv log.length (logCells log)) (hG : ∀ (args : Array Value) (w : World), (callFunc G args).run Tryz.prog w = .ok (.enter G args) w)
    (hV : ∀ a ys w1 w2, V a ys w1 → Chg (fun k => w.heap.size ≤ k ∧ k < w.heap.size + 5) w1 w2 → V a ys w2)
    (hp : ∀ w1, Ext w w1 → w1.heap.size = w.heap.size + 5 → RunInv (w.heap.size + 1 + 1 + 1 + 1) w.heap.size lv log 0 (fun k => k = w.heap.size + 1 ∨ k = w.heap.size + 1 + 1 ∨ k = w.heap.size + 1 + 1 + 1) w1 →
      Calls Tryz.prog G (#[.func (.func 66) #[] #[.pointer (some ⟨w.heap.size + 1 + 1 + 1 + 1, 0, none⟩), .pointer (some ⟨w.heap.size, 0, none⟩)]] ++ pc) w1 fun e w2 => Chg (fun k => k = w.heap.size + 1 + 1 + 1 + 1 ∨ (g ≤ k ∧ k < w.heap.size)) w1 w2 ∧
        ((∃ a i z A1 n1 c1 A2 n2 c2 er, p.run (replay log) 0 = .ok a i ∧ e = .returned (.agg #[.int .i64 z, .slice A1 n1 c1, .slice A2 n2 c2, .int .i64 er]) ∧ V a #[.int .i64 z, .slice A1 n1 c1, .slice A2 n2 c2, .int .i64 er] w2) ∨ ∃ c i, p.run (replay log) 0 = .error c i ∧ e = .panicked [{ v := pending c, recovered := false }])) :
    Calls Tryz.prog 34 #[.func (.func G) #[] pc, lv] w fun e w' => Chg (fun k => g ≤ k) w w' ∧
      ((∃ a i z A1 n1 c1 A2 n2 c2 er, p.run (replay log) 0 = .ok a i ∧ e = .returned (.tuple #[.agg #[.int .i64 0, .int .i64 0, .int .i64 0, .string noBytes], .agg #[.int .i64 z, .slice A1 n1 c1, .slice A2 n2 c2, .int .i64 er], .bool true]) ∧ V a #[.int .i64 z, .slice A1 n1 c1, .slice A2 n2 c2, .int .i64 er] w') ∨
       ∃ c i, p.run (replay log) 0 = .error c i ∧ e = .returned (.tuple #[c.v, .agg #[.int .i64 0, .slice none 0 0, .slice none 0 0, .int .i64 0], .bool false])) := by
  have hmf : ∀ (fn : Fn) (first cap : Array Value) (w : World), (Instr.makeFunc fn first cap).run Tryz.prog w = .ok (.func fn first cap) w := fun _ _ _ _ => rfl
  have HP := hide hp
  have HL := hide hl
  obtain ⟨_, B, c, rfl, hnc, hcm, _⟩ := hl
  clear hp hnc hcm
  go_enter_defers Tryz.func34, Tryz.ntmps34
  go_wp2_with fail
  obtain ⟨hE, hsz, hI, hBA, hBO, hBD⟩ := runWorld_facts w (.slice B log.length c) log (unhide HL)
  refine (unhide HP (runWorld w (.slice B log.length c)) hE hsz hI).mono ?_
  rintro e w1 ⟨h2, hq⟩
  have nA : ¬ (w.heap.size + 1 = w.heap.size + 1 + 1 + 1 + 1 ∨ (g ≤ w.heap.size + 1 ∧ w.heap.size + 1 < w.heap.size)) := by omega
  have nO : ¬ (w.heap.size + 1 + 1 = w.heap.size + 1 + 1 + 1 + 1 ∨ (g ≤ w.heap.size + 1 + 1 ∧ w.heap.size + 1 + 1 < w.heap.size)) := by omega
  have nD : ¬ (w.heap.size + 1 + 1 + 1 = w.heap.size + 1 + 1 + 1 + 1 ∨ (g ≤ w.heap.size + 1 + 1 + 1 ∧ w.heap.size + 1 + 1 + 1 < w.heap.size)) := by omega
  rcases hq with ⟨a, s, z, A1, n1, c1, A2, n2, c2, er, hr, rfl, hv⟩ | ⟨a, s, hr, rfl⟩
  · have HR := hide hr
    have HVV := hide (And.intro hV hv)
    have hA := hide (hBA.chg h2 nA)
    have hO := hide (hBO.chg h2 nO)
    have hD := hide (hBD.chg h2 nD)
    have hEx : Hid (Chg (fun k => g ≤ k) w w1) := hide (hE.trans' h2 (fun _ _ h => h.elim) (fun i hi e => by rcases e with e | e <;> omega))
    have a0 := (unhide hA).cell 0
    have a1 := (unhide hA).cell 1
    have a2 := (unhide hA).cell 2
    have a3 := (unhide hA).cell 3
    have o0 := (unhide hO).cell 0
    have o1 := (unhide hO).cell 1
    have o2 := (unhide hO).cell 2
    have o3 := (unhide hO).cell 3
    have d0 := (unhide hD).cell 0
    simp only [List.getElem?_toArray, List.getElem?_cons_zero, List.getElem?_cons_succ] at a0 a1 a2 a3 o0 o1 o2 o3 d0
    have fA := (unhide hA).frozen
    have fO := (unhide hO).frozen
    have fD := (unhide hD).frozen
    clear hr h2 hE hsz hI hBA hBO hBD HP hv hV
    go_wp2
    have e1 : ¬ w.heap.size + 1 = w.heap.size + 1 + 1 := by omega
    have e2 : ¬ w.heap.size + 1 = w.heap.size + 1 + 1 + 1 := by omega
    have e3 : ¬ w.heap.size + 1 + 1 = w.heap.size + 1 := by omega
    have e4 : ¬ w.heap.size + 1 + 1 = w.heap.size + 1 + 1 + 1 := by omega
    have e5 : ¬ w.heap.size + 1 + 1 + 1 = w.heap.size + 1 := by omega
    have e6 : ¬ w.heap.size + 1 + 1 + 1 = w.heap.size + 1 + 1 := by omega
    refine leaves_cons (f := 67) (args := #[.pointer (some ⟨w.heap.size + 1, 0, none⟩), .pointer (some ⟨w.heap.size + 1 + 1, 0, none⟩), .pointer (some ⟨w.heap.size + 1 + 1 + 1, 0, none⟩)]) (by simp) (by simp [go_sem]) ?_
    refine (catch_idle _ _ _ _).mono ?_
    rintro e u' w2 ⟨rfl, rfl, rfl⟩
    refine ⟨_, run_results _ _ (w.heap.size + 1) (w.heap.size + 1 + 1) (w.heap.size + 1 + 1 + 1) (.int .i64 0) (.int .i64 0) (.int .i64 0) (.string { data := #[] }) (.int .i64 z) (.slice A1 n1 c1) (.slice A2 n2 c2) (.int .i64 er) (.bool true) rfl rfl rfl ?_ ?_ ?_, ?_, ?_⟩
    · exact (((((((((unhide hA).set_ 0 _).set_ 1 _).set_ 2 _).set_ 3 _).far (p := ⟨w.heap.size + 1 + 1, 0, none⟩) e1 _).far (p := ⟨w.heap.size + 1 + 1, 1, none⟩) e1 _).far (p := ⟨w.heap.size + 1 + 1, 2, none⟩) e1 _).far (p := ⟨w.heap.size + 1 + 1, 3, none⟩) e1 _).far (p := ⟨w.heap.size + 1 + 1 + 1, 0, none⟩) e2 _
    · exact (((((((((unhide hO).far (p := ⟨w.heap.size + 1, 0, none⟩) e3 _).far (p := ⟨w.heap.size + 1, 1, none⟩) e3 _).far (p := ⟨w.heap.size + 1, 2, none⟩) e3 _).far (p := ⟨w.heap.size + 1, 3, none⟩) e3 _).set_ 0 _).set_ 1 _).set_ 2 _).set_ 3 _).far (p := ⟨w.heap.size + 1 + 1 + 1, 0, none⟩) e4 _
    · exact (((((((((unhide hD).far (p := ⟨w.heap.size + 1, 0, none⟩) e5 _).far (p := ⟨w.heap.size + 1, 1, none⟩) e5 _).far (p := ⟨w.heap.size + 1, 2, none⟩) e5 _).far (p := ⟨w.heap.size + 1, 3, none⟩) e5 _).far (p := ⟨w.heap.size + 1 + 1, 0, none⟩) e6 _).far (p := ⟨w.heap.size + 1 + 1, 1, none⟩) e6 _).far (p := ⟨w.heap.size + 1 + 1, 2, none⟩) e6 _).far (p := ⟨w.heap.size + 1 + 1, 3, none⟩) e6 _).set_ 0 _
    · have hx := unhide hEx
      repeat' (first | (with_reducible exact Chg.refl _ _) | (with_reducible exact Ext.refl _) | (with_reducible assumption) | (with_reducible refine Chg.alloc ?_ _) | (with_reducible refine Chg.drew ?_) | (with_reducible refine Chg.drewN ?_ _) | (with_reducible refine Chg.setCell ?_ ?_ _) | (with_reducible refine Ext.alloc ?_ _) | (with_reducible refine Ext.drew ?_) | (with_reducible refine Ext.drewN ?_ _) | (with_reducible refine Ext.setCell ?_ ?_ _) | (simp; done) | (simp; omega) | omega)
    · refine .inl ⟨a, s, z, A1, n1, c1, A2, n2, c2, er, unhide HR, rfl, (unhide HVV).1 _ _ _ _ (unhide HVV).2 ?_⟩
      repeat' (first | (with_reducible exact Chg.refl _ _) | (with_reducible exact Ext.refl _) | (with_reducible assumption) | (with_reducible refine Chg.alloc ?_ _) | (with_reducible refine Chg.drew ?_) | (with_reducible refine Chg.drewN ?_ _) | (with_reducible refine Chg.setCell ?_ ?_ _) | (with_reducible refine Ext.alloc ?_ _) | (with_reducible refine Ext.drew ?_) | (with_reducible refine Ext.drewN ?_ _) | (with_reducible refine Ext.setCell ?_ ?_ _) | (simp; done) | (simp; omega) | omega)
  · have HR := hide hr
    have hA := hide (hBA.chg h2 nA)
    have hO := hide (hBO.chg h2 nO)
    have hD := hide (hBD.chg h2 nD)
    have hEx : Hid (Chg (fun k => g ≤ k) w w1) := hide (hE.trans' h2 (fun _ _ h => h.elim) (fun i hi e => by rcases e with e | e <;> omega))
    clear hr h2 hE hsz hI hBA hBO hBD HP hV
    go_wp2
    refine leaves_cons (f := 67) (args := #[.pointer (some ⟨w.heap.size + 1, 0, none⟩), .pointer (some ⟨w.heap.size + 1 + 1, 0, none⟩), .pointer (some ⟨w.heap.size + 1 + 1 + 1, 0, none⟩)]) (by simp) (by simp [go_sem]) ?_
    refine (catch_panicking _ _ _ a _ _ _ _ _ _ _ _ _ [] _ (unhide hA) (unhide hO) (unhide hD) (by omega) (by omega) (by omega)).mono ?_
    rintro e u' w2 ⟨rfl, rfl, hc, hA', hO', hD'⟩
    refine ⟨_, run_results _ _ _ _ _ _ _ _ _ _ _ _ _ _ rfl rfl rfl hA' hO' hD', ?_, ?_⟩
    rotate_left 1
    · exact .inr ⟨a, s, unhide HR, rfl⟩
    · exact (unhide hEx).trans' hc (fun _ _ h => h) (fun i hi e => by rcases e with e | e | e <;> omega)
end Go.Proofs.YtplkplegjoabgaaGreatDoor


namespace Go.Proofs.YtplkplegjoabgaaGreatDoor.Pv
open Go.RowKit
def logO (log : List Res) : List Acc → Option Res := fun l => match l.length with
  | 0 => none
  | n + 1 => log[n]?
theorem logO_snoc (log : List Res) (l : List Acc) (c : Acc) : logO log (l ++ [c]) = log[l.length]? := by
  unfold logO
  rw [List.length_append]
  rfl
theorem replay_some {log : List Res} {a : Acc} {i : Nat} {r : Res} (h : log[i]? = some r) : replay log a i = .ok r (i + 1) := by unfold replay; rw [h]
theorem replay_none {log : List Res} {a : Acc} {i : Nat} (h : log[i]? = none) : replay log a i = .error a i := by unfold replay; rw [h]
theorem go_replay {α : Type} (log : List Res) (p : Prg α) : ∀ l : List Acc, l.length ≤ log.length →
    ((go (logO log) p l).2.length ≤ log.length → p.run (replay log) l.length = .ok (go (logO log) p l).1 (go (logO log) p l).2.length) ∧
    (∀ l' c, l' ++ [c] <+: (go (logO log) p l).2 → l <+: l' → l'.length = log.length → p.run (replay log) l.length = .error c log.length) := by
  induction p with
  | ret a =>
    refine fun l hl => ⟨fun _ => rfl, fun l' c h1 h2 h3 => ?_⟩
    have h4 := h1.length_le
    have h5 := h2.length_le
    rw [List.length_append, List.length_singleton] at h4
    have h6 : (go (logO log) (Prg.ret a) l).2 = l := rfl
    rw [h6] at h4
    omega
  | ask a k ih =>
    intro l hl
    rw [go_ask]
    have hpre := go_pre (logO log) (k (ans (logO log) (l ++ [a]))) (l ++ [a])
    have hlen : (l ++ [a]).length = l.length + 1 := by simp
    cases hr : log[l.length]? with
    | some r =>
      have hlt : l.length < log.length := (List.getElem?_eq_some_iff.1 hr).1
      have ha : ans (logO log) (l ++ [a]) = r := by unfold ans; rw [logO_snoc, hr]; rfl
      rw [ha] at hpre ⊢
      obtain ⟨i1, i2⟩ := ih r (l ++ [a]) (by omega)
      rw [hlen] at i1 i2
      have hrun : (Prg.ask a k).run (replay log) l.length = (k r).run (replay log) (l.length + 1) := by
        simp only [Prg.run, replay_some hr]
      rw [hrun]
      refine ⟨i1, fun l' c h1 h2 h3 => i2 l' c h1 ?_ h3⟩
      exact List.prefix_of_prefix_length_le hpre ((List.prefix_append l' [c]).trans h1) (by rw [hlen]; omega)
    | none =>
      have hge : log.length ≤ l.length := List.getElem?_eq_none_iff.1 hr
      have hrun : (Prg.ask a k).run (replay log) l.length = .error a l.length := by
        simp only [Prg.run, replay_none hr]
      refine ⟨fun h => ?_, fun l' c h1 h2 h3 => ?_⟩
      · have := hpre.length_le
        rw [hlen] at this
        omega
      · have hll : l' = l := (h2.eq_of_length (by omega)).symm
        subst hll
        have := List.prefix_of_prefix_length_le h1 hpre (by simp)
        have h4 := this.eq_of_length (by simp)
        have h5 : c = a := by simpa using h4
        rw [hrun, h5, h3]
def runD (A L : Nat) (lv : Value) (log : List Res) : Dv where
  hd := .func (.func 66) #[] #[.pointer (some ⟨A, 0, none⟩), .pointer (some ⟨L, 0, none⟩)]
  O := logO log
  S := fun k => k = A
  inv := fun l X w => RunInv A L lv log l.length X w
  pan := fun l _ _ chain => ∃ l' c, l = l' ++ [c] ∧ l'.length ≤ log.length ∧ chain = [{ v := pending c, recovered := false }]
  one := rfl
  noBlk := rfl
  notS := fun _ _ _ b h hb => (h.mine b hb).2.1
  grow := fun l X Y w w' h hc hY => by
    have h' := h.chg hc
    refine ⟨h'.at_, h'.logv, h'.reads, h'.ne, h'.own, h'.le, fun k hk => ?_⟩
    rcases hY k hk with hx | ⟨h1, h2⟩
    · exact h'.mine k hx
    · have h3 := lt_of_heap h.at_
      have h4 := lt_of_heap h.logv
      refine ⟨h2, by omega, by omega, fun hn hk' => ?_⟩
      have := h.reads.own_lt (by omega) hn k hk'
      omega
theorem runD_step (A L : Nat) (lv : Value) (log : List Res) : DvStep Tryz.prog (runD A L lv log) := fun l X w h => by
  refine ⟨_, _, rfl, (fun args w => by kernel_rfl), fun c => ?_⟩
  refine (run_do A L lv log c l.length X w h _ rfl).mono ?_
  intro e w' hp
  cases hr : log[l.length]? with
  | some r =>
    obtain ⟨h1, h2, h3⟩ := hp.of_ok (replay_some hr)
    refine ⟨h3, .inl ⟨r, ?_, h1, ?_⟩⟩
    · exact (logO_snoc log l c).trans hr
    · show RunInv A L lv log (l ++ [c]).length X w'
      rw [List.length_append]
      exact h2
  | none =>
    obtain ⟨h1, h2, h3⟩ := hp.of_err (replay_none hr)
    exact ⟨h3, .inr ⟨_, (logO_snoc log l c).trans hr, h1, l, c, rfl, h.le, rfl⟩⟩
end Go.Proofs.YtplkplegjoabgaaGreatDoor.Pv


namespace Go.Proofs.YtplkplegjoabgaaGreatDoor
open Go.RowKit
set_option maxHeartbeats 1000000 in
theorem sign_clo (seed m : Array Value) (h : Int) (w : World) (_ : seed.size = 16) (_ : m.size = 16) :
    Calls Tryz.prog 35 #[.agg seed, .int .i64 h, .agg m] w fun e w' =>
      e = .returned (.func (.func 68) #[] #[.pointer (some ⟨w.heap.size + 1, 0, none⟩), .pointer (some ⟨w.heap.size, 0, none⟩), .pointer (some ⟨w.heap.size + 1 + 1, 0, none⟩)]) ∧
      Ext w w' ∧ w'.heap.size = w.heap.size + 3 ∧ Blk w' w.heap.size 23 seed ∧ Blk w' (w.heap.size + 1) 3 #[.int .i64 h] ∧ Blk w' (w.heap.size + 1 + 1) 23 m := by
  have hmf : ∀ (fn : Fn) (first cap : Array Value) (w : World), (Instr.makeFunc fn first cap).run Tryz.prog w = .ok (.func fn first cap) w := fun _ _ _ _ => rfl
  go_enter Tryz.func35, Tryz.ntmps35
  go_wp2
  refine bodyPost_ret (v := .func (.func 68) #[] #[.pointer (some ⟨w.heap.size + 1, 0, none⟩), .pointer (some ⟨w.heap.size, 0, none⟩), .pointer (some ⟨w.heap.size + 1 + 1, 0, none⟩)]) (by simp [results, Tryz.results35, go_sem]) rfl ⟨rfl, ?_, ?_, ?_, ?_, ?_⟩
  · repeat' (first | (with_reducible exact Chg.refl _ _) | (with_reducible exact Ext.refl _) | (with_reducible assumption) | (with_reducible refine Chg.alloc ?_ _) | (with_reducible refine Chg.drew ?_) | (with_reducible refine Chg.drewN ?_ _) | (with_reducible refine Chg.setCell ?_ ?_ _) | (with_reducible refine Ext.alloc ?_ _) | (with_reducible refine Ext.drew ?_) | (with_reducible refine Ext.drewN ?_ _) | (with_reducible refine Ext.setCell ?_ ?_ _) | (simp; done) | (simp; omega) | omega)
  · simp
  · exact ((Blk.new w _ _).alloc _).alloc _
  · exact (Blk.new' _ _ _ (by simp)).alloc _
  · exact Blk.new' _ _ _ (by simp)
def NextP (seed m : List UInt8) (h : Int) (log : List Res) (w : World) (e : Ending) (w' : World) : Prop :=
  (∃ p i z A1 n1 c1 A2 n2 c2 er, (Prg.signI h).run (replay log) 0 = .ok p i ∧ e = .returned (.tuple #[.agg #[.int .i64 0, .int .i64 0, .int .i64 0, .string noBytes], .agg #[.int .i64 z, .slice A1 n1 c1, .slice A2 n2 c2, .int .i64 er], .bool true]) ∧
      Pv.RL { w := w', ok := fun b => w.heap.size ≤ b, env := fun _ => none } (Pv.sigPC (Pv.sgO seed h m p).1 ++ [.lit (.int .i64 (Pv.sgO seed h m p).2)]) [.int .i64 z, .slice A1 n1 c1, .slice A2 n2 c2, .int .i64 er]) ∨
  ∃ c i, (Prg.signI h).run (replay log) 0 = .error c i ∧ e = .returned (.tuple #[c.v, .agg #[.int .i64 0, .slice none 0 0, .slice none 0 0, .int .i64 0], .bool false])
theorem sign1_run (seed m : List UInt8) (hs : seed.length = 16) (hm : m.length = 16) (h : Int) (lv : Value) (log : List Res) (g : Nat) (w0 w : World) (hw0 : Ext w0 w) (hgw : g + 3 ≤ w0.heap.size) (hlv : ∀ k, lv.ownBlock = some k → 0 < log.length → k < g) (hmem : ∀ w', Chg (fun b => g ≤ b) w w' → ShaMem w')
    (B0 : Blk w0 g 23 (seed.map u8v).toArray) (B1 : Blk w0 (g + 1) 3 #[.int .i64 h]) (B2 : Blk w0 (g + 1 + 1) 23 (m.map u8v).toArray)
    (A : Nat) (hA : w0.heap.size ≤ A) (L : Nat) (hL : w0.heap.size ≤ L) (X : Nat → Prop) (hR : RunInv A L lv log 0 X w) :
    Calls Tryz.prog 68 (#[.func (.func 66) #[] #[.pointer (some ⟨A, 0, none⟩), .pointer (some ⟨L, 0, none⟩)]] ++ #[.pointer (some ⟨g + 1, 0, none⟩), .pointer (some ⟨g, 0, none⟩), .pointer (some ⟨g + 1 + 1, 0, none⟩)]) w fun e w2 =>
      Chg (fun k => k = A ∨ (g ≤ k ∧ k < w0.heap.size)) w w2 ∧ ((∃ p i z A1 n1 c1 A2 n2 c2 er, (Prg.signI h).run (replay log) 0 = .ok p i ∧ e = .returned (.agg #[.int .i64 z, .slice A1 n1 c1, .slice A2 n2 c2, .int .i64 er]) ∧
        Pv.RL { w := w2, ok := fun b => w.heap.size ≤ b, env := fun _ => none } (Pv.sigPC (Pv.sgO seed h m p).1 ++ [.lit (.int .i64 (Pv.sgO seed h m p).2)]) [.int .i64 z, .slice A1 n1 c1, .slice A2 n2 c2, .int .i64 er]) ∨
        ∃ c i, (Prg.signI h).run (replay log) 0 = .error c i ∧ e = .panicked [{ v := pending c, recovered := false }]) := by
  have b0 := B0.ext hw0
  have b1 := B1.ext hw0
  have b2 := B2.ext hw0
  have hAw := lt_of_heap hR.at_
  have hLw := lt_of_heap hR.logv
  obtain ⟨bl, hbl⟩ : ∃ bl : Nat → Nat, bl 900001 = g + 1 ∧ bl 900002 = g ∧ bl 900003 = g + 1 + 1 := ⟨fun x => if x = 900001 then g + 1 else if x = 900002 then g else g + 1 + 1, rfl, rfl, rfl⟩
  obtain ⟨hb1, hb2, hb3⟩ := hbl
  have hX0 : (Pv.runD A L lv log).inv [] (fun k => X k ∨ k = g ∨ k = g + 1 ∨ k = g + 1 + 1) w := by
    refine ⟨hR.at_, hR.logv, hR.reads, hR.ne, hR.own, hR.le, fun k hk => ?_⟩
    rcases hk with hk | hk
    · exact hR.mine k hk
    · refine ⟨?_, by omega, by omega, fun hn hk' => ?_⟩
      · have := b2.lt; omega
      · have := hlv k hk' hn; omega
  have hobs : ∀ o ∈ Pv.sgObs seed m h, (o.x = 900001 ∧ o.t = 3 ∧ o.l = [.lit (.int .i64 h)]) ∨ (o.x = 900002 ∧ o.t = 23 ∧ o.l = [.bs 16 seed]) ∨ (o.x = 900003 ∧ o.t = 23 ∧ o.l = [.bs 16 m]) := by
    intro o ho
    simp only [Pv.sgObs, List.mem_cons, List.not_mem_nil, or_false] at ho
    rcases ho with rfl | rfl | rfl
    · exact .inl ⟨rfl, rfl, rfl⟩
    · exact .inr (.inl ⟨rfl, rfl, rfl⟩)
    · exact .inr (.inr ⟨rfl, rfl, rfl⟩)
  have hSX : ∀ b, Pv.SX (Pv.sgObs seed m h) bl (Pv.runD A L lv log) b → b = A ∨ b = g ∨ b = g + 1 ∨ b = g + 1 + 1 := by
    rintro b (hb | ⟨o, ho, rfl⟩)
    · exact .inl hb
    · rcases hobs o ho with ⟨e, _⟩ | ⟨e, _⟩ | ⟨e, _⟩ <;> rw [e] <;> omega
  have hgo := Pv.go_replay log (Prg.signI h) [] (Nat.zero_le _)
  have e1 : Value.pointer (some ⟨g + 1, 0, none⟩) = .pointer (some ⟨bl 900001, 0, none⟩) := by rw [hb1]
  have e2 : Value.pointer (some ⟨g, 0, none⟩) = .pointer (some ⟨bl 900002, 0, none⟩) := by rw [hb2]
  have e3 : Value.pointer (some ⟨g + 1 + 1, 0, none⟩) = .pointer (some ⟨bl 900003, 0, none⟩) := by rw [hb3]
  refine (Pv.sign1_fun seed m h (Pv.logO log) [] w (fun _ => False) [.func (.func 66) #[] #[.pointer (some ⟨A, 0, none⟩), .pointer (some ⟨L, 0, none⟩)], .pointer (some ⟨g + 1, 0, none⟩), .pointer (some ⟨g, 0, none⟩), .pointer (some ⟨g + 1 + 1, 0, none⟩)] bl (Pv.runD A L lv log) (fun k => X k ∨ k = g ∨ k = g + 1 ∨ k = g + 1 + 1)
    (fun w' hc => hmem w' (hc.mono fun b _ hb => by rcases hSX b hb with h | h | h | h <;> omega))
    (fun b hb => ⟨by have := b2.lt; rcases hSX b hb with h | h | h | h <;> omega, fun h => h⟩)
    (Pv.runD_step A L lv log) (fun _ _ _ _ _ h _ => h) rfl (fun p hp => by cases hp; exact hX0) (fun h => by cases h)
    (fun o ho => ?_) (fun o ho o' ho' e => ?_) ⟨?_, ?_, ?_, ?_, trivial⟩).mono ?_
  · rcases hobs o ho with ⟨k1, k2, k3⟩ | ⟨k1, k2, k3⟩ | ⟨k1, k2, k3⟩ <;> rw [k1, k2, k3]
    · exact ⟨.inr (.inr (.inl hb1)), _, by rw [hb1]; exact b1, .cons (.lit rfl) .nil⟩
    · refine ⟨.inr (.inl hb2), _, by rw [hb2]; exact b0, ?_⟩
      have := Pv.RL.cons (C := { w := w, ok := fun _ => False, env := fun _ => none }) (Pv.R.bs (n := 16) hs) Pv.RL.nil
      rw [List.append_nil] at this
      exact this
    · refine ⟨.inr (.inr (.inr hb3)), _, by rw [hb3]; exact b2, ?_⟩
      have := Pv.RL.cons (C := { w := w, ok := fun _ => False, env := fun _ => none }) (Pv.R.bs (n := 16) hm) Pv.RL.nil
      rw [List.append_nil] at this
      exact this
  · rcases hobs o ho with ⟨k1, _⟩ | ⟨k1, _⟩ | ⟨k1, _⟩ <;> rcases hobs o' ho' with ⟨k2, _⟩ | ⟨k2, _⟩ | ⟨k2, _⟩ <;> rw [k1, k2] at e ⊢ <;> first | rfl | (exfalso; omega)
  · exact .w (.one (.dv rfl ⟨0, _, rfl, Nat.le_refl _, fun _ => rfl⟩))
  · exact .w (.one (.pt ⟨_, _, rfl⟩ ⟨0, _, rfl, Nat.le_refl _, fun _ => ⟨_, rfl, e1⟩⟩))
  · exact .w (.one (.pt ⟨_, _, rfl⟩ ⟨0, _, rfl, Nat.le_refl _, fun _ => ⟨_, rfl, e2⟩⟩))
  · exact .w (.one (.pt ⟨_, _, rfl⟩ ⟨0, _, rfl, Nat.le_refl _, fun _ => ⟨_, rfl, e3⟩⟩))
  rintro e w2 ⟨hc, hq⟩
  refine ⟨hc.mono fun b _ hb => by rcases hSX b hb with h | h | h | h <;> omega, ?_⟩
  rcases hq with ⟨val, rfl, hres, _, hdv⟩ | ⟨chain, l, rfl, h1, h2, h3⟩
  · refine .inl ?_
    have hinv := hdv _ rfl
    have hrun := hgo.1 hinv.le
    cases hres with
    | w hres => cases hres with
      | @agg _ cs hres =>
        obtain ⟨cs⟩ := cs
        dsimp only at hres
        have hok : Pv.RL { w := w2, ok := fun b => w.heap.size ≤ b, env := fun _ => none } _ cs := hres.le ⟨Nat.le_refl _, fun b _ hb => ⟨hb.elim (fun h => h.2.elim) id, rfl⟩, fun _ _ _ h => by cases h⟩
        have hok2 := hok
        unfold Pv.sigPC at hres
        cases hres with
        | cons k1 hres => cases hres with
          | cons k2 hres => cases hres with
            | cons k3 hres => cases hres with
              | cons k4 hres =>
                cases hres
                cases k1
                cases k4
                cases k2 with
                | sl r2 _ _ => cases k3 with
                  | sl r3 _ _ =>
                    obtain ⟨_, A1, c1, rfl, _⟩ := r2
                    obtain ⟨_, A2, c2, rfl, _⟩ := r3
                    exact ⟨_, _, _, _, _, _, _, _, _, _, hrun, rfl, hok2⟩
  · obtain ⟨l', c, rfl, h4, rfl⟩ := h3
    refine .inr ⟨c, _, hgo.2 l' c h1.2 (List.nil_prefix) ?_, rfl⟩
    have h5 : Pv.logO log (l' ++ [c]) = none := h2
    rw [Pv.logO_snoc, List.getElem?_eq_none_iff] at h5
    omega
set_option maxHeartbeats 2000000 in
theorem next_any (seed m : List UInt8) (hs : seed.length = 16) (hm : m.length = 16) (h : Int) (lv : Value) (log : List Res) (w : World) (hM : ShaMem w) (hl : Reads w 2 lv log.length (logCells log)) :
    Calls Tryz.prog 10 #[.agg (seed.map u8v).toArray, .int .i64 h, .agg (m.map u8v).toArray, lv] w fun e w' => Ext w w' ∧ NextP seed m h log w e w' := by
  have HSZ := hide (show (seed.map u8v).toArray.size = 16 ∧ (m.map u8v).toArray.size = 16 from ⟨by simpa using hs, by simpa using hm⟩)
  have HR := hide (fun W => sign_clo (seed.map u8v).toArray (m.map u8v).toArray h W (by simpa using hs) (by simpa using hm))
  have HL := hide (And.intro hM hl)
  have HS := hide (And.intro hs hm)
  obtain ⟨_, B, c, rfl, _, _, _⟩ := hl
  obtain ⟨arr, harr⟩ : ∃ x, (seed.map u8v).toArray = x := ⟨_, rfl⟩
  obtain ⟨mrr, hmrr⟩ : ∃ x, (m.map u8v).toArray = x := ⟨_, rfl⟩
  rw [harr] at HSZ HR ⊢
  rw [hmrr] at HSZ HR ⊢
  have HA := hide (And.intro harr hmrr)
  clear harr hmrr hM hs hm
  go_enter Tryz.func10, Tryz.ntmps10
  go_upto_region 1 with fail
  have HZ := hide (show Ext w ((((w.alloc (.cells arr 23)).alloc (.cells mrr 23)).alloc (.cells #[.int .i64 0, .int .i64 0, .int .i64 0, .string { data := #[] }] 29)).alloc (.cells #[.int .i64 0, .slice none 0 0, .slice none 0 0, .int .i64 0] 35)) ∧ Blk ((((w.alloc (.cells arr 23)).alloc (.cells mrr 23)).alloc (.cells #[.int .i64 0, .int .i64 0, .int .i64 0, .string { data := #[] }] 29)).alloc (.cells #[.int .i64 0, .slice none 0 0, .slice none 0 0, .int .i64 0] 35)) w.heap.size 23 arr ∧
      Blk ((((w.alloc (.cells arr 23)).alloc (.cells mrr 23)).alloc (.cells #[.int .i64 0, .int .i64 0, .int .i64 0, .string { data := #[] }] 29)).alloc (.cells #[.int .i64 0, .slice none 0 0, .slice none 0 0, .int .i64 0] 35)) (w.heap.size + 1) 23 mrr ∧
      Blk ((((w.alloc (.cells arr 23)).alloc (.cells mrr 23)).alloc (.cells #[.int .i64 0, .int .i64 0, .int .i64 0, .string { data := #[] }] 29)).alloc (.cells #[.int .i64 0, .slice none 0 0, .slice none 0 0, .int .i64 0] 35)) (w.heap.size + 1 + 1) 29 #[.int .i64 0, .int .i64 0, .int .i64 0, .string { data := #[] }] ∧
      Blk ((((w.alloc (.cells arr 23)).alloc (.cells mrr 23)).alloc (.cells #[.int .i64 0, .int .i64 0, .int .i64 0, .string { data := #[] }] 29)).alloc (.cells #[.int .i64 0, .slice none 0 0, .slice none 0 0, .int .i64 0] 35)) (w.heap.size + 1 + 1 + 1) 35 #[.int .i64 0, .slice none 0 0, .slice none 0 0, .int .i64 0] ∧
      ((((w.alloc (.cells arr 23)).alloc (.cells mrr 23)).alloc (.cells #[.int .i64 0, .int .i64 0, .int .i64 0, .string { data := #[] }] 29)).alloc (.cells #[.int .i64 0, .slice none 0 0, .slice none 0 0, .int .i64 0] 35)).heap.size = w.heap.size + 4
    from ⟨((((Ext.refl w).alloc _).alloc _).alloc _).alloc _, (((Blk.new w _ _).alloc _).alloc _).alloc _, ((Blk.new' _ _ _ (by simp)).alloc _).alloc _, (Blk.new' _ _ _ (by simp)).alloc _, Blk.new' _ _ _ (by simp), by simp⟩)
  generalize hW0 : ((((w.alloc (.cells arr 23)).alloc (.cells mrr 23)).alloc (.cells #[.int .i64 0, .int .i64 0, .int .i64 0, .string { data := #[] }] 29)).alloc (.cells #[.int .i64 0, .slice none 0 0, .slice none 0 0, .int .i64 0] 35)) = W0 at *
  clear hW0
  go_wp2_with (first
    | (refine wpList_loadB (ty := 23) (t := 23) (x := .tmp 4) rfl rfl digest_wide rfl (cs := arr) (unhide HZ).2.1 (unhide HSZ).1 ?_)
    | (refine wpList_loadB (ty := 23) (t := 23) (x := .tmp 6) rfl rfl digest_wide rfl (cs := mrr) (unhide HZ).2.2.1 (unhide HSZ).2 ?_)
    | (go_at_call 35; refine (unhide HR W0).mono ?_; rintro e w1 ⟨rfl, k1, k2, k3, k4, k5⟩; have H1 := hide (And.intro k1 (And.intro k2 (And.intro k3 (And.intro k4 k5)))); clear k1 k2 k3 k4 k5))
  obtain ⟨_, k2, k3, k4, k5⟩ := And.intro trivial (unhide H1)
  obtain ⟨z1, z2, z3, z4, z5, z6⟩ := unhide HZ
  obtain ⟨hM, hl⟩ := unhide HL
  have hsz : W0.heap.size + 3 = w1.heap.size := k3.symm
  have hl1 : Reads w1 2 (.slice B log.length c) log.length (logCells log) := (hl.ext z1).ext k2
  refine (runS_any (p := Prg.signI h) 68 _ _ log (fun p ys wz => Pv.RL { w := wz, ok := fun b => w1.heap.size + 5 ≤ b, env := fun _ => none } (Pv.sigPC (Pv.sgO seed h m p).1 ++ [.lit (.int .i64 (Pv.sgO seed h m p).2)]) ys.toList) W0.heap.size w1 hl1 (fun args w => by kernel_rfl) (fun p ys wa wb hv hc => ?_) (fun wa hE hsz2 hR => ?_)).mono ?_
  · exact hv.le ⟨hc.size, fun b hb hb2 => ⟨hb2, hc.block b hb (fun hh => by omega)⟩, fun _ _ _ h => by cases h⟩
  · have hq := sign1_run seed m (unhide HS).1 (unhide HS).2 h (.slice B log.length c) log W0.heap.size w1 wa hE (by omega) (fun k hk hn => ?_) (fun w' hc => ?_) (by rw [(unhide HA).1]; exact k4) k5.1 (by rw [(unhide HA).2]; exact k5.2) (w1.heap.size + 1 + 1 + 1 + 1) (by omega) w1.heap.size (Nat.le_refl _) _ hR
    · refine hq.mono ?_
      rintro e w2 ⟨hc, hq⟩
      refine ⟨hc, ?_⟩
      rcases hq with ⟨p, i, z, A1, n1, c1, A2, n2, c2, er, q1, q2, q3⟩ | hq
      · exact .inl ⟨p, i, z, A1, n1, c1, A2, n2, c2, er, q1, q2, q3.le ⟨Nat.le_refl _, fun b _ hb => ⟨by omega, rfl⟩, fun _ _ _ h => by cases h⟩⟩
      · exact .inr hq
    · have := hl.own_lt (by omega) hn k hk
      omega
    · exact hM.past (by omega) (((hM.ext z1).ext k2).ext hE) hc
  rintro e w2 ⟨hc, hq⟩
  have hX : Hid (Ext w w2) := hide ((z1.trans k2).trans' hc (fun _ _ h => h) (fun i hi e => by omega))
  have hA2 := hide ((z4.ext k2).chg hc (by omega))
  have hO2 := hide ((z5.ext k2).chg hc (by omega))
  obtain ⟨a0, a1, a2, a3, fA, lA⟩ := (unhide hA2).cells4
  obtain ⟨o0, o1, o2, o3, fO, lO⟩ := (unhide hO2).cells4
  have HSZ2 := hide (show w1.heap.size ≤ w2.heap.size ∧ w.heap.size + 4 ≤ w1.heap.size from ⟨hc.size, by omega⟩)
  rcases hq with ⟨p, i, z, A1, n1, c1, A2, n2, c2, er, hr, rfl, hv⟩ | ⟨cc, i, hr, rfl⟩
  · have HV := hide (And.intro hr hv)
    clear hr hv hc hl1 hsz hM hl z1 z2 z3 z4 z5 z6 k2 k3 k4 k5 H1 HZ HL HR
    go_wp2
    refine bodyPost_ret (v := .tuple #[.agg #[.int .i64 0, .int .i64 0, .int .i64 0, .string noBytes], .agg #[.int .i64 z, .slice A1 n1 c1, .slice A2 n2 c2, .int .i64 er], .bool true]) (by simp [results, Tryz.results10, go_sem, a0, a1, a2, a3, o0, o1, o2, o3]) rfl ⟨?_, ?_⟩
    · have hx1 := unhide hX
      repeat' (first | (with_reducible exact Chg.refl _ _) | (with_reducible exact Ext.refl _) | (with_reducible assumption) | (with_reducible refine Chg.alloc ?_ _) | (with_reducible refine Chg.drew ?_) | (with_reducible refine Chg.drewN ?_ _) | (with_reducible refine Chg.setCell ?_ ?_ _) | (with_reducible refine Ext.alloc ?_ _) | (with_reducible refine Ext.drew ?_) | (with_reducible refine Ext.drewN ?_ _) | (with_reducible refine Ext.setCell ?_ ?_ _) | (simp; done) | (simp; omega) | omega)
    · refine .inl ⟨p, i, z, A1, n1, c1, A2, n2, c2, er, (unhide HV).1, rfl, ?_⟩
      have hz := unhide HSZ2
      refine (unhide HV).2.le ?_
      generalize hw3 : World.setCell _ _ _ = w3
      have hcc : Chg (fun k => k = w.heap.size + 1 + 1 ∨ k = w.heap.size + 1 + 1 + 1) w2 w3 := by
        rw [← hw3]
        repeat' (first | (with_reducible exact Chg.refl _ _) | (with_reducible exact Ext.refl _) | (with_reducible assumption) | (with_reducible refine Chg.alloc ?_ _) | (with_reducible refine Chg.drew ?_) | (with_reducible refine Chg.drewN ?_ _) | (with_reducible refine Chg.setCell ?_ ?_ _) | (with_reducible refine Ext.alloc ?_ _) | (with_reducible refine Ext.drew ?_) | (with_reducible refine Ext.drewN ?_ _) | (with_reducible refine Ext.setCell ?_ ?_ _) | (simp; done) | (simp; omega) | omega)
      exact ⟨hcc.size, fun b hb (hok : w1.heap.size + 5 ≤ b) => ⟨(by show w.heap.size ≤ b; omega), hcc.block b hb (fun hh => by omega)⟩, fun _ _ _ h => by cases h⟩
  · have HV := hide hr
    clear hr hc hl1 hsz hM hl z1 z2 z3 z4 z5 z6 k2 k3 k4 k5 H1 HZ HL HR
    obtain ⟨ck, cb, cc', cx⟩ := cc
    simp only [Acc.v]
    go_wp2
    refine bodyPost_ret (v := .tuple #[.agg #[.int .i64 ck, .int .i64 cb, .int .i64 cc', .string cx], .agg #[.int .i64 0, .slice none 0 0, .slice none 0 0, .int .i64 0], .bool false]) (by simp [results, Tryz.results10, go_sem, a0, a1, a2, a3, o0, o1, o2, o3]) rfl ⟨?_, ?_⟩
    · have hx1 := unhide hX
      repeat' (first | (with_reducible exact Chg.refl _ _) | (with_reducible exact Ext.refl _) | (with_reducible assumption) | (with_reducible refine Chg.alloc ?_ _) | (with_reducible refine Chg.drew ?_) | (with_reducible refine Chg.drewN ?_ _) | (with_reducible refine Chg.setCell ?_ ?_ _) | (with_reducible refine Ext.alloc ?_ _) | (with_reducible refine Ext.drew ?_) | (with_reducible refine Ext.drewN ?_ _) | (with_reducible refine Ext.setCell ?_ ?_ _) | (simp; done) | (simp; omega) | omega)
    · exact .inr ⟨_, i, unhide HV, rfl⟩
end Go.Proofs.YtplkplegjoabgaaGreatDoor
