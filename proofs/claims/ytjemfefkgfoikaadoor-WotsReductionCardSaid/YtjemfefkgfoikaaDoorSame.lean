/-
  The laws' 'same': two lists of digests, compared.
-/
import Derived.Test.YtjemfefkgfoikaaDoorSan4
namespace Go.Proofs.YtjemfefkgfoikaaDoor
open Go.RowKit

theorem take_eq_step {xs ys : List (List UInt8)} {k : Nat} (hx : k < xs.length) (hy : k < ys.length) (h : xs.take k = ys.take k) (he : xs[k] = ys[k]) : xs.take (k + 1) = ys.take (k + 1) := by
  rw [take_step xs k hx, take_step ys k hy, h, he]

set_option maxRecDepth 100000 in
set_option maxHeartbeats 4000000 in
theorem lsame_any (xs ys : List (List UInt8)) (xv yv : Value) (w : World) (hx : Digs w xv xs) (hy : Digs w yv ys) :
    Calls Tryd.prog 22 #[xv, yv] w fun e w' => e = .returned (.bool (decide (xs = ys))) ∧ Ext w w' := by
  obtain ⟨A, c, rfl, _, _⟩ := hx.form
  obtain ⟨A', c', rfl, _, _⟩ := hy.form
  by_cases hl : xs.length = ys.length
  · have hlI : (xs.length : Int) = (ys.length : Int) := by omega
    obtain ⟨n, hn⟩ : ∃ n, xs.length = n := ⟨_, rfl⟩
    have hn2 : ys.length = n := by omega
    have HX := hide hx
    have HY := hide hy
    have hnm : n ≤ maxLen := by have := hx.form; obtain ⟨_, _, e, h1, h2⟩ := this; cases e; omega
    unfold maxLen at hnm
    rw [hn, hn2] 
    clear hx hy hl hlI
    go_enter Tryd.func22, Tryd.ntmps22
    go_wp2_with fail
    go_loopw [13] (fun i wr => ∃ k : Nat, k ≤ n ∧ i = .int .i64 k ∧ Hid (xs.take k = ys.take k ∧ Ext w wr)) (fun i _ => n - (intOf i).toNat)
    case atStart => exact ⟨0, by omega, rfl, hide ⟨rfl, Ext.refl _⟩⟩
    case round =>
      obtain ⟨k, hk, rfl, HI⟩ := hrel
      by_cases hlt : k < n
      · obtain ⟨b1, o1, c1, e1, _, _, _, hr1⟩ := (unhide HX).at (k := k) (by omega)
        obtain ⟨b2, o2, c2, e2, _, _, _, hr2⟩ := (unhide HY).at (k := k) (by omega)
        cases e1
        cases e2
        have hlx := (unhide HX).1.get (k := k) (by omega)
        have hly := (unhide HY).1.get (k := k) (by omega)
        have hne := fun W => ne16 hlx hly W
        have hkx : k < xs.length := by omega
        have hky : k < ys.length := by omega
        have HT := hide (fun (h : xs[k] = ys[k]) => take_eq_step (xs := xs) (ys := ys) (k := k) hkx hky (unhide HI).1 h)
        have HN := hide (show xs[k] ≠ ys[k] → xs ≠ ys from fun h e => h (by subst e; rfl))
        generalize xs[k] = x at *
        generalize ys[k] = y at *
        obtain ⟨xc, hxc⟩ : ∃ l, x.map u8v = l := ⟨_, rfl⟩
        obtain ⟨yc, hyc⟩ : ∃ l, y.map u8v = l := ⟨_, rfl⟩
        have HL := hide (show xc.length = 16 ∧ yc.length = 16 from by rw [← hxc, ← hyc]; simp; omega)
        rw [hxc, hyc] at hne
        rw [hxc] at hr1
        rw [hyc] at hr2
        have HR := hide (And.intro hr1 hr2)
        have hkI : (k : Int) < (n : Int) := by omega
        clear hr1 hr2 hxc hyc
        go_upto_region 6 with fail
        refine wp_region_held_drew (S := fun W => Ext w W) (by kernel_rfl) ((unhide HI).2.drew) (fun hHeld => ?_)
        refine wpAnyH_take (i := 0) (oi := _) (v := ?_) rfl (by kernel_rfl) (by kernel_rfl) (by kernel_rfl) (fun _ _ _ h => h) (Or.inl ⟨by rfl, fun wz hSz => ?_⟩) (by assumption) ?_
        rotate_left
        · (first | (go_simp; done) | (go_simp; with_reducible rfl))
        try simp only [Act.put, List.setIfInBounds_toArray, List.set_cons_zero, List.set_cons_succ, List.getElem_toArray, List.getElem_cons_succ, List.getElem_cons_zero]
        refine wpAnyH_take (i := 1) (oi := _) (v := ?_) rfl (by kernel_rfl) (by kernel_rfl) (by kernel_rfl) (fun _ _ _ h => h) (Or.inl ⟨by rfl, fun wz hSz => ?_⟩) (by assumption) ?_
        rotate_left
        · (first | (go_simp; done) | (go_simp; with_reducible rfl))
        try simp only [Act.put, List.setIfInBounds_toArray, List.set_cons_zero, List.set_cons_succ, List.getElem_toArray, List.getElem_cons_succ, List.getElem_cons_zero]
        refine wpAnyH_take (i := 2) (oi := _) (v := ?_) rfl (by kernel_rfl) (by kernel_rfl) (by kernel_rfl) (fun _ _ _ h => h) (Or.inl ⟨by rfl, fun wz hSz => ?_⟩) (by assumption) ?_
        rotate_left
        · (first | (go_simp; done) | (go_simp; with_reducible rfl))
        try simp only [Act.put, List.setIfInBounds_toArray, List.set_cons_zero, List.set_cons_succ, List.getElem_toArray, List.getElem_cons_succ, List.getElem_cons_zero]
        refine wpAnyH_take (i := 3) (oi := _) (v := _) rfl (by kernel_rfl) (by kernel_rfl) (by kernel_rfl) (fun _ _ _ h => h) (ylm digest_wide rfl (by rfl) rfl (unhide HL).1 (fun w' hw => rangeAt_ext (unhide HR).1 hw)) (by assumption) ?_
        try simp only [Act.put, List.setIfInBounds_toArray, List.set_cons_zero, List.set_cons_succ, List.getElem_toArray, List.getElem_cons_succ, List.getElem_cons_zero]
        refine wpAnyH_take (i := 4) (oi := _) (v := ?_) rfl (by kernel_rfl) (by kernel_rfl) (by kernel_rfl) (fun _ _ _ h => h) (Or.inl ⟨by rfl, fun wz hSz => ?_⟩) (by assumption) ?_
        rotate_left
        · (first | (go_simp; done) | (go_simp; with_reducible rfl))
        try simp only [Act.put, List.setIfInBounds_toArray, List.set_cons_zero, List.set_cons_succ, List.getElem_toArray, List.getElem_cons_succ, List.getElem_cons_zero]
        refine wpAnyH_take (i := 5) (oi := _) (v := ?_) rfl (by kernel_rfl) (by kernel_rfl) (by kernel_rfl) (fun _ _ _ h => h) (Or.inl ⟨by rfl, fun wz hSz => ?_⟩) (by assumption) ?_
        rotate_left
        · (first | (go_simp; done) | (go_simp; with_reducible rfl))
        try simp only [Act.put, List.setIfInBounds_toArray, List.set_cons_zero, List.set_cons_succ, List.getElem_toArray, List.getElem_cons_succ, List.getElem_cons_zero]
        refine wpAnyH_take (i := 6) (oi := _) (v := ?_) rfl (by kernel_rfl) (by kernel_rfl) (by kernel_rfl) (fun _ _ _ h => h) (Or.inl ⟨by rfl, fun wz hSz => ?_⟩) (by assumption) ?_
        rotate_left
        · (first | (go_simp; done) | (go_simp; with_reducible rfl))
        try simp only [Act.put, List.setIfInBounds_toArray, List.set_cons_zero, List.set_cons_succ, List.getElem_toArray, List.getElem_cons_succ, List.getElem_cons_zero]
        refine wpAnyH_take (i := 7) (oi := _) (v := _) rfl (by kernel_rfl) (by kernel_rfl) (by kernel_rfl) (fun _ _ _ h => h) (ylm digest_wide rfl (by rfl) rfl (unhide HL).2 (fun w' hw => rangeAt_ext (unhide HR).2 hw)) (by assumption) ?_
        try simp only [Act.put, List.setIfInBounds_toArray, List.set_cons_zero, List.set_cons_succ, List.getElem_toArray, List.getElem_cons_succ, List.getElem_cons_zero]
        refine wpAnyH_take (i := 8) (oi := _) (v := ?_) rfl (by kernel_rfl) (by kernel_rfl) (by kernel_rfl) (fun _ _ _ h => h) (Or.inl ⟨by rfl, fun wz hSz => ?_⟩) (by assumption) ?_
        rotate_left
        · (first | (go_simp; done) | (go_simp; with_reducible rfl))
        try simp only [Act.put, List.setIfInBounds_toArray, List.set_cons_zero, List.set_cons_succ, List.getElem_toArray, List.getElem_cons_succ, List.getElem_cons_zero]
        refine wpAnyH_done (by kernel_rfl) ?_ _
        have H9 := hide hHeld
        clear hHeld
        by_cases hxy : x = y
        · rw [decide_eq_true hxy]
          go_wp2
          go_roundw
          case rel => exact ⟨k + 1, by omega, by go_num, hide ⟨unhide HT hxy, unhide H9⟩⟩
          case measure => simp [intOf]; omega
        · rw [decide_eq_false hxy]
          have hne2 := unhide HN hxy
          go_wp2
          go_ret
          exact ⟨ret_bool (decide_eq_false hne2).symm, unhide H9⟩
      · obtain rfl : k = n := by omega
        have he : xs = ys := by
          have := (unhide HI).1
          rw [List.take_of_length_le (by omega), List.take_of_length_le (by omega)] at this
          exact this
        go_wp2
        go_ret
        exact ⟨ret_bool (decide_eq_true he).symm, (unhide HI).2⟩
  · have hne : xs ≠ ys := fun e => hl (by rw [e])
    rw [decide_eq_false hne]
    have hlI : ¬ (xs.length : Int) = (ys.length : Int) := by omega
    clear hx hy hne
    generalize xs.length = n1 at *
    generalize ys.length = n2 at *
    go_enter Tryd.func22, Tryd.ntmps22
    go_wp2
    go_ret
    exact ⟨rfl, Ext.refl _⟩

end Go.Proofs.YtjemfefkgfoikaaDoor
