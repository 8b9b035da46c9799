/-
  Package page by the abstract machine: the law PageHistory.
-/
import Derived.Test.YtcjlkjcadaaleaaDoorPgQ
namespace Go.Proofs.YtcjlkjcadaaleaaDoor.Pv
open Go.RowKit

theorem sum_set1 : ∀ (l : List Nat) (j : Nat), j < l.length → (l.set j (l.getD j 0 + 1)).sum = l.sum + 1
  | [], j, h => by simp at h
  | a :: l, 0, _ => by simp; omega
  | a :: l, j + 1, h => by
    have := sum_set1 l j (by simpa using h)
    simp only [List.set_cons_succ, List.sum_cons, List.getD_cons_succ] at this ⊢
    omega
theorem getD_le_sum : ∀ (l : List Nat) (j : Nat), l.getD j 0 ≤ l.sum
  | [], j => by simp
  | a :: l, 0 => by simp
  | a :: l, j + 1 => by
    have := getD_le_sum l j
    simp only [List.getD_cons_succ, List.sum_cons]
    omega
theorem take_sum : ∀ (l : List Nat) (j : Nat), (l.take (j + 1)).sum = (l.take j).sum + l.getD j 0
  | [], j => by simp
  | a :: l, 0 => by simp
  | a :: l, j + 1 => by
    have := take_sum l j
    simp only [List.take_succ_cons, List.sum_cons, List.getD_cons_succ] at this ⊢
    omega
theorem take_le_sum : ∀ (l : List Nat) (j : Nat), (l.take j).sum ≤ l.sum
  | [], j => by simp
  | a :: l, 0 => by simp
  | a :: l, j + 1 => by
    have := take_le_sum l j
    simp only [List.take_succ_cons, List.sum_cons]
    omega
theorem castGetD (l : List Nat) (j : Nat) : (l.map fun n : Nat => (n : Int)).getD j 0 = ((l.getD j 0 : Nat) : Int) := by
  rw [List.getD_eq_getElem?_getD, List.getElem?_map, List.getD_eq_getElem?_getD]
  cases l[j]? <;> rfl
theorem hist_counts (key : List UInt8) (pages : List ByteArray) (ws : List WriteS) (h0 : 0 < pages.length) (h1 : pages.length ≤ 16) : ∀ k, k ≤ 1000 → ∃ l : List Nat, (hist key pages ws k).m.counts = l.map (fun n : Nat => (n : Int)) ∧ l.sum = k ∧ l.length = pages.length ∧ (hist key pages ws k).m.total = (k : Int)
  | 0, _ => by
    have e1 : newM key pages = { newU key pages with tag := memTagS key (memRootS (newU key pages)) } := by unfold newM; simp [h1]
    refine ⟨List.replicate pages.length 0, ?_, by simp, by simp, ?_⟩
    · show (newM key pages).counts = _
      rw [e1]
      simp [newU]
    · show (newM key pages).total = _
      rw [e1]
      rfl
  | k + 1, hk => by
    obtain ⟨l, h2, h3, h4, h5⟩ := hist_counts key pages ws h0 h1 k (by omega)
    obtain ⟨h6, h7⟩ := hist_good key pages ws h0 h1 k
    have h8 := Nat.mod_lt (ws.getD k default).page h0
    have h9 := (good_store h7 (k := (ws.getD k default).page % pages.length) (by rw [h6]; exact h8) (ws.getD k default).content).2.2
    have hle := getD_le_sum l ((ws.getD k default).page % pages.length)
    refine ⟨l.set ((ws.getD k default).page % pages.length) (l.getD ((ws.getD k default).page % pages.length) 0 + 1), ?_, ?_, by simpa using h4, ?_⟩
    · show (pgSt key (hist key pages ws k).r (hist key pages ws k).m (((ws.getD k default).page % pages.length : Nat) : Int) (ws.getD k default).content).counts = _
      rw [h9]
      show (hist key pages ws k).m.counts.set _ _ = _
      rw [h2, castGetD, Int.toNat_natCast, show wrapI (((l.getD ((ws.getD k default).page % pages.length) 0 : Nat) : Int) + 1) = ((l.getD ((ws.getD k default).page % pages.length) 0 + 1 : Nat) : Int) from wrap_nat _ (by omega), List.map_set]
    · rw [sum_set1 _ _ (by rw [h4]; exact h8), h3]
    · show (pgSt key (hist key pages ws k).r (hist key pages ws k).m (((ws.getD k default).page % pages.length : Nat) : Int) (ws.getD k default).content).total = _
      rw [h9]
      show wrapI ((hist key pages ws k).m.total + 1) = _
      rw [h5]
      exact wrap_nat k (by omega)
def phSt1 (_ : List ByteArray) (ws : List WriteS) (k : Nat) : St := ⟨[(2, none, pv1 (.sl 2 ws.length (writeF ws))), (7, none, pvB true), (12, none, pvI k)], []⟩
def phSt2 (key : List UInt8) (pages : List ByteArray) (ws : List WriteS) (k : Nat) (sum : Nat) : St := ⟨[(2, none, pv1 (.sl 2 ws.length (writeF ws))), (3, none, pv1 (.pt 0 0 0)), (7, none, pvB true), (8, none, pv1 (.sl 19 (ws.length + 1) (memF (hist key pages ws)))), (9, none, pv1 (.sl 16 (ws.length + 1) (rootF2 (hist key pages ws)))), (10, none, pv1 (.sl 1 pages.length (strF (hist key pages ws ws.length).cs))), (13, none, pvI ws.length), (14, none, pvI sum), (15, none, pvI k)],
  [(0, none, 0, .box 23 [.bs 16 key])]⟩
set_option maxRecDepth 100000 in
theorem pgHistory_fun (key : List UInt8) (pages : List ByteArray) (ws : List WriteS) (_ : key.length = 16) (hw : ∀ w ∈ ws, w.page < 256) : FunOk Tryd.prog ShaMem 11 false [.w (.agg [.bs 16 key]), pv1 (.sl 1 pages.length (strF pages)), pv1 (.sl 2 ws.length (writeF ws))] (pvB true) := by
  cases hh : histOk pages ws with
  | false =>
    have M := pg10M false
    refine funOk_of Tryd.func11 rfl rfl sha_ext (fun A hS hn hI => ?_)
    refine tri_reg M hI hn (outs := ?_) (s' := ?_) ?_ ?_ ?_ ?_
    rotate_left 2
    · rfl
    · kernel_rfl
    · simp
    refine tri_reg M hI hn (outs := ?_) (s' := ?_) ?_ ?_ ?_ ?_
    rotate_left 2
    · rfl
    · kernel_rfl
    · simp
    refine tri_seq ?_
    refine tri_reg M hI hn (outs := ?_) (s' := ?_) ?_ ?_ ?_ ?_
    rotate_left 2
    · rfl
    · kernel_rfl
    · simp
    refine tri_cond (b := ?_) ?_ (fun hc => ?_) (fun hc => ?_)
    rotate_left 1
    · rfl
    · refine tri_reg M hI hn (outs := ?_) (s' := ?_) ?_ ?_ ?_ ?_
      rotate_left 2
      · rfl
      · kernel_rfl
      · simp
      refine tri_ret (fun a w hg => ⟨.inr rfl, _, ?_, hg⟩)
      refine retTo_cold (out := ?_) ?_ ?_ ?_ ?_ ?_
      rotate_left 1
      · rfl
      · simp
      · rfl
      · rfl
      rfl
    · have hpre : (0 < pages.length ∧ pages.length ≤ 16 ∧ ws.length ≤ 12) ∧ shortS pages = true := by
        simp at hc
        obtain ⟨⟨⟨h1, h2⟩, h3⟩, h4⟩ := hc
        have h5 : 0 < pages.length := Nat.pos_of_ne_zero (fun h => h1 (List.eq_nil_of_length_eq_zero h))
        exact ⟨⟨h5, by omega, by omega⟩, h4⟩
      refine tri_skip ?_
      change Tri _ _ _ _ _
      refine tri_reg M hI hn (outs := ?_) (s' := ?_) ?_ ?_ ?_ ?_
      rotate_left 2
      · rfl
      · kernel_rfl
      · simp [hh, isWriteRow_writeF hw]
      refine tri_seq ?_
      refine tri_reg M hI hn (outs := ?_) (s' := ?_) ?_ ?_ ?_ ?_
      rotate_left 2
      · rfl
      · kernel_rfl
      · simp
      refine tri_cond (b := ?_) ?_ (fun hc => ?_) (fun hc => ?_)
      rotate_left 1
      · rfl
      · refine tri_seq ?_
        refine tri_reg M hI hn (outs := ?_) (s' := ?_) ?_ ?_ ?_ ?_
        rotate_left 2
        · rfl
        · kernel_rfl
        · simp
        refine tri_conv (s' := phSt1 pages ws 0) (fun a w hg => (hg.reset (kT := [2, 7, 12]) (kO := []) (by rfl) (by simp)).same ?_ ?_) ?_
        · exact .cons rfl (.cons rfl (.cons rfl .nil))
        · exact .nil
        refine tri_block ?_
        refine tri_loop ws.length (fun k s => s = phSt1 pages ws k ∧ ∀ j, j < k → (ws.getD j default).content.size ≤ 200) 0 ⟨rfl, fun j hj => by omega⟩ (by omega) (fun k s hJ hkl => ?_)
        obtain ⟨rfl, hall⟩ := hJ
        refine tri_seq ?_
        refine tri_reg M hI hn (outs := ?_) (s' := ?_) ?_ ?_ ?_ ?_
        rotate_left 2
        · rfl
        · kernel_rfl
        · simp
        refine tri_cond (b := ?_) ?_ (fun hc => ?_) (fun hc => ?_)
        rotate_left 1
        · rfl
        · have hk2 : k < ws.length := by simpa using hc
          refine tri_skip ?_
          change Tri _ _ _ _ _
          refine tri_seq ?_
          refine tri_block ?_
          refine tri_reg M hI hn (outs := ?_) (s' := ?_) ?_ ?_ ?_ ?_
          rotate_left 2
          · rfl
          · kernel_rfl
          · simp
            exact hk2
          refine tri_cond (b := ?_) ?_ (fun hc => ?_) (fun hc => ?_)
          rotate_left 1
          · rfl
          · refine tri_reg M hI hn (outs := ?_) (s' := ?_) ?_ ?_ ?_ ?_
            rotate_left 2
            · rfl
            · kernel_rfl
            · simp
            refine tri_ret (fun a w hg => ⟨.inr rfl, _, ?_, hg⟩)
            refine retTo_cold (out := ?_) ?_ ?_ ?_ ?_ ?_
            rotate_left 1
            · rfl
            · simp
            · rfl
            · rfl
            rfl
          · have hcs : (ws.getD k default).content.size ≤ 200 := by
              simp at hc
              simp only [List.getD_eq_getElem?_getD]
              omega
            refine tri_skip ?_
            change Tri _ _ _ _ _
            refine tri_region M hI hn (outs := ?_) (s' := ?_) ?_ ?_ ?_ ?_
            rotate_left 2
            · rfl
            · kernel_rfl
            · simp
            intro a w hg
            refine ⟨k + 1, _, by omega, by omega, ⟨rfl, fun i hi => ?_⟩, (hg.reset (kT := [2, 7, 12]) (kO := []) (by rfl) (by simp)).same ?_ ?_⟩
            · rcases Nat.lt_or_ge i k with h | h
              · exact hall i h
              · obtain rfl : i = k := by omega
                exact hcs
            · exact .cons rfl (.cons rfl (.cons (by rw [wrap_nat k (by omega)]) .nil))
            · exact .nil
        · exfalso
          have hk3 : k = ws.length := by
            have : ¬ k < ws.length := by simpa using hc
            omega
          subst hk3
          have h3 : histOk pages ws = true := by
            unfold histOk
            rw [hpre.2, Bool.true_and, Bool.and_eq_true, decide_eq_true_eq]
            refine ⟨hpre.1, List.all_eq_true.2 fun b hb => ?_⟩
            obtain ⟨i, hi, rfl⟩ := List.getElem_of_mem hb
            have := hall i hi
            rw [List.getD_eq_getElem?_getD, List.getElem?_eq_getElem hi] at this
            exact decide_eq_true this
          rw [hh] at h3
          cases h3
      · cases hc
  | true =>
    have M := pg10M true
    have hh2 := hh
    unfold histOk at hh2
    rw [Bool.and_eq_true, Bool.and_eq_true, decide_eq_true_eq] at hh2
    obtain ⟨⟨h0, h1, h2⟩, hsh, hct⟩ := hh2
    have hsz5 : ∀ c ∈ pages, c.size ≤ 5000 := fun c hc => by have := (short_sizes hsh).2 c hc; omega
    have hall : ∀ j, j < ws.length → (ws.getD j default).content.size ≤ 5000 := fun j hj => by
      have := of_decide_eq_true (List.all_eq_true.1 hct _ (getD_mem (show j < ws.length by omega) default))
      omega
    obtain ⟨cl, hc1, hc2, hc3, hc4⟩ := hist_counts key pages ws h0 h1 ws.length (by omega)
    have hg := hist_good key pages ws h0 h1 ws.length
    have hmk := hist_memOk key pages ws h0 h1 hsz5 ws.length hall
    refine funOk_of Tryd.func11 rfl rfl sha_ext (fun A hS hn hI => ?_)
    refine tri_reg M hI hn (outs := ?_) (s' := ?_) ?_ ?_ ?_ ?_
    rotate_left 2
    · rfl
    · kernel_rfl
    · simp
    refine tri_reg M hI hn (outs := ?_) (s' := ?_) ?_ ?_ ?_ ?_
    rotate_left 2
    · rfl
    · kernel_rfl
    · simp
    refine tri_seq ?_
    refine tri_reg M hI hn (outs := ?_) (s' := ?_) ?_ ?_ ?_ ?_
    rotate_left 2
    · rfl
    · kernel_rfl
    · simp
    refine tri_cond (b := ?_) ?_ (fun hc => ?_) (fun hc => ?_)
    rotate_left 1
    · rfl
    · refine tri_reg M hI hn (outs := ?_) (s' := ?_) ?_ ?_ ?_ ?_
      rotate_left 2
      · rfl
      · kernel_rfl
      · simp
      refine tri_ret (fun a w hg => ⟨.inr rfl, _, ?_, hg⟩)
      refine retTo_cold (out := ?_) ?_ ?_ ?_ ?_ ?_
      rotate_left 1
      · rfl
      · simp
      · rfl
      · rfl
      rfl
    · refine tri_skip ?_
      change Tri _ _ _ _ _
      refine tri_reg M hI hn (outs := ?_) (s' := ?_) ?_ ?_ ?_ ?_
      rotate_left 2
      · rfl
      · kernel_rfl
      · simp [hh, isWriteRow_writeF hw]
      refine tri_seq ?_
      refine tri_reg M hI hn (outs := ?_) (s' := ?_) ?_ ?_ ?_ ?_
      rotate_left 2
      · rfl
      · kernel_rfl
      · simp
      refine tri_cond (b := ?_) ?_ (fun hc => ?_) (fun hc => ?_)
      rotate_left 1
      · rfl
      · cases hc
      · refine tri_skip ?_
        change Tri _ _ _ _ _
        refine tri_reg M hI hn (outs := ?_) (s' := ?_) ?_ ?_ ?_ ?_
        rotate_left 2
        · rfl
        · kernel_rfl
        · simp
        refine tri_reg M hI hn (outs := ?_) (s' := ?_) ?_ ?_ ?_ ?_
        rotate_left 2
        · rfl
        · kernel_rfl
        · simp
        refine tri_seq ?_
        refine tri_reg M hI hn (outs := ?_) (s' := ?_) ?_ ?_ ?_ ?_
        rotate_left 2
        · rfl
        · kernel_rfl
        · simp
        refine tri_conv (s' := phSt2 key pages ws 0 0) (fun a w hg => (hg.reset (kT := [2, 3, 7, 8, 9, 10, 13, 14, 15]) (kO := [0]) (by rfl) (by simp)).same ?_ ?_) ?_
        · simp only [rowStr_strF, rowWrite_writeF]
          refine .cons rfl (.cons rfl (.cons rfl (.cons rfl (.cons rfl (.cons rfl (.cons ?_ (.cons rfl (.cons rfl .nil))))))))
          exact congrArg pvI (by rw [IntKind.wrap_i64]; omega)
        · exact .cons (.box rfl) .nil
        refine tri_block ?_
        refine tri_loop pages.length (fun k s => s = phSt2 key pages ws k (cl.take k).sum) 0 rfl (by omega) (fun k s hJ hkl => ?_)
        subst hJ
        refine tri_seq ?_
        refine tri_reg M hI hn (outs := ?_) (s' := ?_) ?_ ?_ ?_ ?_
        rotate_left 2
        · rfl
        · kernel_rfl
        · simp
        refine tri_cond (b := ?_) ?_ (fun hc => ?_) (fun hc => ?_)
        rotate_left 1
        · rfl
        · have hk2 : k < pages.length := by simpa using hc
          have hld := hg.2.load (k := k) (by rw [hg.1]; exact hk2)
          refine tri_skip ?_
          change Tri _ _ _ _ _
          refine tri_seq ?_
          refine tri_block ?_
          refine tri_reg M hI hn (outs := ?_) (s' := ?_) ?_ ?_ ?_ ?_
          rotate_left 2
          · rfl
          · kernel_rfl
          · simp
            exact ⟨by omega, hmk, by unfold i64P; omega⟩
          refine tri_seq ?_
          refine tri_reg M hI hn (outs := ?_) (s' := ?_) ?_ ?_ ?_ ?_
          rotate_left 2
          · rfl
          · kernel_rfl
          · simp
            exact ⟨fun _ => hk2, fun _ _ => by omega⟩
          refine tri_cond (b := ?_) ?_ (fun hc => ?_) (fun hc => ?_)
          rotate_left 1
          · rfl
          · exfalso
            simp only [rowBox_boxF, rowInt_intF] at hc
            change (bif bif (loadE key (hist key pages ws ws.length).r (hist key pages ws ws.length).m (k : Int) != 0) then true else !((loadV key (hist key pages ws ws.length).r (hist key pages ws ws.length).m (k : Int)).toList == ((hist key pages ws ws.length).cs.getD k { data := #[] }).toList) then true else (((hist key pages ws ws.length).m.counts.length : Int) != (pages.length : Int))) = true at hc
            rw [hld.1, hld.2, hg.2.cl, hg.1] at hc
            simp at hc
          · refine tri_skip ?_
            change Tri _ _ _ _ _
            refine tri_region M hI hn (outs := ?_) (s' := ?_) ?_ ?_ ?_ ?_
            rotate_left 2
            · rfl
            · kernel_rfl
            · simp
              exact ⟨by omega, by rw [hg.2.cl, hg.1]; exact hk2⟩
            change Tri _ _ _ _ _
            refine tri_region M hI hn (outs := ?_) (s' := ?_) ?_ ?_ ?_ ?_
            rotate_left 2
            · rfl
            · kernel_rfl
            · simp
            intro a w hg
            refine ⟨k + 1, _, by omega, by omega, rfl, (hg.reset (kT := [2, 3, 7, 8, 9, 10, 13, 14, 15]) (kO := [0]) (by rfl) (by simp)).same ?_ ?_⟩
            · refine .cons rfl (.cons rfl (.cons rfl (.cons rfl (.cons rfl (.cons rfl (.cons rfl (.cons ?_ (.cons (by rw [wrap_nat k (by omega)]) .nil))))))))
              refine congrArg pvI ?_
              show IntKind.i64.wrap (((cl.take k).sum : Int) + (hist key pages ws ws.length).m.counts.getD k 0) = _
              have hts := take_le_sum cl (k + 1)
              rw [take_sum] at hts
              rw [hc1, castGetD, take_sum, IntKind.wrap_i64]
              omega
            · exact .cons (.box rfl) .nil
        · refine tri_exit ?_
          change Tri _ _ _ _ _
          have hk3 : k = pages.length := by
            have : ¬ k < pages.length := by simpa using hc
            omega
          refine tri_reg M hI hn (outs := ?_) (s' := ?_) ?_ ?_ ?_ ?_
          rotate_left 2
          · rfl
          · kernel_rfl
          · simp
            omega
          refine tri_ret (fun a w hg => ⟨.inr rfl, _, ?_, hg⟩)
          refine retTo_cold (out := ?_) ?_ ?_ ?_ ?_ ?_
          rotate_left 1
          · rfl
          · simp
          · rfl
          · rfl
          show pvB (bif bif true then ((hist key pages ws ws.length).m.total == (ws.length : Int)) else false then (((cl.take k).sum : Int) == (ws.length : Int)) else false) = pvB true
          rw [hc4, hk3, ← hc3, List.take_length, hc2]
          simp

end Go.Proofs.YtcjlkjcadaaleaaDoor.Pv
