
import Derived.Test.YtoefmncdloffaaaDoorLsKC
import Derived.Test.YtoefmncdloffaaaDoorLsL
namespace Go.Proofs.YtoefmncdloffaaaDoor.Pv
open Go.RowKit
def usCL : List (Nat × Spec) := (45, funSpec true chkG) :: lsL4
theorem usCL_ok : ∀ p ∈ usCL, SpecOk Tryd.prog ShaMem p.1 p.2 := by
  intro p hp
  simp only [usCL, List.mem_cons] at hp
  rcases hp with rfl | hp
  · exact chk_ok (call_enters Tryd.func45 (by kernel_rfl) rfl) acc_fun
  · exact ls4_ok p (by simpa only [List.mem_cons] using hp)
theorem usCM : Mach Tryd.prog ShaMem (find usCL) := ⟨specs_of usCL_ok, mixed_⟩
set_option maxRecDepth 100000 in
set_option maxHeartbeats 4000000 in
theorem usC_fun (l : List Upd) (hl : limS l = true) : FunOk Tryd.prog ShaMem 40 true [pv1 (.sl 4 l.length (updF l)), chV 45] (pvB true) := by
  have M := usCM
  obtain ⟨hcs, hln⟩ := lim_facts hl
  have hup := fun k (hk : k ≤ l.length) => upto_take hcs hln k hk
  refine funOk_of Tryd.func40 rfl rfl sha_ext (fun A1 hS hn hI => ?_)
  refine tri_reg M hI hn (outs := ?_) (s' := ?_) ?_ ?_ ?_ ?_
  rotate_left 2
  · rfl
  · kernel_rfl
  · simp
  refine tri_reg M hI hn (outs := ?_) (s' := ?_) ?_ ?_ ?_ ?_
  rotate_left 2
  · rfl
  · kernel_rfl
  · simp
  refine tri_seq ?_
  refine tri_reg M hI hn (outs := ?_) (s' := ?_) ?_ ?_ ?_ ?_
  rotate_left 2
  · rfl
  · kernel_rfl
  · simp
  refine tri_cond (b := ?_) ?_ (fun hc => ?_) (fun hc => ?_)
  rotate_left 1
  · rfl
  · cases hc
  · refine tri_skip ?_
    change Tri _ _ _ _ _
    refine tri_seq ?_
    refine tri_reg M hI hn (outs := ?_) (s' := ?_) ?_ ?_ ?_ ?_
    rotate_left 2
    · rfl
    · kernel_rfl
    · simp
    refine tri_block ?_
    refine tri_conv (s' := usSt 45 l (updsF (l.take 0) zeroFl) 0) (fun a w hg => (hg.reset (kT := [1, 5, 19, 20, 21]) (kO := [1004]) (by rfl) (by simp)).same ?_ ?_) ?_
    · exact .cons rfl (.cons rfl (.cons rfl (.cons rfl (.cons rfl .nil))))
    · exact .cons (.box rfl) .nil
    refine tri_loop l.length (fun k t => t = usSt 45 l (updsF (l.take k) zeroFl) k) 0 rfl (by omega) (fun k t hJ hk => ?_)
    subst hJ
    refine tri_reg M hI hn (outs := ?_) (s' := ?_) ?_ ?_ ?_ ?_
    rotate_left 2
    · rfl
    · kernel_rfl
    · simp
    refine tri_seq ?_
    refine tri_cond (b := ?_) ?_ (fun hc => ?_) (fun hc => ?_)
    rotate_left 1
    · rfl
    · have hk2 : k < l.length := by have := of_decide_eq_true hc; omega
      have hupk := hup k hk
      have hx : l.getD k ⟨0, noBytes, 0, 0⟩ = l[k] := by rw [List.getD_eq_getElem?_getD, List.getElem?_eq_getElem hk2]; rfl
      have hnx : updsF (l.take (k + 1)) zeroFl = (putF (updsF (l.take k) zeroFl) (nrm l[k])).1 := by
        rw [List.take_add_one, List.getElem?_eq_getElem hk2]
        exact updsF_snoc _ _ _
      have hfine : Fine (updsF (l.take k) zeroFl) (nrm l[k]) := upto_fine hupk (by omega) (hcs _ (List.getElem_mem hk2))
      generalize updsF (l.take k) zeroFl = f at hupk hnx hfine ⊢
      refine tri_skip ?_
      change Tri _ _ _ _ _
      refine tri_seq ?_
      refine tri_block ?_
      refine tri_reg M hI hn (outs := ?_) (s' := ?_) ?_ ?_ ?_ ?_
      rotate_left 2
      · rfl
      · kernel_rfl
      · simp
        omega
      refine tri_reg M hI hn (outs := ?_) (s' := ?_) ?_ ?_ ?_ ?_
      rotate_left 2
      · rfl
      · kernel_rfl
      · simp
      refine tri_reg M hI hn (outs := ?_) (s' := ?_) ?_ ?_ ?_ ?_
      rotate_left 2
      · rfl
      · kernel_rfl
      · simp
        rw [show l[k]?.getD ⟨0, noBytes, 0, 0⟩ = l[k] from by rw [List.getElem?_eq_getElem hk2]; rfl]
        exact hfine
      have hsome := putF_some hfine
      obtain ⟨⟨g, o, wh, A⟩, hput⟩ : ∃ x, putF f (nrm l[k]) = x := ⟨_, rfl⟩
      rw [hput] at hnx hsome
      dsimp only at hnx hsome
      have hput2 : putF (fsRow f.length (fsF f)) (nrm (l.getD k ⟨0, noBytes, 0, 0⟩)) = (g, o, wh, A) := by rw [fsRow_fsF, hx, hput]
      refine tri_conv (s' := us2St 45 l f k (nrm l[k]) g o wh A) (fun a w hg => (hg.reset (kT := [8, 9, 10, 11, 12, 1, 5, 19, 20, 21]) (kO := [6002, 8008, 8009, 1004]) (by rfl) (by simp)).same ?_ ?_) ?_
      · refine .cons rfl (.cons rfl (.cons rfl (.cons ?_ (.cons ?_ (.cons rfl (.cons rfl (.cons rfl (.cons rfl (.cons rfl .nil)))))))))
        · change pvB (putF (fsRow f.length (fsF f)) (nrm (l.getD k ⟨0, noBytes, 0, 0⟩))).2.2.1 = _
          rw [hput2]
        · change pv1 (.sl 4 (putF (fsRow f.length (fsF f)) (nrm (l.getD k ⟨0, noBytes, 0, 0⟩))).2.2.2.length (accF (putF (fsRow f.length (fsF f)) (nrm (l.getD k ⟨0, noBytes, 0, 0⟩))).2.2.2)) = _
          rw [hput2]
      · refine .cons (.box ?_) (.cons (.box ?_) (.cons (.box ?_) (.cons (.box rfl) .nil)))
        · change updPC (nrm (l.getD k ⟨0, noBytes, 0, 0⟩)) = _
          rw [hx]
        · change flPC (putF (fsRow f.length (fsF f)) (nrm (l.getD k ⟨0, noBytes, 0, 0⟩))).1 = _
          rw [hput2]
        · change stoPC (putF (fsRow f.length (fsF f)) (nrm (l.getD k ⟨0, noBytes, 0, 0⟩))).2.1 = _
          rw [hput2]
      have hpre : ChkPre f (nrm l[k]) g o wh A := ⟨hfine, hput⟩
      clear hput hput2 hfine
      generalize nrm l[k] = u at hpre ⊢
      obtain ⟨ur, uc, ux, ub⟩ := u
      refine tri_seq ?_
      refine tri_reg M hI hn (outs := ?_) (s' := ?_) ?_ ?_ ?_ ?_
      rotate_left 2
      · rfl
      · kernel_rfl
      · simp
        exact ⟨hsome, A, rfl, fun _ _ => rfl, hpre⟩
      refine tri_cond (b := ?_) ?_ (fun hc => ?_) (fun hc => ?_)
      rotate_left 1
      · rfl
      · cases hc
      · refine tri_skip ?_
        change Tri _ _ _ _ _
        refine tri_region M hI hn (outs := ?_) (s' := ?_) ?_ ?_ ?_ ?_
        rotate_left 2
        · rfl
        · kernel_rfl
        · simp
        change Tri _ _ _ _ _
        refine tri_region M hI hn (outs := ?_) (s' := ?_) ?_ ?_ ?_ ?_
        rotate_left 2
        · rfl
        · kernel_rfl
        · simp
        intro a w hg
        refine ⟨k + 1, _, by omega, by omega, rfl, (hg.reset (kT := [1, 5, 19, 20, 21]) (kO := [1004]) (by rfl) (by simp)).same ?_ ?_⟩
        · exact .cons rfl (.cons rfl (.cons rfl (.cons rfl (.cons (by rw [wrap_nat k (by omega)]) .nil))))
        · exact .cons (.box (by rw [hnx]; rfl)) .nil
    · refine tri_exit ?_
      change Tri _ _ _ _ _
      refine tri_reg M hI hn (outs := ?_) (s' := ?_) ?_ ?_ ?_ ?_
      rotate_left 2
      · rfl
      · kernel_rfl
      · simp
      refine tri_ret (fun a w hg => ⟨.inr rfl, _, ?_, hg⟩)
      refine retTo_cold (out := ?_) ?_ ?_ ?_ ?_ ?_
      rotate_left 1
      · rfl
      · simp
      · rfl
      · rfl
      rfl
set_option maxRecDepth 100000 in
set_option maxHeartbeats 1000000 in
theorem law_access (l : List Upd) (hl : l.length ≤ 9223372036854775807) : FunOk Tryd.prog ShaMem 10 true [pv1 (.sl 4 l.length (updF l))] (pvB true) := by
  have M := lwM usC_fun
  refine funOk_of Tryd.func10 rfl rfl sha_ext (fun A hS hn hI => ?_)
  refine tri_reg M hI hn (outs := ?_) (s' := ?_) ?_ ?_ ?_ ?_
  rotate_left 2
  · rfl
  · kernel_rfl
  · simp
  refine tri_seq ?_
  refine tri_reg M hI hn (outs := ?_) (s' := ?_) ?_ ?_ ?_ ?_
  rotate_left 2
  · rfl
  · kernel_rfl
  · simp
    exact hl
  rw [rowUpd_updF]
  refine tri_cond (b := ?_) ?_ (fun hc => ?_) (fun hc => ?_)
  rotate_left 1
  · rfl
  · refine tri_reg M hI hn (outs := ?_) (s' := ?_) ?_ ?_ ?_ ?_
    rotate_left 2
    · rfl
    · kernel_rfl
    · simp
    refine tri_ret (fun a w hg => ⟨.inr rfl, _, ?_, hg⟩)
    refine retTo_cold (out := ?_) ?_ ?_ ?_ ?_ ?_
    rotate_left 1
    · rfl
    · simp
    · rfl
    · rfl
    rfl
  · have h : limS l = true := by simpa using hc
    refine tri_skip ?_
    change Tri _ _ _ _ _
    refine tri_reg M hI hn (outs := ?_) (s' := ?_) ?_ ?_ ?_ ?_
    rotate_left 2
    · rfl
    · kernel_rfl
    · simp
      exact h
    refine tri_ret (fun a w hg => ⟨.inr rfl, _, ?_, hg⟩)
    refine retTo_cold (out := ?_) ?_ ?_ ?_ ?_ ?_
    rotate_left 1
    · rfl
    · simp
    · rfl
    · rfl
    rfl
end Go.Proofs.YtoefmncdloffaaaDoor.Pv
