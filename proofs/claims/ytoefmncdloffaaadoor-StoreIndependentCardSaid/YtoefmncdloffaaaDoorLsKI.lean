
import Derived.Test.YtoefmncdloffaaaDoorLsK
namespace Go.Proofs.YtoefmncdloffaaaDoor.Pv
open Go.RowKit
def inSt (f : Fl) (u : Upd) (g : Fl) (k : Nat) : St := ⟨[(6, none, pv1 (.pt 0 0 0)), (7, none, pv1 (.pt 1 0 0)), (8, none, pv1 (.pt 2 0 0)), (18, none, pvI (k : Int))], [(0, none, 0, .box 72 (flPC f)), (1, none, 0, .box 74 (updPC u)), (2, none, 0, .box 72 (flPC g))]⟩
def in2St (f : Fl) (u : Upd) (g : Fl) (k : Nat) (b c : StO) : St := ⟨[(6, none, pv1 (.pt 0 0 0)), (7, none, pv1 (.pt 1 0 0)), (8, none, pv1 (.pt 2 0 0)), (18, none, pvI (k : Int)), (13, none, pvI (k : Int)), (14, none, pv1 (.pt 4006 0 0)), (16, none, pv1 (.pt 5006 0 0))], [(0, none, 0, .box 72 (flPC f)), (1, none, 0, .box 74 (updPC u)), (2, none, 0, .box 72 (flPC g)), (4006, none, 0, .box 61 (stoPC b)), (5006, none, 0, .box 61 (stoPC c))]⟩
set_option maxRecDepth 100000 in
set_option maxHeartbeats 2000000 in
theorem indep_fun (f : Fl) (u : Upd) (g : Fl) (o : StO) (wh : Bool) (A : List Acc) (h : ChkPre f u g o wh A) : FunOk Tryd.prog ShaMem 44 true (chkArgs f u g o wh A) (pvB true) := by
  have M := ls6M
  obtain ⟨hf, hput⟩ := h
  have hsf := hf.sz
  have hsg : Sz g := by have := (put_ok hf).sz; rw [hput] at this; exact this
  have hI0 := fun (rec : Int) h0 h3 hne => indep hf (rec := rec) h0 h3 hne
  rw [hput] at hI0
  dsimp only at hI0
  refine funOk_of Tryd.func44 rfl rfl sha_ext (fun A1 hS hn hI => ?_)
  unfold chkArgs
  refine tri_reg M hI hn (outs := ?_) (s' := ?_) ?_ ?_ ?_ ?_
  rotate_left 2
  · rfl
  · kernel_rfl
  · simp
  refine tri_seq ?_
  refine tri_reg M hI hn (outs := ?_) (s' := ?_) ?_ ?_ ?_ ?_
  rotate_left 2
  · rfl
  · kernel_rfl
  · simp
  refine tri_block ?_
  refine tri_conv (s' := inSt f u g 0) (fun a w hg => (hg.reset (kT := [6, 7, 8, 18]) (kO := [0, 1, 2]) (by rfl) (by simp)).same ?_ ?_) ?_
  · exact .cons rfl (.cons rfl (.cons rfl (.cons rfl .nil)))
  · exact .cons (.box rfl) (.cons (.box rfl) (.cons (.box rfl) .nil))
  refine tri_loop 4 (fun k t => t = inSt f u g k) 0 rfl (by omega) (fun k t hJ hk => ?_)
  subst hJ
  refine tri_reg M hI hn (outs := ?_) (s' := ?_) ?_ ?_ ?_ ?_
  rotate_left 2
  · rfl
  · kernel_rfl
  · simp
  refine tri_seq ?_
  refine tri_cond (b := ?_) ?_ (fun hc => ?_) (fun hc => ?_)
  rotate_left 1
  · rfl
  · have hk2 : k < 4 := by have := of_decide_eq_true hc; omega
    refine tri_skip ?_
    change Tri _ _ _ _ _
    refine tri_seq ?_
    refine tri_block ?_
    refine tri_reg M hI hn (outs := ?_) (s' := ?_) ?_ ?_ ?_ ?_
    rotate_left 2
    · rfl
    · kernel_rfl
    · simp
    refine tri_reg M hI hn (outs := ?_) (s' := ?_) ?_ ?_ ?_ ?_
    rotate_left 2
    · rfl
    · kernel_rfl
    · simp
      exact ⟨hsf, by omega⟩
    refine tri_reg M hI hn (outs := ?_) (s' := ?_) ?_ ?_ ?_ ?_
    rotate_left 2
    · rfl
    · kernel_rfl
    · simp
      exact ⟨hsg, by omega⟩
    refine tri_conv (s' := in2St f u g k (getF f (k : Int)) (getF g (k : Int))) (fun a w hg => (hg.reset (kT := [6, 7, 8, 18, 13, 14, 16]) (kO := [0, 1, 2, 4006, 5006]) (by rfl) (by simp)).same ?_ ?_) ?_
    · exact .cons rfl (.cons rfl (.cons rfl (.cons rfl (.cons rfl (.cons rfl (.cons rfl .nil))))))
    · refine .cons (.box rfl) (.cons (.box rfl) (.cons (.box rfl) (.cons (.box ?_) (.cons (.box ?_) .nil))))
      · change stoPC (getF (fsRow f.length (fsF f)) (k : Int)) = _
        rw [fsRow_fsF]
      · change stoPC (getF (fsRow g.length (fsF g)) (k : Int)) = _
        rw [fsRow_fsF]
    have hne := hI0 (k : Int) (by omega) (by omega)
    generalize getF f (k : Int) = b at hne ⊢
    generalize getF g (k : Int) = c at hne ⊢
    refine tri_reg M hI hn (outs := ?_) (s' := ?_) ?_ ?_ ?_ ?_
    rotate_left 2
    · rfl
    · kernel_rfl
    · simp
    refine tri_cond (b := ?_) ?_ (fun hc => ?_) (fun hc => ?_)
    rotate_left 1
    · rfl
    · exfalso
      have hc2 : (bif (k : Int) != u.rec_ then !(b.content.toList == c.content.toList && (b.seq == c.seq && (b.err == c.err && true))) else false) = true := hc
      by_cases hr : (k : Int) = u.rec_
      · rw [hr] at hc2
        simp at hc2
      · rw [hne hr] at hc2
        simp at hc2
    · refine tri_skip ?_
      change Tri _ _ _ _ _
      refine tri_region M hI hn (outs := ?_) (s' := ?_) ?_ ?_ ?_ ?_
      rotate_left 2
      · rfl
      · kernel_rfl
      · simp
      intro a w hg
      refine ⟨k + 1, _, by omega, by omega, rfl, (hg.reset (kT := [6, 7, 8, 18]) (kO := [0, 1, 2]) (by rfl) (by simp)).same ?_ ?_⟩
      · exact .cons rfl (.cons rfl (.cons rfl (.cons (by rw [wrap_nat k (by omega)]) .nil)))
      · exact .cons (.box rfl) (.cons (.box rfl) (.cons (.box rfl) .nil))
  · refine tri_exit ?_
    change Tri _ _ _ _ _
    refine tri_reg M hI hn (outs := ?_) (s' := ?_) ?_ ?_ ?_ ?_
    rotate_left 2
    · rfl
    · kernel_rfl
    · simp
    refine tri_ret (fun a w hg => ⟨.inr rfl, _, ?_, hg⟩)
    refine retTo_cold (out := ?_) ?_ ?_ ?_ ?_ ?_
    rotate_left 1
    · rfl
    · simp
    · rfl
    · rfl
    rfl
end Go.Proofs.YtoefmncdloffaaaDoor.Pv
