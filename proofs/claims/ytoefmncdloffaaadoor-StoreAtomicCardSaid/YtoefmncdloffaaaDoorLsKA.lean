
import Derived.Test.YtoefmncdloffaaaDoorLsK
namespace Go.Proofs.YtoefmncdloffaaaDoor.Pv
open Go.RowKit
def atSt (_ : Fl) (u : Upd) (_ : Fl) (o : StO) (wh : Bool) (b c : StO) : St := ⟨[(4, none, pvB wh), (7, none, pv1 (.pt 1 0 0)), (9, none, pv1 (.pt 3 0 0)), (13, none, pv1 (.pt 1007 0 0)), (15, none, pv1 (.pt 2007 0 0))], [(1, none, 0, .box 74 (updPC u)), (3, none, 0, .box 61 (stoPC o)), (1007, none, 0, .box 61 (stoPC b)), (2007, none, 0, .box 61 (stoPC c))]⟩
theorem wrap_seq {s : Int} (h0 : 0 ≤ s) (h1 : s ≤ 1099511627776) : IntKind.i64.wrap (s + 1) = s + 1 := by rw [IntKind.wrap_i64]; omega
theorem imp_or3 {a b c : Prop} (h : a → b → ¬ c) : ¬ a ∨ ¬ b ∨ ¬ c := by
  by_cases ha : a
  · by_cases hb : b
    · exact .inr (.inr (h ha hb))
    · exact .inr (.inl hb)
  · exact .inl ha
set_option maxRecDepth 100000 in
set_option maxHeartbeats 2000000 in
theorem atom_fun (f : Fl) (u : Upd) (g : Fl) (o : StO) (wh : Bool) (A : List Acc) (h : ChkPre f u g o wh A) : FunOk Tryd.prog ShaMem 41 true (chkArgs f u g o wh A) (pvB true) := by
  have M := ls6M
  obtain ⟨hf, hput⟩ := h
  have hsf := hf.sz
  have hsg : Sz g := by have := (put_ok hf).sz; rw [hput] at this; exact this
  have h0 := hf.r0
  have h3 := hf.r3
  have hc2 := hf.c
  have hW := fun hw => atomic_whole hf hw
  have hT := fun hw => atomic_torn hf hw
  have hb := getF_range f u.rec_
  have hc := getF_range g u.rec_
  have hcs := getF_size g u.rec_
  rw [hput] at hW hT
  dsimp only at hW hT
  refine funOk_of Tryd.func41 rfl rfl sha_ext (fun A1 hS hn hI => ?_)
  unfold chkArgs
  refine tri_reg M hI hn (outs := ?_) (s' := ?_) ?_ ?_ ?_ ?_
  rotate_left 2
  · rfl
  · kernel_rfl
  · simp
  refine tri_reg M hI hn (outs := ?_) (s' := ?_) ?_ ?_ ?_ ?_
  rotate_left 2
  · rfl
  · kernel_rfl
  · simp []
    exact ⟨hsf, h0, h3⟩
  refine tri_reg M hI hn (outs := ?_) (s' := ?_) ?_ ?_ ?_ ?_
  rotate_left 2
  · rfl
  · kernel_rfl
  · simp []
    exact ⟨hsg, h0, h3⟩
  refine tri_conv (s' := atSt f u g o wh (getF f u.rec_) (getF g u.rec_)) (fun a w hg => (hg.reset (kT := [4, 7, 9, 13, 15]) (kO := [1, 3, 1007, 2007]) (by rfl) (by simp)).same ?_ ?_) ?_
  · exact .cons rfl (.cons rfl (.cons rfl (.cons rfl (.cons rfl .nil))))
  · refine .cons (.box rfl) (.cons (.box rfl) (.cons (.box ?_) (.cons (.box ?_) .nil)))
    · change stoPC (getF (fsRow f.length (fsF f)) u.rec_) = _
      rw [fsRow_fsF]
    · change stoPC (getF (fsRow g.length (fsF g)) u.rec_) = _
      rw [fsRow_fsF]
  generalize getF f u.rec_ = b at hb hW hT ⊢
  generalize getF g u.rec_ = c at hc hcs hW hT ⊢
  obtain ⟨bc, bs, be⟩ := b
  obtain ⟨cc, cs, ce⟩ := c
  dsimp only at hb hc hcs hW hT
  refine tri_seq ?_
  refine tri_reg M hI hn (outs := ?_) (s' := ?_) ?_ ?_ ?_ ?_
  rotate_left 2
  · rfl
  · kernel_rfl
  · simp
  refine tri_cond (b := ?_) ?_ (fun hc => ?_) (fun hc => ?_)
  rotate_left 1
  · rfl
  · have hw : wh = true := hc
    obtain ⟨e1, e2⟩ := hW hw
    cases e1
    subst e2
    refine tri_reg M hI hn (outs := ?_) (s' := ?_) ?_ ?_ ?_ ?_
    rotate_left 2
    · rfl
    · kernel_rfl
    · simp
    refine tri_ret (fun a w hg => ⟨.inr rfl, _, ?_, hg⟩)
    refine retTo_cold (out := ?_) ?_ ?_ ?_ ?_ ?_
    rotate_left 1
    · rfl
    · simp
    · rfl
    · rfl
    refine congrArg pvB (?_ : _ = true)
    simp [wrap_seq hb.1 hb.2]
  · have hw : wh = false := hc
    have hT := hT hw
    refine tri_skip ?_
    change Tri _ _ _ _ _
    refine tri_reg M hI hn (outs := ?_) (s' := ?_) ?_ ?_ ?_ ?_
    rotate_left 2
    · rfl
    · kernel_rfl
    · simp []
      exact ⟨imp_or3, fun _ _ => ⟨⟨by omega, by omega⟩, by rw [wrap_seq hb.1 hb.2]; exact ⟨by omega, by omega⟩, ⟨by omega, by omega⟩, by omega, by omega⟩, fun k1 k2 => ⟨imp_or3 k1, imp_or3 k2⟩⟩
    refine tri_ret (fun a w hg => ⟨.inr rfl, _, ?_, hg⟩)
    refine retTo_cold (out := ?_) ?_ ?_ ?_ ?_ ?_
    rotate_left 1
    · rfl
    · simp
    · rfl
    · rfl
    refine congrArg pvB (?_ : _ = true)
    have hw1 := wrap_seq hb.1 hb.2
    rcases hT with e | e | e
    · cases e; simp
    · cases e; simp [hw1]
    · simp only [hw1]
      rw [e]
      simp
end Go.Proofs.YtoefmncdloffaaaDoor.Pv
