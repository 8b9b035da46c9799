/-
  The law QuorumApprove.
-/
import Derived.Test.YtplkplegjoabgaaGreatDoorQzO
namespace Go.Proofs.YtplkplegjoabgaaGreatDoor.Pv
open Go.RowKit

theorem fewP_of {l : List Sgd} (hfew : fewS l = true) : fewP l := by
  unfold fewS at hfew
  rw [Bool.and_eq_true] at hfew
  have h8 := of_decide_eq_true hfew.1
  refine ⟨by omega, fun x hx => ?_⟩
  obtain ⟨i, hi, rfl⟩ := List.getElem_of_mem hx
  have := of_decide_eq_true (all_range.1 hfew.2 i hi)
  rw [List.getD_eq_getElem?_getD, List.getElem?_eq_getElem hi] at this
  have := this.2
  simp only [Option.getD_some] at this
  omega
theorem fewB_of {m : R4} {L : List Sgd} {T : List ByteArray} (h : fewB m L T = true) : fewP L ∧ m.l.length ≤ 5 ∧ ∀ c ∈ T, c.size ≤ 10000 := by
  unfold fewB at h
  rw [Bool.and_eq_true] at h
  obtain ⟨_, h2, h3⟩ := of_decide_eq_true h.1
  refine ⟨fewP_of h3, h2, fun c hc => ?_⟩
  obtain ⟨i, hi, rfl⟩ := List.getElem_of_mem hc
  have := of_decide_eq_true (all_range.1 h.2 i hi)
  rw [List.getD_eq_getElem?_getD, List.getElem?_eq_getElem hi] at this
  simp only [Option.getD_some] at this
  omega
theorem rotS_fst {s n : R4} {l : List Sgd} (hn : R4Ok n) (hl : n.l.length ≤ 10) : R4Ok (rotS s n l).1 ∧ (rotS s n l).1.l.length ≤ 10 := by
  have hz : R4Ok zeroR4 := ⟨by unfold zeroR4 i64P; dsimp only; omega, by unfold zeroR4 i64P; dsimp only; omega, by unfold zeroR4 i64P; dsimp only; omega, D16.nil⟩
  have hz2 : zeroR4.l.length ≤ 10 := by decide
  unfold rotS
  split
  · split
    · split
      · exact ⟨hn, hl⟩
      · exact ⟨hz, hz2⟩
    · exact ⟨hz, hz2⟩
  · exact ⟨hz, hz2⟩
theorem ksSame_self (s : R4) : ksSame s s = true := decide_eq_true ⟨rfl, rfl, rfl, rfl⟩
def lwSt (x : R4 × Int) (s m : R4) (L : List Sgd) (T : List ByteArray) : St := ⟨[(3, none, pv1 (.pt 0 0 0)), (4, none, pv1 (.pt 1 0 0)), (7, none, pvB true), (8, none, pv1 (.pt 4006 0 0)), (9, none, pvI x.2), (10, none, pv1 (.pt 5006 0 0)), (11, none, pvI x.2)],
  [(0, none, 0, .box 70 (r4L s)), (1, none, 0, .box 75 (bunL m L T)), (4006, none, 0, .box 70 (r4L x.1)), (5006, none, 0, .box 70 (r4L x.1))]⟩
set_option maxRecDepth 100000 in
set_option maxHeartbeats 2000000 in
theorem qappr_law (s m n : R4) (hs : R4Ok s) (hm : R4Ok m) (hn0 : R4Ok n) (L l : List Sgd) (T : List ByteArray) : FunOk Tryz.prog ShaMem 7 true [r4PV s, .w (.agg (bunL m L T)), .w (.agg (rotnL n l))] (pvB true) := by
  have M := qur5M
  have hsi : i64P s.a ∧ i64P s.b ∧ i64P s.c := ⟨hs.a, hs.b, hs.c⟩
  have hmi : i64P m.a ∧ i64P m.b ∧ i64P m.c := ⟨hm.a, hm.b, hm.c⟩
  have hni : i64P n.a ∧ i64P n.b ∧ i64P n.c := ⟨hn0.a, hn0.b, hn0.c⟩
  refine funOk_of Tryz.func7 rfl rfl sha_ext (fun A hS hn hI => ?_)
  refine tri_reg M hI hn (outs := ?_) (s' := ?_) ?_ ?_ ?_ ?_
  rotate_left 2
  · rfl
  · kernel_rfl
  · simp
  refine tri_reg M hI hn (outs := ?_) (s' := ?_) ?_ ?_ ?_ ?_
  rotate_left 2
  · rfl
  · kernel_rfl
  · simp
  refine tri_seq ?_
  refine tri_reg M hI hn (outs := ?_) (s' := ?_) ?_ ?_ ?_ ?_
  rotate_left 2
  · rfl
  · kernel_rfl
  · simp
    exact fun _ _ => hmi
  rw [rowD_digF, rowSgd_sgdF L, rowStr_strF, rowSgd_sgdF l]
  refine tri_cond (b := ?_) ?_ (fun hc => ?_) (fun hc => ?_)
  rotate_left 1
  · rfl
  · refine tri_reg M hI hn (outs := ?_) (s' := ?_) ?_ ?_ ?_ ?_
    rotate_left 2
    · rfl
    · kernel_rfl
    · simp
    refine tri_ret (fun a w hg => ⟨.inr rfl, _, ?_, hg⟩)
    refine retTo_cold (out := ?_) ?_ ?_ ?_ ?_ ?_
    rotate_left 1
    · rfl
    · simp
    · rfl
    · rfl
    rfl
  · have hall : s.l.length ≤ 10 ∧ n.l.length ≤ 10 ∧ fewB m L T = true ∧ fewS l = true := by
      have hc' : (bif bif bif decide ((s.l.length : Int) > 10) then true else decide ((n.l.length : Int) > 10) then true else !fewB m L T then true else !fewS l) = false := hc
      cases h1 : fewB m L T <;> cases h2 : fewS l <;> simp [h1, h2] at hc' ⊢
      omega
    obtain ⟨hsl, hnl, hfb, hfs⟩ := hall
    have hf := fewP_of hfs
    obtain ⟨hfL, hml, hT⟩ := fewB_of hfb
    obtain ⟨hx1, hx2⟩ := rotS_fst (s := s) (l := l) hn0 hnl
    clear hc
    refine tri_skip ?_
    change Tri _ _ _ _ _
    refine tri_reg M hI hn (outs := ?_) (s' := ?_) ?_ ?_ ?_ ?_
    rotate_left 2
    · rfl
    · kernel_rfl
    · simp
      exact ⟨hsi, hni, hf⟩
    refine tri_reg M hI hn (outs := ?_) (s' := ?_) ?_ ?_ ?_ ?_
    rotate_left 2
    · rfl
    · kernel_rfl
    · simp
      exact ⟨hsi, hni, hf⟩
    rw [rowD_digF, rowD_digF, rowSgd_sgdF l]
    generalize hxx : rotS s n l = x at hx1 hx2
    have hxi : i64P x.1.a ∧ i64P x.1.b ∧ i64P x.1.c := ⟨hx1.a, hx1.b, hx1.c⟩
    refine tri_conv (s' := lwSt x s m L T) (fun a w hg => (hg.reset (kT := [3, 4, 7, 8, 9, 10, 11]) (kO := [0, 1, 4006, 5006]) (by rfl) (by simp)).same ?_ ?_) ?_
    · exact .cons rfl (.cons rfl (.cons rfl (.cons rfl (.cons rfl (.cons rfl (.cons rfl .nil))))))
    · exact .cons (.box rfl) (.cons (.box rfl) (.cons (.box rfl) (.cons (.box rfl) .nil)))
    refine tri_reg M hI hn (outs := ?_) (s' := ?_) ?_ ?_ ?_ ?_
    rotate_left 2
    · rfl
    · kernel_rfl
    · simp
      exact ⟨⟨hsi, hmi, hfL, hT⟩, hxi, by omega⟩
    refine tri_ret (fun a w hg => ⟨.inr rfl, _, ?_, hg⟩)
    refine retTo_cold (out := ?_) ?_ ?_ ?_ ?_ ?_
    rotate_left 1
    · rfl
    · simp
    · rfl
    · rfl
    refine congrArg pvB ?_
    rw [rowD_digF x.1.l]
    simp [ksSame_self]

end Go.Proofs.YtplkplegjoabgaaGreatDoor.Pv
