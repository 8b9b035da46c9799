
import Derived.Test.YtplkplegjoabgaaGreatDoorGzO
namespace Go.Proofs.YtplkplegjoabgaaGreatDoor.Pv
open Go.RowKit
def f3L : List (Nat × Spec) := [(9, sp26San), (10, funSpec true nextG), (11, funSpec true nextG), (12, funSpec true out26G)]
theorem f3_ok : ∀ p ∈ f3L, SpecOk Tryz.prog ShaMem p.1 p.2 := by
  intro p hp
  simp only [f3L, List.mem_cons, List.not_mem_nil, or_false] at hp
  rcases hp with rfl | rfl | rfl | rfl
  · exact san26_spec
  · exact next_spec
  · exact rnext_spec
  · exact same26_spec
theorem f3M : Mach Tryz.prog ShaMem (find f3L) := ⟨specs_of f3_ok, mixed_⟩
def f3St (a : Acc) (x : Sig × Int) (d : Bool) : St :=
  ⟨[(7, none, pvB true), (8, none, pv1 (.pt 8009 0 0)), (9, none, pv1 (.pt 8010 0 0)), (10, none, pvB d), (11, none, pv1 (.pt 9009 0 0)), (12, none, pv1 (.pt 9010 0 0)), (13, none, pvB d)],
   [(8009, none, 0, .box 29 (accPC a)), (8010, none, 0, .box 35 (sgC x)), (9009, none, 0, .box 29 (accPC a)), (9010, none, 0, .box 35 (sgC x))]⟩
set_option maxRecDepth 100000 in
set_option maxHeartbeats 2000000 in
theorem match_law (seed m : List UInt8) (h : Int) (log : List Res) : FunOk Tryz.prog ShaMem 3 true [.w (.agg [.bs 16 seed, .lit (.int .i64 h), .bs 16 m, .sl 2 log.length (resF log)])] (pvB true) := by
  have M := f3M
  have hnx : rowRes log.length (fun i => resF log (0 + i)) = log := by simp only [Nat.zero_add]; exact rowRes_resF log
  have hsm := nextR_small seed m h log
  obtain ⟨x, hx⟩ : ∃ x, nextR seed m h log = x := ⟨_, rfl⟩
  rw [hx] at hsm
  obtain ⟨⟨ak, ab, ac, az⟩, ⟨⟨ix, ch, pt⟩, er⟩, dn⟩ := x
  refine funOk_of Tryz.func3 rfl rfl sha_ext (fun A hS hn hI => ?_)
  refine tri_reg M hI hn (outs := ?_) (s' := ?_) ?_ ?_ ?_ ?_
  rotate_left 2
  · rfl
  · kernel_rfl
  · simp
  refine tri_reg M hI hn (outs := ?_) (s' := ?_) ?_ ?_ ?_ ?_
  rotate_left 2
  · rfl
  · kernel_rfl
  · simp
  refine tri_reg M hI hn (outs := ?_) (s' := ?_) ?_ ?_ ?_ ?_
  rotate_left 2
  · rfl
  · kernel_rfl
  · simp
  refine tri_reg M hI hn (outs := ?_) (s' := ?_) ?_ ?_ ?_ ?_
  rotate_left 2
  · rfl
  · kernel_rfl
  · simp
  refine tri_reg M hI hn (outs := ?_) (s' := ?_) ?_ ?_ ?_ ?_
  rotate_left 2
  · rfl
  · kernel_rfl
  · simp
  refine tri_reg M hI hn (outs := ?_) (s' := ?_) ?_ ?_ ?_ ?_
  rotate_left 2
  · rfl
  · kernel_rfl
  · simp
  refine tri_seq ?_
  refine tri_reg M hI hn (outs := ?_) (s' := ?_) ?_ ?_ ?_ ?_
  rotate_left 2
  · rfl
  · kernel_rfl
  · simp
  refine tri_cond (b := ?_) ?_ (fun hc => ?_) (fun hc => ?_)
  rotate_left 1
  · rfl
  · refine tri_reg M hI hn (outs := ?_) (s' := ?_) ?_ ?_ ?_ ?_
    rotate_left 2
    · rfl
    · kernel_rfl
    · simp
    refine tri_ret (fun a w hg => ⟨.inr rfl, _, ?_, hg⟩)
    refine retTo_cold (out := ?_) ?_ ?_ ?_ ?_ ?_
    rotate_left 1
    · rfl
    · simp
    · rfl
    · rfl
    rfl
  · refine tri_skip ?_
    change Tri _ _ _ _ _
    refine tri_reg M hI hn (outs := ?_) (s' := ?_) ?_ ?_ ?_ ?_
    rotate_left 2
    · rfl
    · kernel_rfl
    · simp
    refine tri_reg M hI hn (outs := ?_) (s' := ?_) ?_ ?_ ?_ ?_
    rotate_left 2
    · rfl
    · kernel_rfl
    · simp
    refine tri_conv (s' := f3St ⟨ak, ab, ac, az⟩ (⟨ix, ch, pt⟩, er) dn) (fun a w hg => (hg.reset (kT := [7, 8, 9, 10, 11, 12, 13]) (kO := [8009, 8010, 9009, 9010]) (by rfl) (by simp)).same ?_ ?_) ?_
    · refine .cons rfl (.cons rfl (.cons rfl (.cons ?_ (.cons rfl (.cons rfl (.cons ?_ .nil))))))
      · show pvB (nextR seed m h (rowRes log.length (resF log))).2.2 = _
        rw [rowRes_resF, hx]
      · show pvB (nextR seed m h (rowRes log.length (resF log))).2.2 = _
        rw [rowRes_resF, hx]
    · refine .cons (.box ?_) (.cons (.box ?_) (.cons (.box ?_) (.cons (.box ?_) .nil)))
      · show accPC (nextR seed m h (rowRes log.length (resF log))).1 = _
        rw [rowRes_resF, hx]
      · show sgC (nextR seed m h (rowRes log.length (resF log))).2.1 = _
        rw [rowRes_resF, hx]
      · show accPC (nextR seed m h (rowRes log.length (resF log))).1 = _
        rw [rowRes_resF, hx]
      · show sgC (nextR seed m h (rowRes log.length (resF log))).2.1 = _
        rw [rowRes_resF, hx]
    refine tri_reg M hI hn (outs := ?_) (s' := ?_) ?_ ?_ ?_ ?_
    rotate_left 2
    · with_unfolding_all rfl
    · kernel_rfl
    · simp
      exact ⟨trivial, trivial, trivial, trivial, Nat.lt_of_le_of_lt hsm.1 (by decide), Nat.lt_of_le_of_lt hsm.2 (by decide)⟩
    refine tri_ret (fun a w hg => ⟨.inr rfl, _, ?_, hg⟩)
    refine retTo_cold (out := ?_) ?_ ?_ ?_ ?_ ?_
    rotate_left 1
    · rfl
    · simp
    · rfl
    · rfl
    refine congrArg pvB ?_
    simp [outEqB, sigEqB]
end Go.Proofs.YtplkplegjoabgaaGreatDoor.Pv
