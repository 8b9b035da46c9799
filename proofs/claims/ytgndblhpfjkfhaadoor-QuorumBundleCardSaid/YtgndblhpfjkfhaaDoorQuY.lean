/-
  Package quorum by the abstract machine: manifests, approval.
-/
import Derived.Test.YtgndblhpfjkfhaaDoorQbR
namespace Go.Proofs.YtgndblhpfjkfhaaDoor.Pv
open Go.RowKit

def mValid (m : R4) : Bool := decide (1 ≤ m.b ∧ m.b ≤ m.a ∧ m.a ≤ 16 ∧ 0 ≤ m.c ∧ m.c ≤ 16 ∧ 1 ≤ m.l.length ∧ m.l.length ≤ 4)
def withinS (n lo hi : Int) : Bool := decide (lo ≤ n ∧ n ≤ hi)
set_option maxRecDepth 100000 in
theorem within_fun (n lo hi : Int) : FunOk Tryd.prog ShaMem 123 true [pvI n, pvI lo, pvI hi] (pvB (withinS n lo hi)) := by
  have M := qu7M
  refine funOk_of Tryd.func123 rfl rfl sha_ext (fun A hS hn hI => ?_)
  refine tri_reg M hI hn (outs := ?_) (s' := ?_) ?_ ?_ ?_ ?_
  rotate_left 2
  · rfl
  · kernel_rfl
  · simp
  refine tri_reg M hI hn (outs := ?_) (s' := ?_) ?_ ?_ ?_ ?_
  rotate_left 2
  · rfl
  · kernel_rfl
  · simp
  refine tri_ret (fun a w hg => ⟨.inr rfl, _, ?_, hg⟩)
  refine retTo_cold (out := ?_) ?_ ?_ ?_ ?_ ?_
  rotate_left 1
  · rfl
  · simp
  · rfl
  · rfl
  change pvB _ = pvB _
  refine congrArg pvB (Bool.eq_iff_iff.2 ?_)
  unfold withinS
  simp
def spWithin : Spec := funSpec true fun xs => match xs with
  | [.w (.one (.lit (.int .i64 n))), .w (.one (.lit (.int .i64 lo))), .w (.one (.lit (.int .i64 hi)))] => some (True, pvB (withinS n lo hi))
  | _ => none
theorem within_ok : SpecOk Tryd.prog ShaMem 123 spWithin := by
  refine funSpec_ok (call_enters Tryd.func123 (by kernel_rfl) rfl) (fun xs p r hg hp => ?_)
  split at hg
  · cases hg
    exact within_fun _ _ _
  · cases hg
def quLw : List (Nat × Spec) := (123, spWithin) :: quL7
theorem quw_ok : ∀ p ∈ quLw, SpecOk Tryd.prog ShaMem p.1 p.2 := by
  intro p hp
  simp only [quLw, List.mem_cons] at hp
  rcases hp with rfl | hp
  · exact within_ok
  · exact qu7_ok p hp
theorem quwM : Mach Tryd.prog ShaMem (find quLw) := ⟨specs_of quw_ok, mixed_⟩
set_option maxRecDepth 100000 in
theorem mvalid_fun (m : R4) : FunOk Tryd.prog ShaMem 89 true [r4PV m] (pvB (mValid m)) := by
  have M := quwM
  refine funOk_of Tryd.func89 rfl rfl sha_ext (fun A hS hn hI => ?_)
  refine tri_reg M hI hn (outs := ?_) (s' := ?_) ?_ ?_ ?_ ?_
  rotate_left 2
  · rfl
  · kernel_rfl
  · simp
  refine tri_reg M hI hn (outs := ?_) (s' := ?_) ?_ ?_ ?_ ?_
  rotate_left 2
  · rfl
  · kernel_rfl
  · simp
  refine tri_reg M hI hn (outs := ?_) (s' := ?_) ?_ ?_ ?_ ?_
  rotate_left 2
  · rfl
  · kernel_rfl
  · simp
  refine tri_ret (fun a w hg => ⟨.inr rfl, _, ?_, hg⟩)
  refine retTo_cold (out := ?_) ?_ ?_ ?_ ?_ ?_
  rotate_left 1
  · rfl
  · simp
  · rfl
  · rfl
  change pvB _ = pvB _
  refine congrArg pvB (Bool.eq_iff_iff.2 ?_)
  unfold withinS mValid
  simp
  omega
def quL9 : List (Nat × Spec) := (89, r4Sp (fun _ => True) fun s => pvB (mValid s)) :: quL7
theorem qu9_ok : ∀ p ∈ quL9, SpecOk Tryd.prog ShaMem p.1 p.2 := by
  intro p hp
  simp only [quL9, List.mem_cons] at hp
  rcases hp with rfl | hp
  · exact r4Sp_ok (call_enters Tryd.func89 (by kernel_rfl) rfl) (fun s _ _ => mvalid_fun s)
  · exact qu7_ok p hp
theorem qu9M : Mach Tryd.prog ShaMem (find quL9) := ⟨specs_of qu9_ok, mixed_⟩
/-! ### Approval -/
def stStep (T : List ByteArray) (l : List (List UInt8)) (k : Nat) : Bool := stDig (T.getD k { data := #[] }) == l.getD k []
def stOk (T : List ByteArray) (l : List (List UInt8)) : Bool := (List.range T.length).all (stStep T l)
def apprS (s m : R4) (L : List Sgd) (T : List ByteArray) : Int :=
  if ksValid s = true ∧ mValid m = true ∧ T.length = m.l.length then (if m.c > s.a then 14 else (if stOk T m.l = true then checkS s (r4Dig 12 m) L else 8)) else 1
def bunL (m : R4) (L : List Sgd) (T : List ByteArray) : List PC := [.lit (.int .i64 m.a), .lit (.int .i64 m.b), .lit (.int .i64 m.c), .sl 16 m.l.length (digF m.l), .sl 4 L.length (sgdF L), .sl 1 T.length (strF T)]
def apSt (s m : R4) (L : List Sgd) (T : List ByteArray) (k : Nat) : St := ⟨[(2, none, pv1 (.pt 0 0 0)), (3, none, pv1 (.pt 1 0 0)), (5, none, pv1 (.pt 1002 0 0)), (33, none, pv1 (.sl 1 T.length (strF T))), (34, none, pvI T.length), (35, none, pvI k)],
  [(0, none, 0, .box 54 (r4L s)), (1, none, 0, .box 83 (bunL m L T)), (1002, none, 0, .box 79 (r4L m))]⟩
theorem mValid_len {m : R4} (h : mValid m = true) : m.l.length ≤ 4 := by
  have := of_decide_eq_true h
  omega
set_option maxRecDepth 100000 in
set_option maxHeartbeats 1000000 in
theorem approve_fun (s m : R4) (hs : R4Ok s) (hm : R4Ok m) (L : List Sgd) (hf : fewP L) (T : List ByteArray) (hT : ∀ c ∈ T, c.size ≤ 10000) : FunOk Tryd.prog ShaMem 48 true [r4PV s, .w (.agg (bunL m L T))] (pvI (apprS s m L T)) := by
  have M := qu9M
  have hsi : i64P s.a ∧ i64P s.b ∧ i64P s.c := ⟨hs.a, hs.b, hs.c⟩
  have hmi : i64P m.a ∧ i64P m.b ∧ i64P m.c := ⟨hm.a, hm.b, hm.c⟩
  refine funOk_of Tryd.func48 rfl rfl sha_ext (fun A hS hn hI => ?_)
  refine tri_reg M hI hn (outs := ?_) (s' := ?_) ?_ ?_ ?_ ?_
  rotate_left 2
  · rfl
  · kernel_rfl
  · simp
  refine tri_reg M hI hn (outs := ?_) (s' := ?_) ?_ ?_ ?_ ?_
  rotate_left 2
  · rfl
  · kernel_rfl
  · simp
  refine tri_seq ?_
  refine tri_reg M hI hn (outs := ?_) (s' := ?_) ?_ ?_ ?_ ?_
  rotate_left 2
  · rfl
  · kernel_rfl
  · simp
    exact ⟨hsi, fun _ => hmi⟩
  rw [rowD_digF, rowD_digF]
  refine tri_cond (b := ?_) ?_ (fun hc => ?_) (fun hc => ?_)
  rotate_left 1
  · rfl
  · have hc' : (bif (bif (!ksValid s) then true else !mValid m) then true else ((T.length : Int) != (m.l.length : Int))) = true := hc
    have he : apprS s m L T = 1 := by
      unfold apprS
      rw [if_neg (fun h => by rw [h.1, h.2.1, h.2.2] at hc'; simp at hc')]
    refine tri_reg M hI hn (outs := ?_) (s' := ?_) ?_ ?_ ?_ ?_
    rotate_left 2
    · rfl
    · kernel_rfl
    · simp
    refine tri_ret (fun a w hg => ⟨.inr rfl, _, ?_, hg⟩)
    refine retTo_cold (out := ?_) ?_ ?_ ?_ ?_ ?_
    rotate_left 1
    · rfl
    · simp
    · rfl
    · rfl
    rw [he]
  · have hc' : (bif (bif (!ksValid s) then true else !mValid m) then true else ((T.length : Int) != (m.l.length : Int))) = false := hc
    have hv : ksValid s = true ∧ mValid m = true ∧ T.length = m.l.length := by
      cases h1 : ksValid s <;> cases h2 : mValid m <;> simp [h1, h2] at hc' ⊢
      omega
    have hml := mValid_len hv.2.1
    refine tri_skip ?_
    change Tri _ _ _ _ _
    refine tri_seq ?_
    refine tri_reg M hI hn (outs := ?_) (s' := ?_) ?_ ?_ ?_ ?_
    rotate_left 2
    · rfl
    · kernel_rfl
    · simp
    refine tri_cond (b := ?_) ?_ (fun hc => ?_) (fun hc => ?_)
    rotate_left 1
    · rfl
    · have hg14 : m.c > s.a := of_decide_eq_true hc
      have he : apprS s m L T = 14 := by
        unfold apprS
        rw [if_pos hv, if_pos hg14]
      refine tri_reg M hI hn (outs := ?_) (s' := ?_) ?_ ?_ ?_ ?_
      rotate_left 2
      · rfl
      · kernel_rfl
      · simp
      refine tri_ret (fun a w hg => ⟨.inr rfl, _, ?_, hg⟩)
      refine retTo_cold (out := ?_) ?_ ?_ ?_ ?_ ?_
      rotate_left 1
      · rfl
      · simp
      · rfl
      · rfl
      rw [he]
    · have hg14 : ¬ m.c > s.a := of_decide_eq_false hc
      refine tri_skip ?_
      change Tri _ _ _ _ _
      refine tri_seq ?_
      refine tri_reg M hI hn (outs := ?_) (s' := ?_) ?_ ?_ ?_ ?_
      rotate_left 2
      · rfl
      · kernel_rfl
      · simp
      refine tri_block ?_
      refine tri_conv (s' := apSt s m L T 0) (fun a w hg => (hg.reset (kT := [2, 3, 5, 33, 34, 35]) (kO := [0, 1, 1002]) (by rfl) (by simp)).same ?_ ?_) ?_
      · exact .cons rfl (.cons rfl (.cons rfl (.cons rfl (.cons rfl (.cons rfl .nil)))))
      · exact .cons (.box rfl) (.cons (.box rfl) (.cons (.box rfl) .nil))
      refine tri_loop T.length (fun k t => t = apSt s m L T k ∧ ∀ i, i < k → stStep T m.l i = true) 0 ⟨rfl, fun i hi => by omega⟩ (by omega) (fun k t hJ hk => ?_)
      obtain ⟨rfl, hJ⟩ := hJ
      refine tri_reg M hI hn (outs := ?_) (s' := ?_) ?_ ?_ ?_ ?_
      rotate_left 2
      · rfl
      · kernel_rfl
      · simp
      refine tri_seq ?_
      refine tri_cond (b := ?_) ?_ (fun hc => ?_) (fun hc => ?_)
      rotate_left 1
      · rfl
      · have hk2 : k < T.length := by simpa using hc
        have hTk := hT _ (getD_mem hk2 { data := #[] })
        refine tri_skip ?_
        change Tri _ _ _ _ _
        refine tri_seq ?_
        refine tri_block ?_
        refine tri_reg M hI hn (outs := ?_) (s' := ?_) ?_ ?_ ?_ ?_
        rotate_left 2
        · rfl
        · kernel_rfl
        · simp
          exact hk2
        refine tri_reg M hI hn (outs := ?_) (s' := ?_) ?_ ?_ ?_ ?_
        rotate_left 2
        · rfl
        · kernel_rfl
        · simp
          simp only [List.getD_eq_getElem?_getD] at hTk
          exact ⟨hTk, by omega⟩
        refine tri_cond (b := ?_) ?_ (fun hc => ?_) (fun hc => ?_)
        rotate_left 1
        · rfl
        · have hw : stStep T m.l k = false := by
            have h : (!stStep T m.l k) = true := hc
            simpa using h
          have he : apprS s m L T = 8 := by
            unfold apprS
            rw [if_pos hv, if_neg hg14, if_neg (show ¬ stOk T m.l = true from not_all hk2 hw)]
          refine tri_reg M hI hn (outs := ?_) (s' := ?_) ?_ ?_ ?_ ?_
          rotate_left 2
          · rfl
          · kernel_rfl
          · simp
          refine tri_ret (fun a w hg => ⟨.inr rfl, _, ?_, hg⟩)
          refine retTo_cold (out := ?_) ?_ ?_ ?_ ?_ ?_
          rotate_left 1
          · rfl
          · simp
          · rfl
          · rfl
          rw [he]
        · have hw : stStep T m.l k = true := by
            have h : (!stStep T m.l k) = false := hc
            simpa using h
          clear hc
          refine tri_skip ?_
          change Tri _ _ _ _ _
          refine tri_region M hI hn (outs := ?_) (s' := ?_) ?_ ?_ ?_ ?_
          rotate_left 2
          · rfl
          · kernel_rfl
          · simp
          intro a w hg
          refine ⟨k + 1, _, by omega, by omega, ⟨rfl, fun i hi => ?_⟩, (hg.reset (kT := [2, 3, 5, 33, 34, 35]) (kO := [0, 1, 1002]) (by rfl) (by simp)).same ?_ ?_⟩
          · rcases Nat.lt_or_ge i k with h | h
            · exact hJ i h
            · obtain rfl : i = k := by omega
              exact hw
          · exact .cons rfl (.cons rfl (.cons rfl (.cons rfl (.cons rfl (.cons (by rw [wrap_nat k (by omega)]) .nil)))))
          · exact .cons (.box rfl) (.cons (.box rfl) (.cons (.box rfl) .nil))
      · have hkk : k = T.length := by
          have : ¬ k < T.length := by simpa using hc
          omega
        subst hkk
        have hst : stOk T m.l = true := all_range.2 hJ
        refine tri_exit ?_   -- exit 0
        change Tri _ _ _ _ _
        refine tri_reg M hI hn (outs := ?_) (s' := ?_) ?_ ?_ ?_ ?_
        rotate_left 2
        · rfl
        · kernel_rfl
        · simp
          exact ⟨⟨hmi, by omega⟩, hsi, hf⟩
        refine tri_ret (fun a w hg => ⟨.inr rfl, _, ?_, hg⟩)
        refine retTo_cold (out := ?_) ?_ ?_ ?_ ?_ ?_
        rotate_left 1
        · rfl
        · simp
        · rfl
        · rfl
        have he : apprS s m L T = checkS s (r4Dig 12 m) L := by
          unfold apprS
          rw [if_pos hv, if_neg hg14, if_pos hst]
        rw [he, rowD_digF, rowD_digF, rowSgd_sgdF]

end Go.Proofs.YtgndblhpfjkfhaaDoor.Pv
