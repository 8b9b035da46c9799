/-
  Several texts in one file: each has its own heading below.
-/
import Derived.Test.YtplkplegjoabgaaGreatDoorQzN

/-
  Package quorum by the abstract machine: the reference's digests, validity, rotations, approval.
-/
namespace Go.Proofs.YtplkplegjoabgaaGreatDoor.Pv
open Go.RowKit

def quLr2 : List (Nat × Spec) := (101, spR4) :: (98, spR4) :: quLr1
theorem qur2_ok : ∀ p ∈ quLr2, SpecOk Tryz.prog ShaMem p.1 p.2 := by
  intro p hp
  simp only [quLr2, List.mem_cons] at hp
  rcases hp with rfl | rfl | hp
  · exact spR4_ok (call_enters Tryz.func101 (by kernel_rfl) rfl) rmanifest_fun
  · exact spR4_ok (call_enters Tryz.func98 (by kernel_rfl) rfl) rkset_fun
  · exact qur1_ok p hp
theorem qur2M : Mach Tryz.prog ShaMem (find quLr2) := ⟨specs_of qur2_ok, mixed_⟩
set_option maxRecDepth 100000 in
theorem rmdig_fun (s : R4) (hs : R4Ok s) (hl : s.l.length ≤ 600) : FunOk Tryz.prog ShaMem 63 true [r4PV s] (.w (.agg [.bs 16 (r4Dig 12 s)])) := by
  have M := qur2M
  have hlen := encR4_len hs
  refine funOk_of Tryz.func63 rfl rfl sha_ext (fun A hS hn hI => ?_)
  refine tri_reg M hI hn (outs := ?_) (s' := ?_) ?_ ?_ ?_ ?_
  rotate_left 2
  · rfl
  · kernel_rfl
  · simp
  refine tri_reg M hI hn (outs := ?_) (s' := ?_) ?_ ?_ ?_ ?_
  rotate_left 2
  · rfl
  · kernel_rfl
  · simp
    exact ⟨⟨⟨hs.a, hs.b, hs.c⟩, by omega⟩, by show (encR4 s).length ≤ _; omega⟩
  refine tri_ret (fun a w hg => ⟨.inr rfl, _, ?_, hg⟩)
  refine retTo_cold (out := ?_) ?_ ?_ ?_ ?_ ?_
  rotate_left 1
  · rfl
  · simp
  · rfl
  · rfl
  simp only [rowD_digF, rowB_byF]
  rfl
set_option maxRecDepth 100000 in
theorem rkdig_fun (s : R4) (hs : R4Ok s) (hl : s.l.length ≤ 600) : FunOk Tryz.prog ShaMem 57 true [r4PV s] (.w (.agg [.bs 16 (r4Dig 13 s)])) := by
  have M := qur2M
  have hlen := encR4_len hs
  refine funOk_of Tryz.func57 rfl rfl sha_ext (fun A hS hn hI => ?_)
  refine tri_reg M hI hn (outs := ?_) (s' := ?_) ?_ ?_ ?_ ?_
  rotate_left 2
  · rfl
  · kernel_rfl
  · simp
  refine tri_reg M hI hn (outs := ?_) (s' := ?_) ?_ ?_ ?_ ?_
  rotate_left 2
  · rfl
  · kernel_rfl
  · simp
    exact ⟨⟨⟨hs.a, hs.b, hs.c⟩, by omega⟩, by show (encR4 s).length ≤ _; omega⟩
  refine tri_ret (fun a w hg => ⟨.inr rfl, _, ?_, hg⟩)
  refine retTo_cold (out := ?_) ?_ ?_ ?_ ?_ ?_
  rotate_left 1
  · rfl
  · simp
  · rfl
  · rfl
  simp only [rowD_digF, rowB_byF]
  rfl
set_option maxRecDepth 100000 in
theorem rsdig_fun (c : ByteArray) (hl : c.size ≤ 10000) : FunOk Tryz.prog ShaMem 62 true [lit1 (.string c)] (.w (.agg [.bs 16 (stDig c)])) := by
  have M := qur2M
  refine funOk_of Tryz.func62 rfl rfl sha_ext (fun A hS hn hI => ?_)
  refine tri_reg M hI hn (outs := ?_) (s' := ?_) ?_ ?_ ?_ ?_
  rotate_left 2
  · rfl
  · kernel_rfl
  · simp
  refine tri_reg M hI hn (outs := ?_) (s' := ?_) ?_ ?_ ?_ ?_
  rotate_left 2
  · rfl
  · kernel_rfl
  · simp
    rw [show c.size = c.data.toList.length from Array.length_toList.symm] at hl ⊢
    rw [rowB_byF]
    exact ⟨by omega, hl⟩
  refine tri_ret (fun a w hg => ⟨.inr rfl, _, ?_, hg⟩)
  refine retTo_cold (out := ?_) ?_ ?_ ?_ ?_ ?_
  rotate_left 1
  · rfl
  · simp
  · rfl
  · rfl
  rw [show c.size = c.data.toList.length from Array.length_toList.symm, rowB_byF]
  rfl
theorem rstage_ok : SpecOk Tryz.prog ShaMem 62 spStage := by
  refine funSpec_ok (call_enters Tryz.func62 (by kernel_rfl) rfl) (fun xs p r hg hp => ?_)
  split at hg
  · cases hg
    exact rsdig_fun _ hp
  · cases hg
set_option maxRecDepth 100000 in
theorem rmvalid_fun (m : R4) : FunOk Tryz.prog ShaMem 61 true [r4PV m] (pvB (mValid m)) := by
  have M := qur2M
  refine funOk_of Tryz.func61 rfl rfl sha_ext (fun A hS hn hI => ?_)
  refine tri_reg M hI hn (outs := ?_) (s' := ?_) ?_ ?_ ?_ ?_
  rotate_left 2
  · rfl
  · kernel_rfl
  · simp
  refine tri_seq ?_
  refine tri_reg M hI hn (outs := ?_) (s' := ?_) ?_ ?_ ?_ ?_
  rotate_left 2
  · rfl
  · kernel_rfl
  · simp
  refine tri_cond (b := ?_) ?_ (fun hc => ?_) (fun hc => ?_)
  rotate_left 1
  · rfl
  · refine tri_reg M hI hn (outs := ?_) (s' := ?_) ?_ ?_ ?_ ?_
    rotate_left 2
    · rfl
    · kernel_rfl
    · simp
    refine tri_ret (fun a w hg => ⟨.inr rfl, _, ?_, hg⟩)
    refine retTo_cold (out := ?_) ?_ ?_ ?_ ?_ ?_
    rotate_left 1
    · rfl
    · simp
    · rfl
    · rfl
    change pvB _ = pvB _
    refine congrArg pvB (Bool.eq_iff_iff.2 ?_)
    unfold mValid
    simp at hc
    simp
    omega
  · refine tri_skip ?_
    change Tri _ _ _ _ _
    refine tri_reg M hI hn (outs := ?_) (s' := ?_) ?_ ?_ ?_ ?_
    rotate_left 2
    · rfl
    · kernel_rfl
    · simp
    refine tri_ret (fun a w hg => ⟨.inr rfl, _, ?_, hg⟩)
    refine retTo_cold (out := ?_) ?_ ?_ ?_ ?_ ?_
    rotate_left 1
    · rfl
    · simp
    · rfl
    · rfl
    change pvB _ = pvB _
    refine congrArg pvB (Bool.eq_iff_iff.2 ?_)
    unfold mValid
    simp at hc
    simp
    omega
def quLr3 : List (Nat × Spec) := (63, r4Sp (fun s => s.l.length ≤ 600) fun s => .w (.agg [.bs 16 (r4Dig 12 s)])) :: (57, r4Sp (fun s => s.l.length ≤ 600) fun s => .w (.agg [.bs 16 (r4Dig 13 s)])) ::
  (62, spStage) :: (61, r4Sp (fun _ => True) fun s => pvB (mValid s)) :: quLr2
theorem qur3_ok : ∀ p ∈ quLr3, SpecOk Tryz.prog ShaMem p.1 p.2 := by
  intro p hp
  simp only [quLr3, List.mem_cons] at hp
  rcases hp with rfl | rfl | rfl | rfl | hp
  · exact r4Sp_ok (call_enters Tryz.func63 (by kernel_rfl) rfl) rmdig_fun
  · exact r4Sp_ok (call_enters Tryz.func57 (by kernel_rfl) rfl) rkdig_fun
  · exact rstage_ok
  · exact r4Sp_ok (call_enters Tryz.func61 (by kernel_rfl) rfl) (fun s _ _ => rmvalid_fun s)
  · exact qur2_ok p hp
theorem qur3M : Mach Tryz.prog ShaMem (find quLr3) := ⟨specs_of qur3_ok, mixed_⟩
set_option maxRecDepth 100000 in
set_option maxHeartbeats 1000000 in
theorem rrotate_fun (s n : R4) (hs : R4Ok s) (hn0 : R4Ok n) (l : List Sgd) (hf : fewP l) : FunOk Tryz.prog ShaMem 27 false [r4PV s, .w (.agg (rotnL n l))] (rotPV (rotS s n l)) := by
  have M := qur3M
  have hsi : i64P s.a ∧ i64P s.b ∧ i64P s.c := ⟨hs.a, hs.b, hs.c⟩
  have hni : i64P n.a ∧ i64P n.b ∧ i64P n.c := ⟨hn0.a, hn0.b, hn0.c⟩
  refine funOk_of Tryz.func27 rfl rfl sha_ext (fun A hS hn hI => ?_)
  refine tri_reg M hI hn (outs := ?_) (s' := ?_) ?_ ?_ ?_ ?_
  rotate_left 2
  · rfl
  · kernel_rfl
  · simp
  refine tri_reg M hI hn (outs := ?_) (s' := ?_) ?_ ?_ ?_ ?_
  rotate_left 2
  · rfl
  · kernel_rfl
  · simp
    exact hsi
  refine tri_reg M hI hn (outs := ?_) (s' := ?_) ?_ ?_ ?_ ?_
  rotate_left 2
  · rfl
  · kernel_rfl
  · simp
    exact hni
  refine tri_seq ?_
  refine tri_reg M hI hn (outs := ?_) (s' := ?_) ?_ ?_ ?_ ?_
  rotate_left 2
  · rfl
  · kernel_rfl
  · simp
  rw [rowD_digF, rowD_digF]
  refine tri_cond (b := ?_) ?_ (fun hc => ?_) (fun hc => ?_)
  rotate_left 1
  · rfl
  · have he : rotS s n l = (zeroR4, 1) := by
      have hc' : (bif !ksValid s then true else !ksValid n) = true := hc
      unfold rotS
      rw [if_neg (fun h => by rw [h.1, h.2] at hc'; simp at hc')]
    refine tri_reg M hI hn (outs := ?_) (s' := ?_) ?_ ?_ ?_ ?_
    rotate_left 2
    · rfl
    · kernel_rfl
    · simp
    refine tri_ret (fun a w hg => ⟨.inr rfl, _, ?_, hg⟩)
    refine retTo_ex (out := ?_) ?_ ?_ ?_ ?_
    rotate_left 1
    · rfl
    · simp
    · rfl
    · rw [he]
      exact .tup (.cons (.agg (.cons (.cold rfl) (.cons (.cold rfl) (.cons (.cold rfl) (.cons .nil .nil))))) (.cons (.one (.cold rfl)) .nil))
  · have hv : ksValid s = true ∧ ksValid n = true := by
      have hc' : (bif !ksValid s then true else !ksValid n) = false := hc
      cases h1 : ksValid s <;> cases h2 : ksValid n <;> simp [h1, h2] at hc' ⊢
    have hl1 := ksValid_len hv.1
    have hl2 := ksValid_len hv.2
    have hw : IntKind.i64.wrap (s.a + 1) = s.a + 1 := by rw [IntKind.wrap_i64]; omega
    refine tri_skip ?_
    change Tri _ _ _ _ _
    refine tri_seq ?_
    refine tri_reg M hI hn (outs := ?_) (s' := ?_) ?_ ?_ ?_ ?_
    rotate_left 2
    · rfl
    · kernel_rfl
    · simp
    refine tri_cond (b := ?_) ?_ (fun hc => ?_) (fun hc => ?_)
    rotate_left 1
    · rfl
    · have he : rotS s n l = (zeroR4, 14) := by
        rw [hw] at hc
        unfold rotS
        rw [if_pos hv, if_neg (by simpa using hc)]
      refine tri_reg M hI hn (outs := ?_) (s' := ?_) ?_ ?_ ?_ ?_
      rotate_left 2
      · rfl
      · kernel_rfl
      · simp
      refine tri_ret (fun a w hg => ⟨.inr rfl, _, ?_, hg⟩)
      refine retTo_ex (out := ?_) ?_ ?_ ?_ ?_
      rotate_left 1
      · rfl
      · simp
      · rfl
      · rw [he]
        exact .tup (.cons (.agg (.cons (.cold rfl) (.cons (.cold rfl) (.cons (.cold rfl) (.cons .nil .nil))))) (.cons (.one (.cold rfl)) .nil))
    · have hna : n.a = s.a + 1 := by
        rw [hw] at hc
        simpa using hc
      refine tri_skip ?_
      change Tri _ _ _ _ _
      refine tri_reg M hI hn (outs := ?_) (s' := ?_) ?_ ?_ ?_ ?_
      rotate_left 2
      · rfl
      · kernel_rfl
      · simp
        exact ⟨⟨hni, by omega⟩, hsi, hf⟩
      refine tri_seq ?_
      refine tri_reg M hI hn (outs := ?_) (s' := ?_) ?_ ?_ ?_ ?_
      rotate_left 2
      · rfl
      · kernel_rfl
      · simp
      rw [rowD_digF, rowD_digF, rowSgd_sgdF]
      refine tri_cond (b := ?_) ?_ (fun hc => ?_) (fun hc => ?_)
      rotate_left 1
      · rfl
      · have hc' : (checkS s (r4Dig 13 n) l != 0) = true := hc
        have he : rotS s n l = (zeroR4, checkS s (r4Dig 13 n) l) := by
          unfold rotS
          rw [if_pos hv, if_pos hna, if_neg (by simpa using hc')]
        refine tri_reg M hI hn (outs := ?_) (s' := ?_) ?_ ?_ ?_ ?_
        rotate_left 2
        · rfl
        · kernel_rfl
        · simp
        refine tri_ret (fun a w hg => ⟨.inr rfl, _, ?_, hg⟩)
        refine retTo_ex (out := ?_) ?_ ?_ ?_ ?_
        rotate_left 1
        · rfl
        · simp
        · rfl
        · rw [he]
          exact .tup (.cons (.agg (.cons (.cold rfl) (.cons (.cold rfl) (.cons (.cold rfl) (.cons .nil .nil))))) (.cons (.one (.cold rfl)) .nil))
      · have hc' : (checkS s (r4Dig 13 n) l != 0) = false := hc
        have he : rotS s n l = (n, 0) := by
          unfold rotS
          rw [if_pos hv, if_pos hna, if_pos (by simpa using hc')]
        refine tri_skip ?_
        change Tri _ _ _ _ _
        refine tri_reg M hI hn (outs := ?_) (s' := ?_) ?_ ?_ ?_ ?_
        rotate_left 2
        · rfl
        · kernel_rfl
        · simp
        refine tri_ret (fun a w hg => ⟨.inr rfl, _, ?_, hg⟩)
        refine retTo_ex (out := ?_) ?_ ?_ ?_ ?_
        rotate_left 1
        · rfl
        · simp
        · rfl
        · rw [he]
          exact .tup (.cons (.agg (.cons (.cold rfl) (.cons (.cold rfl) (.cons (.cold rfl) (.cons (.cold rfl) .nil))))) (.cons (.one (.cold rfl)) .nil))
def raSt (s m : R4) (L : List Sgd) (T : List ByteArray) (k : Nat) : St := ⟨[(2, none, pv1 (.pt 0 0 0)), (3, none, pv1 (.pt 1 0 0)), (7, none, pvI k)],
  [(0, none, 0, .box 70 (r4L s)), (1, none, 0, .box 75 (bunL m L T))]⟩
set_option maxRecDepth 100000 in
set_option maxHeartbeats 1000000 in
theorem rapprove_fun (s m : R4) (hs : R4Ok s) (hm : R4Ok m) (L : List Sgd) (hf : fewP L) (T : List ByteArray) (hT : ∀ c ∈ T, c.size ≤ 10000) : FunOk Tryz.prog ShaMem 29 true [r4PV s, .w (.agg (bunL m L T))] (pvI (apprS s m L T)) := by
  have M := qur3M
  have hsi : i64P s.a ∧ i64P s.b ∧ i64P s.c := ⟨hs.a, hs.b, hs.c⟩
  have hmi : i64P m.a ∧ i64P m.b ∧ i64P m.c := ⟨hm.a, hm.b, hm.c⟩
  refine funOk_of Tryz.func29 rfl rfl sha_ext (fun A hS hn hI => ?_)
  refine tri_reg M hI hn (outs := ?_) (s' := ?_) ?_ ?_ ?_ ?_
  rotate_left 2
  · rfl
  · kernel_rfl
  · simp
  refine tri_reg M hI hn (outs := ?_) (s' := ?_) ?_ ?_ ?_ ?_
  rotate_left 2
  · rfl
  · kernel_rfl
  · simp
    exact hsi
  refine tri_reg M hI hn (outs := ?_) (s' := ?_) ?_ ?_ ?_ ?_
  rotate_left 2
  · rfl
  · kernel_rfl
  · simp
    exact hmi
  refine tri_seq ?_
  refine tri_reg M hI hn (outs := ?_) (s' := ?_) ?_ ?_ ?_ ?_
  rotate_left 2
  · rfl
  · kernel_rfl
  · simp
  rw [rowD_digF, rowD_digF]
  refine tri_cond (b := ?_) ?_ (fun hc => ?_) (fun hc => ?_)
  rotate_left 1
  · rfl
  · have hc' : (bif (bif (!ksValid s) then true else !mValid m) then true else ((T.length : Int) != (m.l.length : Int))) = true := hc
    have he : apprS s m L T = 1 := by
      unfold apprS
      rw [if_neg (fun h => by rw [h.1, h.2.1, h.2.2] at hc'; simp at hc')]
    refine tri_reg M hI hn (outs := ?_) (s' := ?_) ?_ ?_ ?_ ?_
    rotate_left 2
    · rfl
    · kernel_rfl
    · simp
    refine tri_ret (fun a w hg => ⟨.inr rfl, _, ?_, hg⟩)
    refine retTo_cold (out := ?_) ?_ ?_ ?_ ?_ ?_
    rotate_left 1
    · rfl
    · simp
    · rfl
    · rfl
    rw [he]
  · have hc' : (bif (bif (!ksValid s) then true else !mValid m) then true else ((T.length : Int) != (m.l.length : Int))) = false := hc
    have hv : ksValid s = true ∧ mValid m = true ∧ T.length = m.l.length := by
      cases h1 : ksValid s <;> cases h2 : mValid m <;> simp [h1, h2] at hc' ⊢
      omega
    have hml := mValid_len hv.2.1
    refine tri_skip ?_
    change Tri _ _ _ _ _
    refine tri_seq ?_
    refine tri_reg M hI hn (outs := ?_) (s' := ?_) ?_ ?_ ?_ ?_
    rotate_left 2
    · rfl
    · kernel_rfl
    · simp
    refine tri_cond (b := ?_) ?_ (fun hc => ?_) (fun hc => ?_)
    rotate_left 1
    · rfl
    · have hg14 : m.c > s.a := of_decide_eq_true hc
      have he : apprS s m L T = 14 := by
        unfold apprS
        rw [if_pos hv, if_pos hg14]
      refine tri_reg M hI hn (outs := ?_) (s' := ?_) ?_ ?_ ?_ ?_
      rotate_left 2
      · rfl
      · kernel_rfl
      · simp
      refine tri_ret (fun a w hg => ⟨.inr rfl, _, ?_, hg⟩)
      refine retTo_cold (out := ?_) ?_ ?_ ?_ ?_ ?_
      rotate_left 1
      · rfl
      · simp
      · rfl
      · rfl
      rw [he]
    · have hg14 : ¬ m.c > s.a := of_decide_eq_false hc
      refine tri_skip ?_
      change Tri _ _ _ _ _
      refine tri_seq ?_
      refine tri_reg M hI hn (outs := ?_) (s' := ?_) ?_ ?_ ?_ ?_
      rotate_left 2
      · rfl
      · kernel_rfl
      · simp
      refine tri_block ?_
      refine tri_conv (s' := raSt s m L T 0) (fun a w hg => (hg.reset (kT := [2, 3, 7]) (kO := [0, 1]) (by rfl) (by simp)).same ?_ ?_) ?_
      · exact .cons rfl (.cons rfl (.cons rfl .nil))
      · exact .cons (.box rfl) (.cons (.box rfl) .nil)
      refine tri_loop T.length (fun k t => t = raSt s m L T k ∧ ∀ i, i < k → stStep T m.l i = true) 0 ⟨rfl, fun i hi => by omega⟩ (by omega) (fun k t hJ hk => ?_)
      obtain ⟨rfl, hJ⟩ := hJ
      refine tri_seq ?_
      refine tri_reg M hI hn (outs := ?_) (s' := ?_) ?_ ?_ ?_ ?_
      rotate_left 2
      · rfl
      · kernel_rfl
      · simp
      refine tri_cond (b := ?_) ?_ (fun hc => ?_) (fun hc => ?_)
      rotate_left 1
      · rfl
      · have hk2 : k < T.length := by simpa using hc
        have hTk := hT _ (getD_mem hk2 { data := #[] })
        refine tri_skip ?_
        change Tri _ _ _ _ _
        refine tri_seq ?_
        refine tri_block ?_
        refine tri_reg M hI hn (outs := ?_) (s' := ?_) ?_ ?_ ?_ ?_
        rotate_left 2
        · rfl
        · kernel_rfl
        · simp
          simp only [List.getD_eq_getElem?_getD] at hTk
          exact ⟨hk2, hTk, by omega⟩
        refine tri_cond (b := ?_) ?_ (fun hc => ?_) (fun hc => ?_)
        rotate_left 1
        · rfl
        · have hw : stStep T m.l k = false := by
            have h : (!stStep T m.l k) = true := hc
            simpa using h
          have he : apprS s m L T = 8 := by
            unfold apprS
            rw [if_pos hv, if_neg hg14, if_neg (show ¬ stOk T m.l = true from not_all hk2 hw)]
          refine tri_reg M hI hn (outs := ?_) (s' := ?_) ?_ ?_ ?_ ?_
          rotate_left 2
          · rfl
          · kernel_rfl
          · simp
          refine tri_ret (fun a w hg => ⟨.inr rfl, _, ?_, hg⟩)
          refine retTo_cold (out := ?_) ?_ ?_ ?_ ?_ ?_
          rotate_left 1
          · rfl
          · simp
          · rfl
          · rfl
          rw [he]
        · have hw : stStep T m.l k = true := by
            have h : (!stStep T m.l k) = false := hc
            simpa using h
          clear hc
          refine tri_skip ?_
          change Tri _ _ _ _ _
          refine tri_region M hI hn (outs := ?_) (s' := ?_) ?_ ?_ ?_ ?_
          rotate_left 2
          · rfl
          · kernel_rfl
          · simp
          intro a w hg
          refine ⟨k + 1, _, by omega, by omega, ⟨rfl, fun i hi => ?_⟩, (hg.reset (kT := [2, 3, 7]) (kO := [0, 1]) (by rfl) (by simp)).same ?_ ?_⟩
          · rcases Nat.lt_or_ge i k with h | h
            · exact hJ i h
            · obtain rfl : i = k := by omega
              exact hw
          · exact .cons rfl (.cons rfl (.cons (by rw [wrap_nat k (by omega)]) .nil))
          · exact .cons (.box rfl) (.cons (.box rfl) .nil)
      · have hkk : k = T.length := by
          have : ¬ k < T.length := by simpa using hc
          omega
        subst hkk
        have hst : stOk T m.l = true := all_range.2 hJ
        refine tri_exit ?_   -- exit 0
        change Tri _ _ _ _ _
        refine tri_reg M hI hn (outs := ?_) (s' := ?_) ?_ ?_ ?_ ?_
        rotate_left 2
        · rfl
        · kernel_rfl
        · simp
          exact ⟨⟨hmi, by omega⟩, hsi, hf⟩
        refine tri_ret (fun a w hg => ⟨.inr rfl, _, ?_, hg⟩)
        refine retTo_cold (out := ?_) ?_ ?_ ?_ ?_ ?_
        rotate_left 1
        · rfl
        · simp
        · rfl
        · rfl
        have he : apprS s m L T = checkS s (r4Dig 12 m) L := by
          unfold apprS
          rw [if_pos hv, if_neg hg14, if_pos hst]
        rw [he, rowD_digF, rowD_digF, rowSgd_sgdF]

end Go.Proofs.YtplkplegjoabgaaGreatDoor.Pv

/-
  Package quorum by the abstract machine: what the law QuorumApprove calls, as contracts.
-/
namespace Go.Proofs.YtplkplegjoabgaaGreatDoor.Pv
open Go.RowKit

theorem rrot_ok : SpecOk Tryz.prog ShaMem 27 spRot := by
  refine funSpec_ok (call_enters Tryz.func27 (by kernel_rfl) rfl) (fun xs p r hg hp => ?_)
  split at hg
  · rename_i k a b c d e
    split at hg
    · rename_i p1 s q n r1 l e1 e2 e3
      cases hg
      intro w ok0 vs hI hV
      match vs, hV with
      | [x, y], ⟨k1, k2, _⟩ =>
        obtain ⟨j1, j2⟩ := asR4_ok e1 hp.1 k1
        obtain ⟨j3, j4⟩ := rotn_of e2 e3 hp.2.1 hp.2.2.1 k2
        exact rrotate_fun s n j2 j4 l hp.2.2.2 w ok0 [x, y] hI ⟨j1, j3, trivial⟩
    · cases hg
  · cases hg
theorem rappr_ok : SpecOk Tryz.prog ShaMem 29 spAppr := by
  refine funSpec_ok (call_enters Tryz.func29 (by kernel_rfl) rfl) (fun xs p r hg hp => ?_)
  split at hg
  · rename_i k a b c d e f
    split at hg
    · rename_i p1 s q m r1 L u T e1 e2 e3 e4
      cases hg
      obtain ⟨h1, h2, h3, h4, h5, h6⟩ := hp
      intro w ok0 vs hI hV
      match vs, hV with
      | [x, y], ⟨k1, k2, _⟩ =>
        obtain ⟨j1, j2⟩ := asR4_ok e1 h1 k1
        obtain ⟨j3, j4⟩ := bun_of e2 e3 e4 h2 h3 h4 k2
        exact rapprove_fun s m j2 j4 L h5 T h6 w ok0 [x, y] hI ⟨j1, j3, trivial⟩
    · cases hg
  · cases hg
def quLr4 : List (Nat × Spec) := (27, spRot) :: (29, spAppr) :: quLr3
theorem qur4_ok : ∀ p ∈ quLr4, SpecOk Tryz.prog ShaMem p.1 p.2 := by
  intro p hp
  simp only [quLr4, List.mem_cons] at hp
  rcases hp with rfl | rfl | hp
  · exact rrot_ok
  · exact rappr_ok
  · exact qur3_ok p hp
theorem qur4M : Mach Tryz.prog ShaMem (find quLr4) := ⟨specs_of qur4_ok, mixed_⟩
def shStep (T : List ByteArray) (i : Nat) : Bool := decide ((T.getD i { data := #[] }).size ≤ 300)
def fewB (m : R4) (L : List Sgd) (T : List ByteArray) : Bool := decide (T.length ≤ 5 ∧ m.l.length ≤ 5 ∧ fewS L = true) && (List.range T.length).all (shStep T)
def feSt (m : R4) (L : List Sgd) (T : List ByteArray) (k : Nat) : St := ⟨[(1, none, pv1 (.pt 0 0 0)), (3, none, pvI k)], [(0, none, 0, .box 75 (bunL m L T))]⟩
set_option maxRecDepth 100000 in
theorem lfew_fun (m : R4) (_ : R4Ok m) (L : List Sgd) (T : List ByteArray) : FunOk Tryz.prog ShaMem 24 true [.w (.agg (bunL m L T))] (pvB (fewB m L T)) := by
  have M := qur4M
  refine funOk_of Tryz.func24 rfl rfl sha_ext (fun A hS hn hI => ?_)
  refine tri_reg M hI hn (outs := ?_) (s' := ?_) ?_ ?_ ?_ ?_
  rotate_left 2
  · rfl
  · kernel_rfl
  · simp
  refine tri_seq ?_
  refine tri_reg M hI hn (outs := ?_) (s' := ?_) ?_ ?_ ?_ ?_
  rotate_left 2
  · rfl
  · kernel_rfl
  · simp
  rw [rowSgd_sgdF]
  refine tri_cond (b := ?_) ?_ (fun hc => ?_) (fun hc => ?_)
  rotate_left 1
  · rfl
  · have he : fewB m L T = false := by
      unfold fewB
      rw [decide_eq_false]
      · rfl
      · rintro ⟨h1, h2, h3⟩
        rw [h3] at hc
        simp at hc
        omega
    refine tri_reg M hI hn (outs := ?_) (s' := ?_) ?_ ?_ ?_ ?_
    rotate_left 2
    · rfl
    · kernel_rfl
    · simp
    refine tri_ret (fun a w hg => ⟨.inr rfl, _, ?_, hg⟩)
    refine retTo_cold (out := ?_) ?_ ?_ ?_ ?_ ?_
    rotate_left 1
    · rfl
    · simp
    · rfl
    · rfl
    rw [he]
  · have hsm : T.length ≤ 5 ∧ m.l.length ≤ 5 ∧ fewS L = true := by
      cases h3 : fewS L
      · rw [h3] at hc
        simp at hc
      · rw [h3] at hc
        simp at hc
        exact ⟨by omega, by omega, rfl⟩
    refine tri_skip ?_
    change Tri _ _ _ _ _
    refine tri_seq ?_
    refine tri_reg M hI hn (outs := ?_) (s' := ?_) ?_ ?_ ?_ ?_
    rotate_left 2
    · rfl
    · kernel_rfl
    · simp
    refine tri_block ?_
    refine tri_conv (s' := feSt m L T 0) (fun a w hg => (hg.reset (kT := [1, 3]) (kO := [0]) (by rfl) (by simp)).same ?_ ?_) ?_
    · exact .cons rfl (.cons rfl .nil)
    · exact .cons (.box rfl) .nil
    refine tri_loop T.length (fun k t => t = feSt m L T k ∧ ∀ i, i < k → shStep T i = true) 0 ⟨rfl, fun i hi => by omega⟩ (by omega) (fun k t hJ hk => ?_)
    obtain ⟨rfl, hJ⟩ := hJ
    refine tri_seq ?_
    refine tri_reg M hI hn (outs := ?_) (s' := ?_) ?_ ?_ ?_ ?_
    rotate_left 2
    · rfl
    · kernel_rfl
    · simp
    refine tri_cond (b := ?_) ?_ (fun hc => ?_) (fun hc => ?_)
    rotate_left 1
    · rfl
    · have hk2 : k < T.length := by simpa using hc
      refine tri_skip ?_
      change Tri _ _ _ _ _
      refine tri_seq ?_
      refine tri_block ?_
      refine tri_reg M hI hn (outs := ?_) (s' := ?_) ?_ ?_ ?_ ?_
      rotate_left 2
      · rfl
      · kernel_rfl
      · simp
        exact hk2
      refine tri_cond (b := ?_) ?_ (fun hc => ?_) (fun hc => ?_)
      rotate_left 1
      · rfl
      · have hw : shStep T k = false := by
          have h := of_decide_eq_true hc
          rw [Int.toNat_natCast] at h
          refine decide_eq_false (fun h2 => ?_)
          omega
        have he : fewB m L T = false := by
          unfold fewB
          rw [Bool.and_eq_false_iff]
          exact .inr (Bool.eq_false_iff.2 (not_all hk2 hw))
        refine tri_reg M hI hn (outs := ?_) (s' := ?_) ?_ ?_ ?_ ?_
        rotate_left 2
        · rfl
        · kernel_rfl
        · simp
        refine tri_ret (fun a w hg => ⟨.inr rfl, _, ?_, hg⟩)
        refine retTo_cold (out := ?_) ?_ ?_ ?_ ?_ ?_
        rotate_left 1
        · rfl
        · simp
        · rfl
        · rfl
        rw [he]
      · have hw : shStep T k = true := by
          have h := of_decide_eq_false hc
          rw [Int.toNat_natCast] at h
          refine decide_eq_true ?_
          omega
        refine tri_skip ?_
        change Tri _ _ _ _ _
        refine tri_region M hI hn (outs := ?_) (s' := ?_) ?_ ?_ ?_ ?_
        rotate_left 2
        · rfl
        · kernel_rfl
        · simp
        intro a w hg
        refine ⟨k + 1, _, by omega, by omega, ⟨rfl, fun i hi => ?_⟩, (hg.reset (kT := [1, 3]) (kO := [0]) (by rfl) (by simp)).same ?_ ?_⟩
        · rcases Nat.lt_or_ge i k with h | h
          · exact hJ i h
          · obtain rfl : i = k := by omega
            exact hw
        · exact .cons rfl (.cons (by rw [wrap_nat k (by omega)]) .nil)
        · exact .cons (.box rfl) .nil
    · have hkk : k = T.length := by
        have : ¬ k < T.length := by simpa using hc
        omega
      subst hkk
      have he : fewB m L T = true := by
        unfold fewB
        rw [decide_eq_true hsm, all_range.2 hJ]
        rfl
      refine tri_exit ?_   -- exit 0
      change Tri _ _ _ _ _
      refine tri_reg M hI hn (outs := ?_) (s' := ?_) ?_ ?_ ?_ ?_
      rotate_left 2
      · rfl
      · kernel_rfl
      · simp
      refine tri_ret (fun a w hg => ⟨.inr rfl, _, ?_, hg⟩)
      refine retTo_cold (out := ?_) ?_ ?_ ?_ ?_ ?_
      rotate_left 1
      · rfl
      · simp
      · rfl
      · rfl
      rw [he]
def spLfew : Spec := funSpec true fun xs => match xs with
  | [.w (.agg [a, b, c, d, e, f])] => (match asR4 (.w (.agg [a, b, c, d])), sgOf e, stOf f with
    | some (q, m), some (r, L), some (u, T) => some (q ∧ r ∧ u, pvB (fewB m L T))
    | _, _, _ => none)
  | _ => none
theorem lfew_ok : SpecOk Tryz.prog ShaMem 24 spLfew := by
  refine funSpec_ok (call_enters Tryz.func24 (by kernel_rfl) rfl) (fun xs p r hg hp => ?_)
  split at hg
  · rename_i a b c d e f
    split at hg
    · rename_i q m r1 L u T e2 e3 e4
      cases hg
      obtain ⟨h2, h3, h4⟩ := hp
      intro w ok0 vs hI hV
      match vs, hV with
      | [y], ⟨k2, _⟩ =>
        obtain ⟨j3, j4⟩ := bun_of e2 e3 e4 h2 h3 h4 k2
        exact lfew_fun m j4 L T w ok0 [y] hI ⟨j3, trivial⟩
    · cases hg
  · cases hg
def quLr5 : List (Nat × Spec) := (24, spLfew) :: quLr4
theorem qur5_ok : ∀ p ∈ quLr5, SpecOk Tryz.prog ShaMem p.1 p.2 := by
  intro p hp
  simp only [quLr5, List.mem_cons] at hp
  rcases hp with rfl | hp
  · exact lfew_ok
  · exact qur4_ok p hp
theorem qur5M : Mach Tryz.prog ShaMem (find quLr5) := ⟨specs_of qur5_ok, mixed_⟩

end Go.Proofs.YtplkplegjoabgaaGreatDoor.Pv
