/-
  Package quorum by the abstract machine: rotations.
-/
import Derived.Test.YtgndblhpfjkfhaaDoorQbR
namespace Go.Proofs.YtgndblhpfjkfhaaDoor.Pv
open Go.RowKit

def zeroR4 : R4 := ⟨0, 0, 0, []⟩
def rotS (s n : R4) (l : List Sgd) : R4 × Int :=
  if ksValid s = true ∧ ksValid n = true then (if n.a = s.a + 1 then (if checkS s (r4Dig 13 n) l = 0 then (n, 0) else (zeroR4, checkS s (r4Dig 13 n) l)) else (zeroR4, 14)) else (zeroR4, 1)
def rotPV (x : R4 × Int) : PV := .tup [.agg (r4L x.1), .one (.lit (.int .i64 x.2))]
def rotnL (n : R4) (l : List Sgd) : List PC := [.lit (.int .i64 n.a), .lit (.int .i64 n.b), .lit (.int .i64 n.c), .sl 16 n.l.length (digF n.l), .sl 4 l.length (sgdF l)]
theorem ksValid_len {s : R4} (h : ksValid s = true) : s.l.length ≤ 5 ∧ 0 ≤ s.a ∧ s.a ≤ 16 := by
  have := of_decide_eq_true h
  omega
set_option maxRecDepth 100000 in
set_option maxHeartbeats 1000000 in
theorem rotate_fun (s n : R4) (hs : R4Ok s) (hn0 : R4Ok n) (l : List Sgd) (hf : fewP l) : FunOk Tryd.prog ShaMem 43 false [r4PV s, .w (.agg (rotnL n l))] (rotPV (rotS s n l)) := by
  have M := qu7M
  refine funOk_of Tryd.func43 rfl rfl sha_ext (fun A hS hn hI => ?_)
  refine tri_reg M hI hn (outs := ?_) (s' := ?_) ?_ ?_ ?_ ?_
  rotate_left 2
  · rfl
  · kernel_rfl
  · simp
  refine tri_seq ?_
  refine tri_block ?_
  refine tri_reg M hI hn (outs := ?_) (s' := ?_) ?_ ?_ ?_ ?_
  rotate_left 2
  · rfl
  · kernel_rfl
  · simp
    exact ⟨⟨hs.a, hs.b, hs.c⟩, fun _ => ⟨hn0.a, hn0.b, hn0.c⟩⟩
  rw [rowD_digF, rowD_digF]
  refine tri_cond (b := ?_) ?_ (fun hc => ?_) (fun hc => ?_)
  rotate_left 1
  · rfl
  · have he : rotS s n l = (zeroR4, 1) := by
      have hc' : (bif !ksValid s then true else !ksValid n) = true := hc
      unfold rotS
      rw [if_neg (fun h => by rw [h.1, h.2] at hc'; simp at hc')]
    refine tri_reg M hI hn (outs := ?_) (s' := ?_) ?_ ?_ ?_ ?_
    rotate_left 2
    · rfl
    · kernel_rfl
    · simp
    refine tri_ret (fun a w hg => ⟨.inr rfl, _, ?_, hg⟩)
    refine retTo_ex (out := ?_) ?_ ?_ ?_ ?_
    rotate_left 1
    · rfl
    · simp
    · rfl
    · rw [he]
      exact .tup (.cons (.agg (.cons (.cold rfl) (.cons (.cold rfl) (.cons (.cold rfl) (.cons .nil .nil))))) (.cons (.one (.cold rfl)) .nil))
  · have hv : ksValid s = true ∧ ksValid n = true := by
      have hc' : (bif !ksValid s then true else !ksValid n) = false := hc
      cases h1 : ksValid s <;> cases h2 : ksValid n <;> simp [h1, h2] at hc' ⊢
    have hl1 := ksValid_len hv.1
    have hl2 := ksValid_len hv.2
    have hw : IntKind.i64.wrap (s.a + 1) = s.a + 1 := by rw [IntKind.wrap_i64]; omega
    refine tri_reg M hI hn (outs := ?_) (s' := ?_) ?_ ?_ ?_ ?_
    rotate_left 2
    · rfl
    · kernel_rfl
    · simp
    refine tri_cond (b := ?_) ?_ (fun hc => ?_) (fun hc => ?_)
    rotate_left 1
    · rfl
    · have he : rotS s n l = (zeroR4, 14) := by
        rw [hw] at hc
        unfold rotS
        rw [if_pos hv, if_neg (by simpa using hc)]
      refine tri_reg M hI hn (outs := ?_) (s' := ?_) ?_ ?_ ?_ ?_
      rotate_left 2
      · rfl
      · kernel_rfl
      · simp
      refine tri_ret (fun a w hg => ⟨.inr rfl, _, ?_, hg⟩)
      refine retTo_ex (out := ?_) ?_ ?_ ?_ ?_
      rotate_left 1
      · rfl
      · simp
      · rfl
      · rw [he]
        exact .tup (.cons (.agg (.cons (.cold rfl) (.cons (.cold rfl) (.cons (.cold rfl) (.cons .nil .nil))))) (.cons (.one (.cold rfl)) .nil))
    · have hna : n.a = s.a + 1 := by
        rw [hw] at hc
        simpa using hc
      refine tri_skip ?_
      change Tri _ _ _ _ _
      refine tri_seq ?_
      refine tri_reg M hI hn (outs := ?_) (s' := ?_) ?_ ?_ ?_ ?_
      rotate_left 2
      · rfl
      · kernel_rfl
      · simp
        exact ⟨⟨⟨hn0.a, hn0.b, hn0.c⟩, by omega⟩, ⟨hs.a, hs.b, hs.c⟩, hf⟩
      refine tri_reg M hI hn (outs := ?_) (s' := ?_) ?_ ?_ ?_ ?_
      rotate_left 2
      · rfl
      · kernel_rfl
      · simp
      rw [rowD_digF, rowD_digF, rowSgd_sgdF]
      refine tri_cond (b := ?_) ?_ (fun hc => ?_) (fun hc => ?_)
      rotate_left 1
      · rfl
      · have hc' : (checkS s (r4Dig 13 n) l != 0) = true := hc
        have he : rotS s n l = (zeroR4, checkS s (r4Dig 13 n) l) := by
          unfold rotS
          rw [if_pos hv, if_pos hna, if_neg (by simpa using hc')]
        refine tri_reg M hI hn (outs := ?_) (s' := ?_) ?_ ?_ ?_ ?_
        rotate_left 2
        · rfl
        · kernel_rfl
        · simp
        refine tri_ret (fun a w hg => ⟨.inr rfl, _, ?_, hg⟩)
        refine retTo_ex (out := ?_) ?_ ?_ ?_ ?_
        rotate_left 1
        · rfl
        · simp
        · rfl
        · rw [he]
          exact .tup (.cons (.agg (.cons (.cold rfl) (.cons (.cold rfl) (.cons (.cold rfl) (.cons .nil .nil))))) (.cons (.one (.cold rfl)) .nil))
      · have hc' : (checkS s (r4Dig 13 n) l != 0) = false := hc
        have he : rotS s n l = (n, 0) := by
          unfold rotS
          rw [if_pos hv, if_pos hna, if_pos (by simpa using hc')]
        refine tri_skip ?_
        change Tri _ _ _ _ _
        refine tri_reg M hI hn (outs := ?_) (s' := ?_) ?_ ?_ ?_ ?_
        rotate_left 2
        · rfl
        · kernel_rfl
        · simp
        refine tri_ret (fun a w hg => ⟨.inr rfl, _, ?_, hg⟩)
        refine retTo_ex (out := ?_) ?_ ?_ ?_ ?_
        rotate_left 1
        · rfl
        · simp
        · rfl
        · rw [he]
          exact .tup (.cons (.agg (.cons (.cold rfl) (.cons (.cold rfl) (.cons (.cold rfl) (.cons (.cold rfl) .nil))))) (.cons (.one (.cold rfl)) .nil))
def spRot : Spec := funSpec false fun xs => match xs with
  | [k, .w (.agg [a, b, c, d, e])] => (match asR4 k, asR4 (.w (.agg [a, b, c, d])), sgOf e with
    | some (p, s), some (q, n), some (r, l) => some (p ∧ q ∧ r ∧ fewP l, rotPV (rotS s n l))
    | _, _, _ => none)
  | _ => none
theorem rotn_of {C : Ctx} {a b c d e : PC} {x : Value} {q r : Prop} {n : R4} {l : List Sgd} (h1 : asR4 (.w (.agg [a, b, c, d])) = some (q, n)) (h2 : sgOf e = some (r, l)) (hq : q) (hr : r) (hv : RV C (.w (.agg [a, b, c, d, e])) x) : RV C (.w (.agg (rotnL n l))) x ∧ R4Ok n := by
  cases hv with
  | w hv => cases hv with
    | @agg _ cs hv =>
      obtain ⟨cs⟩ := cs
      dsimp only at hv
      cases hv with
      | cons k1 hv => cases hv with
        | cons k2 hv => cases hv with
          | cons k3 hv => cases hv with
            | cons k4 hv => cases hv with
              | cons k5 hv =>
                cases hv
                rename_i xa xb xc xd xe
                have h4 : RV C (.w (.agg [a, b, c, d])) (.agg (xa ++ (xb ++ (xc ++ (xd ++ [])))).toArray) := .w (.agg (.cons k1 (.cons k2 (.cons k3 (.cons k4 .nil)))))
                obtain ⟨h5, h6⟩ := asR4_ok h1 hq h4
                refine ⟨.w (.agg ?_), h6⟩
                cases h5 with
                | w h5 => cases h5 with
                  | agg h5 =>
                    dsimp only at h5
                    have h7 := h5.append (RL.cons (sgOf_ok h2 hr k5) RL.nil)
                    have e1 : (xa ++ (xb ++ (xc ++ (xd ++ [])))) ++ (xe ++ []) = xa ++ (xb ++ (xc ++ (xd ++ (xe ++ [])))) := by simp
                    rw [e1] at h7
                    exact h7
theorem rot_ok : SpecOk Tryd.prog ShaMem 43 spRot := by
  refine funSpec_ok (call_enters Tryd.func43 (by kernel_rfl) rfl) (fun xs p r hg hp => ?_)
  split at hg
  · rename_i k a b c d e
    split at hg
    · rename_i p1 s q n r1 l e1 e2 e3
      cases hg
      intro w ok0 vs hI hV
      match vs, hV with
      | [x, y], ⟨k1, k2, _⟩ =>
        obtain ⟨j1, j2⟩ := asR4_ok e1 hp.1 k1
        obtain ⟨j3, j4⟩ := rotn_of e2 e3 hp.2.1 hp.2.2.1 k2
        exact rotate_fun s n j2 j4 l hp.2.2.2 w ok0 [x, y] hI ⟨j1, j3, trivial⟩
    · cases hg
  · cases hg
def quL8 : List (Nat × Spec) := (43, spRot) :: quL7
theorem qu8_ok : ∀ p ∈ quL8, SpecOk Tryd.prog ShaMem p.1 p.2 := by
  intro p hp
  simp only [quL8, List.mem_cons] at hp
  rcases hp with rfl | hp
  · exact rot_ok
  · exact qu7_ok p hp
theorem qu8M : Mach Tryd.prog ShaMem (find quL8) := ⟨specs_of qu8_ok, mixed_⟩

end Go.Proofs.YtgndblhpfjkfhaaDoor.Pv
