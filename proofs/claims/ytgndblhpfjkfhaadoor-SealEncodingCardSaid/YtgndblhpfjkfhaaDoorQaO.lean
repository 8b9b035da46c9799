/-
  Several texts in one file: each has its own heading below.
-/
import Derived.Test.YtgndblhpfjkfhaaDoorQaN
import Derived.Test.YtgndblhpfjkfhaaDoorQaI
import Derived.Test.YtgndblhpfjkfhaaDoorQaG
import Derived.Test.YtgndblhpfjkfhaaDoorQaH
import Derived.Test.YtgndblhpfjkfhaaDoorQaJ

/-
  Package seal by the abstract machine: keys; sealing.
-/
namespace Go.Proofs.YtgndblhpfjkfhaaDoor.Pv
open Go.RowKit

def labSeal : ByteArray := { data := #[115, 101, 97, 108] }
def sealKeyS (root code : List UInt8) (epo : Int) : List UInt8 := deriveS root labSeal.data.toList [code, wInt epo]
set_option maxRecDepth 100000 in
theorem skey_fun (root code : List UInt8) (e : Int) (hr : root.length = 16) (hc : code.length = 16) (he : i64P e) : FunOk Tryd.prog ShaMem 22 true [digPV root, digPV code, pvI e] (digPV (sealKeyS root code e)) := by
  have M := sl4M
  have hl := wInt_length e
  refine funOk_of Tryd.func22 rfl rfl sha_ext (fun A hS hn hI => ?_)
  refine tri_reg M hI hn (outs := ?_) (s' := ?_) ?_ ?_ ?_ ?_
  rotate_left 2
  · rfl
  · kernel_rfl
  · simp
  refine tri_reg M hI hn (outs := ?_) (s' := ?_) ?_ ?_ ?_ ?_
  rotate_left 2
  · rfl
  · kernel_rfl
  · simp [he, hr, hc, ByteArray.size]
    try omega
  refine tri_ret (fun a w hg => ⟨.inr rfl, _, ?_, hg⟩)
  refine retTo_cold (out := ?_) ?_ ?_ ?_ ?_ ?_
  rotate_left 1
  · rfl
  · simp
  · rfl
  · rfl
  simp [sealKeyS, labSeal, rowB_byF, digPV]
  try rw [rowB_byF' hr, rowB_byF' hc]
set_option maxRecDepth 100000 in
theorem rskey_fun (root code : List UInt8) (e : Int) (hr : root.length = 16) (hc : code.length = 16) (he : i64P e) : FunOk Tryd.prog ShaMem 23 true [digPV root, digPV code, pvI e] (digPV (sealKeyS root code e)) := by
  have M := sl4M
  have hl := wInt_length e
  refine funOk_of Tryd.func23 rfl rfl sha_ext (fun A hS hn hI => ?_)
  refine tri_reg M hI hn (outs := ?_) (s' := ?_) ?_ ?_ ?_ ?_
  rotate_left 2
  · rfl
  · kernel_rfl
  · simp
  refine tri_reg M hI hn (outs := ?_) (s' := ?_) ?_ ?_ ?_ ?_
  rotate_left 2
  · rfl
  · kernel_rfl
  · simp [he, rowB_length, ByteArray.size]
    try omega
  refine tri_ret (fun a w hg => ⟨.inr rfl, _, ?_, hg⟩)
  refine retTo_cold (out := ?_) ?_ ?_ ?_ ?_ ?_
  rotate_left 1
  · rfl
  · simp
  · rfl
  · rfl
  simp [sealKeyS, labSeal, rowB_byF, digPV]
  try rw [rowB_byF' hr, rowB_byF' hc]

def spSKey : Spec := funSpec true fun xs => match xs with
  | [.w (.agg [.bs 16 r]), .w (.agg [.bs 16 c]), .w (.one (.lit (.int .i64 e)))] => some (i64P e, digPV (sealKeyS r c e))
  | _ => none
theorem skey_ok : SpecOk Tryd.prog ShaMem 22 spSKey := by
  refine funSpec_ok (call_enters Tryd.func22 (by kernel_rfl) rfl) (fun xs p r hg hp => ?_)
  split at hg
  · cases hg
    intro w ok0 vs hI hv
    exact skey_fun _ _ _ (vals_dig hv) (vals_dig (vals_tail hv).choose_spec) hp w ok0 vs hI hv
  · cases hg
theorem rskey_ok : SpecOk Tryd.prog ShaMem 23 spSKey := by
  refine funSpec_ok (call_enters Tryd.func23 (by kernel_rfl) rfl) (fun xs p r hg hp => ?_)
  split at hg
  · cases hg
    intro w ok0 vs hI hv
    exact rskey_fun _ _ _ (vals_dig hv) (vals_dig (vals_tail hv).choose_spec) hp w ok0 vs hI hv
  · cases hg
def slL5 : List (Nat × Spec) := (22, spSKey) :: (23, spSKey) :: slL4
theorem sl5_ok : ∀ p ∈ slL5, SpecOk Tryd.prog ShaMem p.1 p.2 := by
  intro p hp
  simp only [slL5, List.mem_cons] at hp
  rcases hp with rfl | rfl | hp
  · exact skey_ok
  · exact rskey_ok
  · exact sl4_ok p hp
theorem sl5M : Mach Tryd.prog ShaMem (find slL5) := ⟨specs_of sl5_ok, mixed_⟩
def sealB (k : List UInt8) (n : Int) (c : ByteArray) : BoxS := ⟨n, strOf (applyS k n c.data.toList), tagS k n (applyS k n c.data.toList)⟩
def wrapOs (root : List UInt8) (e n : Int) (sec : ByteArray) : List Ob := [⟨px, 23, [.bs 16 root], [.bs 16 root]⟩, ⟨px + 1, 3, [.lit (.int .i64 e)], [.lit (.int .i64 e)]⟩, ⟨px + 2, 3, [.lit (.int .i64 n)], [.lit (.int .i64 n)]⟩, ⟨px + 3, 9, [.lit (.string sec)], [.lit (.string sec)]⟩]
set_option maxRecDepth 100000 in
theorem wrap_x (root code : List UInt8) (e n : Int) (sec : ByteArray) (he : i64P e) (hn' : i64P n) (hs : sec.size ≤ 1000) :
    FunX Tryd.prog ShaMem 56 false (wrapOs root e n sec) (fun _ => none) none (fun _ => False) [digPV code, pv1 (.pt px 0 0), pv1 (.pt (px + 1) 0 0), pv1 (.pt (px + 2) 0 0), pv1 (.pt (px + 3) 0 0)] (.w (.agg (boxPC (sealB (sealKeyS root code e) n sec)))) := by
  have M := sl5M
  refine funX_of Tryd.func56 rfl rfl (by rfl) (fun A hn hI => ?_)
  refine tri_reg M hI hn (outs := ?_) (s' := ?_) ?_ ?_ ?_ ?_
  rotate_left 2
  · rfl
  · kernel_rfl
  · simp
  refine tri_reg M hI hn (outs := ?_) (s' := ?_) ?_ ?_ ?_ ?_
  rotate_left 2
  · rfl
  · kernel_rfl
  · simp [he, hn']
    omega
  refine tri_ret (fun a w hg => ⟨.inr rfl, _, ⟨?_, fun o ho => ?_, fun p hp => by cases hp⟩, hg⟩)
  rotate_left 1
  · simp only [wrapOs, List.mem_cons, List.not_mem_nil, or_false] at ho
    rcases ho with rfl | rfl | rfl | rfl
    · exact ⟨_, rfl, exL_refl rfl⟩
    · exact ⟨_, rfl, exL_refl rfl⟩
    · exact ⟨_, rfl, exL_refl rfl⟩
    · exact ⟨_, rfl, exL_refl rfl⟩
  refine retTo_cold (out := ?_) ?_ ?_ ?_ ?_ ?_
  rotate_left 1
  · rfl
  · simp
  · rfl
  · rfl
  rfl
def isPtAt (i : Nat) : PV → Bool
  | .w (.one (.pt x v o)) => Nat.beq x (px + i) && (Nat.beq v 0 && Nat.beq o 0)
  | _ => false
theorem isPtAt_ok {i : Nat} {v : PV} (h : isPtAt i v = true) : v = pv1 (.pt (px + i) 0 0) := by
  unfold isPtAt at h
  split at h
  · rw [Bool.and_eq_true, Bool.and_eq_true] at h
    rw [beqT h.1, beqT h.2.1, beqT h.2.2]
  · cases h
def spWrap : Spec := obSpec fun os ys => match os, ys with
  | [(t0, [.bs 16 r]), (t1, [.lit (.int .i64 e)]), (t2, [.lit (.int .i64 n)]), (t3, [.lit (.string s)])], [.w (.agg [.bs 16 c]), p0, p1, p2, p3] =>
    (match Nat.beq t0 23 && (Nat.beq t1 3 && (Nat.beq t2 3 && (Nat.beq t3 9 && (isPtAt 0 p0 && (isPtAt 1 p1 && (isPtAt 2 p2 && isPtAt 3 p3)))))) with
    | true => some (i64P e ∧ i64P n ∧ s.size ≤ 1000, [[.bs 16 r], [.lit (.int .i64 e)], [.lit (.int .i64 n)], [.lit (.string s)]], .w (.agg (boxPC (sealB (sealKeyS r c e) n s))))
    | false => none)
  | _, _ => none
theorem wrap_ok : SpecOk Tryd.prog ShaMem 56 spWrap := by
  refine obSpec_ok (call_enters Tryd.func56 (by kernel_rfl) rfl) (fun os ys p cs r hg hlen hp => ?_)
  split at hg
  · rename_i t0 r0 t1 e t2 n t3 s c p0 p1 p2 p3 hos
    split at hg
    · rename_i hb
      simp only [Bool.and_eq_true] at hb
      obtain ⟨b0, b1, b2, b3, q0, q1, q2, q3⟩ := hb
      cases hg
      match os, hos with
      | [o0, o1, o2, o3], hos =>
        simp only [List.map_cons, List.map_nil, List.cons.injEq, Prod.mk.injEq, and_true] at hos
        obtain ⟨⟨h0, k0⟩, ⟨h1, k1⟩, ⟨h2, k2⟩, ⟨h3, k3⟩⟩ := hos
        have e0 := beqT b0
        have e1 := beqT b1
        have e2 := beqT b2
        have e3 := beqT b3
        have := wrap_x r0 c e n s hp.1 hp.2.1 hp.2.2
        unfold obsOf obsOf obsOf obsOf obsOf
        rw [isPtAt_ok q0, isPtAt_ok q1, isPtAt_ok q2, isPtAt_ok q3, h0, h1, h2, h3, e0, e1, e2, e3, k0, k1, k2, k3]
        exact this
    · cases hg
  · cases hg
def slL6 : List (Nat × Spec) := (56, spWrap) :: slL5
theorem sl6_ok : ∀ p ∈ slL6, SpecOk Tryd.prog ShaMem p.1 p.2 := by
  intro p hp
  rcases List.mem_cons.1 hp with rfl | hp
  · exact wrap_ok
  · exact sl5_ok p hp
theorem sl6M : Mach Tryd.prog ShaMem (find slL6) := ⟨specs_of sl6_ok, mixed_⟩
def mkBoxes (root : List UInt8) (codes : List (List UInt8)) (e n : Int) (sec : ByteArray) (k : Nat) : List BoxS := (codes.take k).map fun c => sealB (sealKeyS root c e) n sec
def mkE (pol : ByteArray) (codes : List (List UInt8)) (e : Int) (sec : ByteArray) (n : Int) : Int := if e < 0 ∨ 16 < e ∨ n < 0 then 1 else if 64 < codes.length ∨ 64 < sec.size ∨ 1500 < pol.size then 2 else 0
def mkV (root : List UInt8) (pol : ByteArray) (codes : List (List UInt8)) (e : Int) (sec : ByteArray) (n : Int) : SealS := if mkE pol codes e sec n = 0 then ⟨pol, e, mkBoxes root codes e n sec codes.length⟩ else ⟨{ data := #[] }, 0, []⟩
def mkPV (root : List UInt8) (pol : ByteArray) (codes : List (List UInt8)) (e : Int) (sec : ByteArray) (n : Int) : PV := .tup [.agg (sealL (mkV root pol codes e sec n)), .one (.lit (.int .i64 (mkE pol codes e sec n)))]
theorem mkBoxes_len {root : List UInt8} {codes : List (List UInt8)} {e n : Int} {sec : ByteArray} {k : Nat} (h : k ≤ codes.length) : (mkBoxes root codes e n sec k).length = k := by
  unfold mkBoxes
  rw [List.length_map, List.length_take]
  omega
theorem mkBoxes_succ {root : List UInt8} {codes : List (List UInt8)} {e n : Int} {sec : ByteArray} {k : Nat} (h : k < codes.length) : mkBoxes root codes e n sec (k + 1) = mkBoxes root codes e n sec k ++ [sealB (sealKeyS root (codes.getD k []) e) n sec] := by
  unfold mkBoxes
  rw [List.take_add_one, List.getElem?_eq_getElem h, List.map_append, List.getD_eq_getElem?_getD, List.getElem?_eq_getElem h]
  rfl
theorem mkPV_err {root : List UInt8} {pol : ByteArray} {codes : List (List UInt8)} {e n : Int} {sec : ByteArray} {c : Int} (h1 : mkE pol codes e sec n = c) (h2 : c ≠ 0) : mkPV root pol codes e sec n = .tup [.agg [.lit (.string { data := #[] }), .lit (.int .i64 0), .sl 18 0 (boxF [])], .one (.lit (.int .i64 c))] := by
  unfold mkPV mkV
  rw [h1, if_neg h2]
  rfl
def mkSt (root : List UInt8) (pol : ByteArray) (codes : List (List UInt8)) (e : Int) (sec : ByteArray) (n : Int) (k : Nat) : St := ⟨[(12, none, pv1 (.pt 4 0 0)), (14, none, pv1 (.fn (.func 56) [] [.pt 0 0 0, .pt 1 0 0, .pt 3 0 0, .pt 2 0 0])), (15, none, pv1 (.pt 6003 0 0)), (47, none, pv1 (.sl 16 codes.length (digF codes))), (48, none, pvI codes.length), (49, none, pvI k)],
  [(0, none, 0, .box 23 [.bs 16 root]), (1, none, 0, .box 3 [.lit (.int .i64 e)]), (2, none, 0, .box 9 [.lit (.string sec)]), (3, none, 0, .box 3 [.lit (.int .i64 n)]), (4, none, 0, .box 41 seal0),
   (6003, none, 0, .box 41 [.lit (.string pol), .lit (.int .i64 e), .ow 10006 0 18 0 k]), (10006, none, 0, .arr 27 18 k (boxF (mkBoxes root codes e n sec k)))]⟩
set_option maxRecDepth 100000 in
set_option maxHeartbeats 2000000 in
theorem make_fun (root : List UInt8) (pol : ByteArray) (codes : List (List UInt8)) (e : Int) (sec : ByteArray) (n : Int) (he : i64P e) (hn' : i64P n) : FunOk Tryd.prog ShaMem 20 true [digPV root, lit1 (.string pol), pv1 (.sl 16 codes.length (digF codes)), pvI e, lit1 (.string sec), pvI n] (mkPV root pol codes e sec n) := by
  have M := sl6M
  have hbt : Tryd.prog.types[27].bytes = 40 := by kernel_rfl
  refine funOk_of Tryd.func20 rfl rfl sha_ext (fun A hS hn hI => ?_)
  refine tri_reg M hI hn (outs := ?_) (s' := ?_) ?_ ?_ ?_ ?_
  rotate_left 2
  · rfl
  · kernel_rfl
  · simp
  refine tri_seq ?_
  refine tri_reg M hI hn (outs := ?_) (s' := ?_) ?_ ?_ ?_ ?_
  rotate_left 2
  · rfl
  · kernel_rfl
  · simp
  refine tri_cond (b := ?_) ?_ (fun hc => ?_) (fun hc => ?_)
  rotate_left 1
  · rfl
  · have hor : e < 0 ∨ 16 < e ∨ n < 0 := by
      by_cases h1 : e < 0
      · exact .inl h1
      · by_cases h2 : 16 < e
        · exact .inr (.inl h2)
        · simp [h1, h2] at hc
          exact .inr (.inr hc)
    have hE : mkE pol codes e sec n = 1 := if_pos hor
    refine tri_reg M hI hn (outs := ?_) (s' := ?_) ?_ ?_ ?_ ?_
    rotate_left 2
    · rfl
    · kernel_rfl
    · simp
    refine tri_ret (fun a w hg => ⟨.inr rfl, _, ?_, hg⟩)
    refine retTo_ex (out := ?_) ?_ ?_ ?_ ?_
    rotate_left 1
    · rfl
    · simp
    · rfl
    · rw [mkPV_err hE (by decide)]
      exact .tup (.cons (.agg (.cons (.cold rfl) (.cons (.cold rfl) (.cons .nil .nil)))) (.cons (.one (.cold rfl)) .nil))
  · have hnor : ¬ (e < 0 ∨ 16 < e ∨ n < 0) := by
      rintro (h | h | h)
      · simp [h] at hc
      · by_cases h1 : e < 0 <;> simp [h1, h] at hc
      · by_cases h1 : e < 0 <;> by_cases h2 : 16 < e <;> simp [h1, h2, h] at hc
    refine tri_skip ?_
    change Tri _ _ _ _ _
    refine tri_seq ?_
    refine tri_reg M hI hn (outs := ?_) (s' := ?_) ?_ ?_ ?_ ?_
    rotate_left 2
    · rfl
    · kernel_rfl
    · simp
    refine tri_cond (b := ?_) ?_ (fun hc => ?_) (fun hc => ?_)
    rotate_left 1
    · rfl
    · have hor2 : 64 < codes.length ∨ 64 < sec.size ∨ 1500 < pol.size := by
        by_cases h1 : (64 : Int) < codes.length
        · exact .inl (by omega)
        · by_cases h2 : (64 : Int) < sec.size
          · exact .inr (.inl (by omega))
          · simp [h1, h2] at hc
            exact .inr (.inr (by omega))
      have hE : mkE pol codes e sec n = 2 := by unfold mkE; rw [if_neg hnor, if_pos hor2]
      refine tri_reg M hI hn (outs := ?_) (s' := ?_) ?_ ?_ ?_ ?_
      rotate_left 2
      · rfl
      · kernel_rfl
      · simp
      refine tri_ret (fun a w hg => ⟨.inr rfl, _, ?_, hg⟩)
      refine retTo_ex (out := ?_) ?_ ?_ ?_ ?_
      rotate_left 1
      · rfl
      · simp
      · rfl
      · rw [mkPV_err hE (by decide)]
        exact .tup (.cons (.agg (.cons (.cold rfl) (.cons (.cold rfl) (.cons .nil .nil)))) (.cons (.one (.cold rfl)) .nil))
    · have hnor2 : ¬ (64 < codes.length ∨ 64 < sec.size ∨ 1500 < pol.size) := by
        rintro (h | h | h)
        · have h' : (64 : Int) < codes.length := by omega
          simp [h'] at hc
        · have h' : (64 : Int) < sec.size := by omega
          by_cases h1 : (64 : Int) < codes.length <;> simp [h1, h'] at hc
        · have h' : (1500 : Int) < pol.size := by omega
          by_cases h1 : (64 : Int) < codes.length <;> by_cases h2 : (64 : Int) < sec.size <;> simp [h1, h2, h'] at hc
      have hE : mkE pol codes e sec n = 0 := by unfold mkE; rw [if_neg hnor, if_neg hnor2]
      refine tri_skip ?_
      change Tri _ _ _ _ _
      refine tri_reg M hI hn (outs := ?_) (s' := ?_) ?_ ?_ ?_ ?_
      rotate_left 2
      · rfl
      · kernel_rfl
      · simp
      refine tri_reg M hI hn (outs := ?_) (s' := ?_) ?_ ?_ ?_ ?_
      rotate_left 2
      · rfl
      · kernel_rfl
      · simp
      refine tri_seq ?_
      refine tri_reg M hI hn (outs := ?_) (s' := ?_) ?_ ?_ ?_ ?_
      rotate_left 2
      · rfl
      · kernel_rfl
      · simp
      refine tri_conv (s' := mkSt root pol codes e sec n 0) (fun a w hg => ((hg.nilRowB (x := 10006) (b := 6003) (e := 27) (n := 18) (l1 := [.lit (.string pol), .lit (.int .i64 e)]) (l2 := []) (by rfl) (by rfl)).reset (kT := [12, 14, 15, 47, 48, 49]) (kO := [0, 1, 2, 3, 4, 6003, 10006]) (by rfl) (by simp)).same ?_ ?_) ?_
      · exact .cons rfl (.cons rfl (.cons rfl (.cons rfl (.cons rfl (.cons rfl .nil)))))
      · exact .cons (.box rfl) (.cons (.box rfl) (.cons (.box rfl) (.cons (.box rfl) (.cons (.box rfl) (.cons (.box rfl) (.cons (.arr rfl (fun i hi => by omega)) .nil))))))
      refine tri_block ?_
      refine tri_loop codes.length (fun k s => s = mkSt root pol codes e sec n k) 0 rfl (by omega) (fun k s hJ hk => ?_)
      subst hJ
      have hlen := mkBoxes_len (root := root) (e := e) (n := n) (sec := sec) hk
      refine tri_reg M hI hn (outs := ?_) (s' := ?_) ?_ ?_ ?_ ?_
      rotate_left 2
      · rfl
      · kernel_rfl
      · simp
      refine tri_seq ?_
      refine tri_cond (b := ?_) ?_ (fun hc => ?_) (fun hc => ?_)
      rotate_left 1
      · rfl
      · have hk2 : k < codes.length := by simpa using hc
        refine tri_skip ?_
        change Tri _ _ _ _ _
        refine tri_seq ?_
        refine tri_block ?_
        refine tri_reg M hI hn (outs := ?_) (s' := ?_) ?_ ?_ ?_ ?_
        rotate_left 2
        · rfl
        · kernel_rfl
        · simp
          exact hk2
        refine tri_region M hI hn (outs := ?_) (s' := ?_) ?_ ?_ ?_ ?_
        rotate_left 2
        · rfl
        · kernel_rfl
        · simp [he, hn']
          rw [hbt]
          omega
        change Tri _ _ _ _ _
        refine tri_region M hI hn (outs := ?_) (s' := ?_) ?_ ?_ ?_ ?_
        rotate_left 2
        · rfl
        · kernel_rfl
        · simp
        intro a w hg
        refine ⟨k + 1, _, by omega, by omega, rfl, (hg.reset (kT := [12, 14, 15, 47, 48, 49]) (kO := [0, 1, 2, 3, 4, 6003, 10006]) (by rfl) ?_).same ?_ ?_⟩
        · simp only [All, and_true, List.append_nil, List.nil_append]
          intro i hi
          unfold appF
          split
          · rfl
          · rw [show i - k = 0 from by omega]
            rfl
        · exact .cons rfl (.cons rfl (.cons rfl (.cons rfl (.cons rfl (.cons (by rw [wrap_nat k (by omega)]) .nil)))))
        · refine .cons (.box rfl) (.cons (.box rfl) (.cons (.box rfl) (.cons (.box rfl) (.cons (.box rfl) (.cons (.box rfl) (.cons (.arr rfl (fun i hi => ?_)) .nil))))))
          rw [mkBoxes_succ hk2, boxF_snoc hlen i hi]
          unfold appF
          split
          · rfl
          · rw [show i - k = 0 from by omega]
            rfl
      · have hkk : k = codes.length := by
          have : ¬ k < codes.length := by simpa using hc
          omega
        subst hkk
        refine tri_exit ?_   -- exit 0
        change Tri _ _ _ _ _
        refine tri_reg M hI hn (outs := ?_) (s' := ?_) ?_ ?_ ?_ ?_
        rotate_left 2
        · rfl
        · kernel_rfl
        · simp
        refine tri_ret (fun a w hg => ⟨.inr rfl, _, ?_, hg⟩)
        refine retTo_ex (out := ?_) ?_ ?_ ?_ ?_
        rotate_left 1
        · rfl
        · simp
        · rfl
        · have e1 : mkPV root pol codes e sec n = .tup [.agg [.lit (.string pol), .lit (.int .i64 e), .sl 18 codes.length (boxF (mkBoxes root codes e n sec codes.length))], .one (.lit (.int .i64 0))] := by
            unfold mkPV mkV sealL
            rw [hE, if_pos rfl]
            dsimp only
            rw [hlen]
          rw [e1]
          exact .tup (.cons (.agg (.cons (.cold rfl) (.cons (.cold rfl) (.cons (.row rfl trivial (by omega) (fun j hj => by rw [Nat.zero_add]) (fun j hj => rfl)) .nil)))) (.cons (.one (.cold rfl)) .nil))

end Go.Proofs.YtgndblhpfjkfhaaDoor.Pv

/-
  Package seal by the abstract machine: the reference's sealing; opening; comparison.
-/
namespace Go.Proofs.YtgndblhpfjkfhaaDoor.Pv
open Go.RowKit

def rmkSt (root : List UInt8) (pol : ByteArray) (codes : List (List UInt8)) (e : Int) (sec : ByteArray) (n : Int) (k : Nat) : St := ⟨[(2, none, pv1 (.sl 16 codes.length (digF codes))), (3, none, pvI e), (4, none, lit1 (.string sec)), (5, none, pvI n), (6, none, pv1 (.pt 0 0 0)), (12, none, pv1 (.pt 1 0 0)), (14, none, pv1 (.pt 5003 0 0)), (15, none, pvI k)],
  [(0, none, 0, .box 23 [.bs 16 root]), (1, none, 0, .box 41 seal0),
   (5003, none, 0, .box 41 [.lit (.string pol), .lit (.int .i64 e), .ow 9013 0 18 0 k]), (9013, none, 0, .arr 27 18 k (boxF (mkBoxes root codes e n sec k)))]⟩
set_option maxRecDepth 100000 in
set_option maxHeartbeats 2000000 in
theorem rmake_fun (root : List UInt8) (pol : ByteArray) (codes : List (List UInt8)) (e : Int) (sec : ByteArray) (n : Int) (he : i64P e) (hn' : i64P n) : FunOk Tryd.prog ShaMem 21 true [digPV root, lit1 (.string pol), pv1 (.sl 16 codes.length (digF codes)), pvI e, lit1 (.string sec), pvI n] (mkPV root pol codes e sec n) := by
  have M := sl6M
  have hbt : Tryd.prog.types[27].bytes = 40 := by kernel_rfl
  refine funOk_of Tryd.func21 rfl rfl sha_ext (fun A hS hn hI => ?_)
  refine tri_reg M hI hn (outs := ?_) (s' := ?_) ?_ ?_ ?_ ?_
  rotate_left 2
  · rfl
  · kernel_rfl
  · simp
  refine tri_seq ?_
  refine tri_reg M hI hn (outs := ?_) (s' := ?_) ?_ ?_ ?_ ?_
  rotate_left 2
  · rfl
  · kernel_rfl
  · simp
  refine tri_cond (b := ?_) ?_ (fun hc => ?_) (fun hc => ?_)
  rotate_left 1
  · rfl
  · have hor : e < 0 ∨ 16 < e ∨ n < 0 := by
      by_cases h1 : e < 0
      · exact .inl h1
      · by_cases h2 : 16 < e
        · exact .inr (.inl h2)
        · simp [h1, h2] at hc
          exact .inr (.inr hc)
    have hE : mkE pol codes e sec n = 1 := if_pos hor
    refine tri_reg M hI hn (outs := ?_) (s' := ?_) ?_ ?_ ?_ ?_
    rotate_left 2
    · rfl
    · kernel_rfl
    · simp
    refine tri_ret (fun a w hg => ⟨.inr rfl, _, ?_, hg⟩)
    refine retTo_ex (out := ?_) ?_ ?_ ?_ ?_
    rotate_left 1
    · rfl
    · simp
    · rfl
    · rw [mkPV_err hE (by decide)]
      exact .tup (.cons (.agg (.cons (.cold rfl) (.cons (.cold rfl) (.cons .nil .nil)))) (.cons (.one (.cold rfl)) .nil))
  · have hnor : ¬ (e < 0 ∨ 16 < e ∨ n < 0) := by
      rintro (h | h | h)
      · simp [h] at hc
      · by_cases h1 : e < 0 <;> simp [h1, h] at hc
      · by_cases h1 : e < 0 <;> by_cases h2 : 16 < e <;> simp [h1, h2, h] at hc
    refine tri_skip ?_
    change Tri _ _ _ _ _
    refine tri_seq ?_
    refine tri_reg M hI hn (outs := ?_) (s' := ?_) ?_ ?_ ?_ ?_
    rotate_left 2
    · rfl
    · kernel_rfl
    · simp
    refine tri_cond (b := ?_) ?_ (fun hc => ?_) (fun hc => ?_)
    rotate_left 1
    · rfl
    · have hor2 : 64 < codes.length ∨ 64 < sec.size ∨ 1500 < pol.size := by
        by_cases h1 : (64 : Int) < codes.length
        · exact .inl (by omega)
        · by_cases h2 : (64 : Int) < sec.size
          · exact .inr (.inl (by omega))
          · simp [h1, h2] at hc
            exact .inr (.inr (by omega))
      have hE : mkE pol codes e sec n = 2 := by unfold mkE; rw [if_neg hnor, if_pos hor2]
      refine tri_reg M hI hn (outs := ?_) (s' := ?_) ?_ ?_ ?_ ?_
      rotate_left 2
      · rfl
      · kernel_rfl
      · simp
      refine tri_ret (fun a w hg => ⟨.inr rfl, _, ?_, hg⟩)
      refine retTo_ex (out := ?_) ?_ ?_ ?_ ?_
      rotate_left 1
      · rfl
      · simp
      · rfl
      · rw [mkPV_err hE (by decide)]
        exact .tup (.cons (.agg (.cons (.cold rfl) (.cons (.cold rfl) (.cons .nil .nil)))) (.cons (.one (.cold rfl)) .nil))
    · have hnor2 : ¬ (64 < codes.length ∨ 64 < sec.size ∨ 1500 < pol.size) := by
        rintro (h | h | h)
        · have h' : (64 : Int) < codes.length := by omega
          simp [h'] at hc
        · have h' : (64 : Int) < sec.size := by omega
          by_cases h1 : (64 : Int) < codes.length <;> simp [h1, h'] at hc
        · have h' : (1500 : Int) < pol.size := by omega
          by_cases h1 : (64 : Int) < codes.length <;> by_cases h2 : (64 : Int) < sec.size <;> simp [h1, h2, h'] at hc
      have hE : mkE pol codes e sec n = 0 := by unfold mkE; rw [if_neg hnor, if_neg hnor2]
      refine tri_skip ?_
      change Tri _ _ _ _ _
      refine tri_reg M hI hn (outs := ?_) (s' := ?_) ?_ ?_ ?_ ?_
      rotate_left 2
      · rfl
      · kernel_rfl
      · simp
      refine tri_seq ?_
      refine tri_reg M hI hn (outs := ?_) (s' := ?_) ?_ ?_ ?_ ?_
      rotate_left 2
      · rfl
      · kernel_rfl
      · simp
      refine tri_conv (s' := rmkSt root pol codes e sec n 0) (fun a w hg => ((hg.nilRowB (x := 9013) (b := 5003) (e := 27) (n := 18) (l1 := [.lit (.string pol), .lit (.int .i64 e)]) (l2 := []) (by rfl) (by rfl)).reset (kT := [2, 3, 4, 5, 6, 12, 14, 15]) (kO := [0, 1, 5003, 9013]) (by rfl) (by simp)).same ?_ ?_) ?_
      · exact .cons rfl (.cons rfl (.cons rfl (.cons rfl (.cons rfl (.cons rfl (.cons rfl (.cons rfl .nil)))))))
      · exact .cons (.box rfl) (.cons (.box rfl) (.cons (.box rfl) (.cons (.arr rfl (fun i hi => by omega)) .nil)))
      refine tri_block ?_
      refine tri_loop codes.length (fun k s => s = rmkSt root pol codes e sec n k) 0 rfl (by omega) (fun k s hJ hk => ?_)
      subst hJ
      have hlen := mkBoxes_len (root := root) (e := e) (n := n) (sec := sec) hk
      refine tri_seq ?_
      refine tri_reg M hI hn (outs := ?_) (s' := ?_) ?_ ?_ ?_ ?_
      rotate_left 2
      · rfl
      · kernel_rfl
      · simp
      refine tri_cond (b := ?_) ?_ (fun hc => ?_) (fun hc => ?_)
      rotate_left 1
      · rfl
      · have hk2 : k < codes.length := by simpa using hc
        refine tri_skip ?_
        change Tri _ _ _ _ _
        refine tri_seq ?_
        refine tri_block ?_
        refine tri_region M hI hn (outs := ?_) (s' := ?_) ?_ ?_ ?_ ?_
        rotate_left 2
        · rfl
        · kernel_rfl
        · simp [he, hn']
          rw [hbt]
          omega
        change Tri _ _ _ _ _
        refine tri_region M hI hn (outs := ?_) (s' := ?_) ?_ ?_ ?_ ?_
        rotate_left 2
        · rfl
        · kernel_rfl
        · simp
        intro a w hg
        refine ⟨k + 1, _, by omega, by omega, rfl, (hg.reset (kT := [2, 3, 4, 5, 6, 12, 14, 15]) (kO := [0, 1, 5003, 9013]) (by rfl) ?_).same ?_ ?_⟩
        · simp only [All, and_true, List.append_nil, List.nil_append]
          intro i hi
          unfold appF
          split
          · rfl
          · rw [show i - k = 0 from by omega]
            rfl
        · exact .cons rfl (.cons rfl (.cons rfl (.cons rfl (.cons rfl (.cons rfl (.cons rfl (.cons (by rw [wrap_nat k (by omega)]) .nil)))))))
        · refine .cons (.box rfl) (.cons (.box rfl) (.cons (.box rfl) (.cons (.arr rfl (fun i hi => ?_)) .nil)))
          rw [mkBoxes_succ hk2, boxF_snoc hlen i hi]
          unfold appF
          split
          · rfl
          · rw [show i - k = 0 from by omega]
            rfl
      · have hkk : k = codes.length := by
          have : ¬ k < codes.length := by simpa using hc
          omega
        subst hkk
        refine tri_exit ?_   -- exit 0
        change Tri _ _ _ _ _
        refine tri_reg M hI hn (outs := ?_) (s' := ?_) ?_ ?_ ?_ ?_
        rotate_left 2
        · rfl
        · kernel_rfl
        · simp
        refine tri_ret (fun a w hg => ⟨.inr rfl, _, ?_, hg⟩)
        refine retTo_ex (out := ?_) ?_ ?_ ?_ ?_
        rotate_left 1
        · rfl
        · simp
        · rfl
        · have e1 : mkPV root pol codes e sec n = .tup [.agg [.lit (.string pol), .lit (.int .i64 e), .sl 18 codes.length (boxF (mkBoxes root codes e n sec codes.length))], .one (.lit (.int .i64 0))] := by
            unfold mkPV mkV sealL
            rw [hE, if_pos rfl]
            dsimp only
            rw [hlen]
          rw [e1]
          exact .tup (.cons (.agg (.cons (.cold rfl) (.cons (.cold rfl) (.cons (.row rfl trivial (by omega) (fun j hj => by rw [Nat.zero_add]) (fun j hj => rfl)) .nil)))) (.cons (.one (.cold rfl)) .nil))

/-! ### Opening -/
def opB (key : List UInt8) (b : BoxS) : Bool := opened key b.nonce b.cipher b.tag
def opS (key : List UInt8) : List BoxS → ByteArray × Int
  | [] => ({ data := #[] }, 18)
  | b :: l => bif opB key b then (strOf (applyS key b.nonce b.cipher.data.toList), 0) else opS key l
def opPV (r : ByteArray × Int) : PV := .tup [.one (.lit (.string r.1)), .one (.lit (.int .i64 r.2))]
theorem opS_drop (key : List UInt8) (l : List BoxS) : ∀ k, k ≤ l.length → (∀ i, i < k → opB key (l.getD i default) = false) → opS key l = opS key (l.drop k) := by
  intro k
  induction k with
  | zero => intro _ _; rfl
  | succ k ih =>
    intro hk h
    rw [ih (by omega) (fun i hi => h i (by omega)), List.drop_eq_getElem_cons (show k < l.length by omega)]
    have := h k (by omega)
    rw [List.getD_eq_getElem?_getD, List.getElem?_eq_getElem (show k < l.length by omega)] at this
    show (bif opB key l[k] then (strOf (applyS key l[k].nonce l[k].cipher.data.toList), 0) else opS key (l.drop (k + 1))) = _
    rw [show opB key l[k] = false from this]
    rfl
theorem opS_found (key : List UInt8) (l : List BoxS) (k : Nat) (hk : k < l.length) (h : ∀ i, i < k → opB key (l.getD i default) = false) (ho : opB key (l.getD k default) = true) : opS key l = (strOf (applyS key (l.getD k default).nonce (l.getD k default).cipher.data.toList), 0) := by
  rw [opS_drop key l k (by omega) h, List.drop_eq_getElem_cons hk]
  rw [List.getD_eq_getElem?_getD, List.getElem?_eq_getElem hk] at ho ⊢
  unfold opS
  rw [show opB key l[k] = true from ho]
  rfl
theorem opS_none (key : List UInt8) (l : List BoxS) (h : ∀ i, i < l.length → opB key (l.getD i default) = false) : opS key l = ({ data := #[] }, 18) := by
  rw [opS_drop key l l.length (Nat.le_refl _) h, List.drop_length]
  rfl
def opSt (root code : List UInt8) (e : Int) (s : SealS) (k : Nat) : St := ⟨[(10, none, pv1 (.pt 1004 0 0)), (20, none, pv1 (.sl 18 s.boxes.length (boxF s.boxes))), (21, none, pvI s.boxes.length), (22, none, pvI k)],
  [(1004, none, 0, .box 23 [.bs 16 (sealKeyS root code e)])]⟩
set_option maxRecDepth 100000 in
set_option maxHeartbeats 2000000 in
theorem open_fun (root code : List UInt8) (e : Int) (s : SealS) (he : i64P e) (hs : ∀ b ∈ s.boxes, i64P b.nonce ∧ b.cipher.size ≤ 10000) (hl : s.boxes.length ≤ 1000000) : FunOk Tryd.prog ShaMem 26 true [digPV root, digPV code, pvI e, sealPV s] (opPV (opS (sealKeyS root code e) s.boxes)) := by
  have M := sl6M
  refine funOk_of Tryd.func26 rfl rfl sha_ext (fun A hS hn hI => ?_)
  refine tri_reg M hI hn (outs := ?_) (s' := ?_) ?_ ?_ ?_ ?_
  rotate_left 2
  · rfl
  · kernel_rfl
  · simp
  refine tri_reg M hI hn (outs := ?_) (s' := ?_) ?_ ?_ ?_ ?_
  rotate_left 2
  · rfl
  · kernel_rfl
  · simp [he]
  refine tri_seq ?_
  refine tri_reg M hI hn (outs := ?_) (s' := ?_) ?_ ?_ ?_ ?_
  rotate_left 2
  · rfl
  · kernel_rfl
  · simp
  refine tri_conv (s' := opSt root code e s 0) (fun a w hg => (hg.reset (kT := [10, 20, 21, 22]) (kO := [1004]) (by rfl) (by simp)).same ?_ ?_) ?_
  · exact .cons rfl (.cons rfl (.cons rfl (.cons rfl .nil)))
  · exact .cons (.box rfl) .nil
  refine tri_block ?_
  refine tri_loop s.boxes.length (fun k t => t = opSt root code e s k ∧ ∀ i, i < k → opB (sealKeyS root code e) (s.boxes.getD i default) = false) 0 ⟨rfl, fun i hi => by omega⟩ (by omega) (fun k t hJ hk => ?_)
  obtain ⟨rfl, hno⟩ := hJ
  refine tri_reg M hI hn (outs := ?_) (s' := ?_) ?_ ?_ ?_ ?_
  rotate_left 2
  · rfl
  · kernel_rfl
  · simp
  refine tri_seq ?_
  refine tri_cond (b := ?_) ?_ (fun hc => ?_) (fun hc => ?_)
  rotate_left 1
  · rfl
  · have hk2 : k < s.boxes.length := by simpa using hc
    have hbk := hs _ (getD_mem hk2 default)
    refine tri_skip ?_
    change Tri _ _ _ _ _
    refine tri_seq ?_
    refine tri_block ?_
    refine tri_reg M hI hn (outs := ?_) (s' := ?_) ?_ ?_ ?_ ?_
    rotate_left 2
    · rfl
    · kernel_rfl
    · simp
      exact hk2
    refine tri_reg M hI hn (outs := ?_) (s' := ?_) ?_ ?_ ?_ ?_
    rotate_left 2
    · rfl
    · kernel_rfl
    · simp only [All, hP, List.map_cons, List.map_nil, List.flatten_cons, List.flatten_nil, List.append_nil, List.nil_append, List.cons_append, and_true, Int.toNat_natCast]
      exact ⟨hbk.1, by omega⟩
    refine tri_reg M hI hn (outs := ?_) (s' := ?_) ?_ ?_ ?_ ?_
    rotate_left 2
    · rfl
    · kernel_rfl
    · simp
    have hopn : opB (sealKeyS root code e) (s.boxes.getD k default) = opened (sealKeyS root code e) (s.boxes.getD k default).nonce (s.boxes.getD k default).cipher (s.boxes.getD k default).tag := rfl
    refine tri_cond (b := ?_) ?_ (fun hc => ?_) (fun hc => ?_)
    rotate_left 1
    · rfl
    · have ho : opB (sealKeyS root code e) (s.boxes.getD k default) = true := by
        rw [Int.toNat_natCast, ← hopn] at hc
        cases h : opB (sealKeyS root code e) (s.boxes.getD k default) with
        | true => rfl
        | false => rw [h] at hc; simp at hc
      have hR := opS_found _ _ k hk2 hno ho
      refine tri_reg M hI hn (outs := ?_) (s' := ?_) ?_ ?_ ?_ ?_
      rotate_left 2
      · rfl
      · kernel_rfl
      · simp
      refine tri_ret (fun a w hg => ⟨.inr rfl, _, ?_, hg⟩)
      refine retTo_cold (out := ?_) ?_ ?_ ?_ ?_ ?_
      rotate_left 1
      · rfl
      · simp
      · rfl
      · rfl
      rw [hR, Int.toNat_natCast, ← hopn, ho]
      rfl
    · have ho : opB (sealKeyS root code e) (s.boxes.getD k default) = false := by
        rw [Int.toNat_natCast, ← hopn] at hc
        cases h : opB (sealKeyS root code e) (s.boxes.getD k default) with
        | false => rfl
        | true => rw [h] at hc; simp at hc
      refine tri_skip ?_
      change Tri _ _ _ _ _
      refine tri_region M hI hn (outs := ?_) (s' := ?_) ?_ ?_ ?_ ?_
      rotate_left 2
      · rfl
      · kernel_rfl
      · simp
      intro a w hg
      refine ⟨k + 1, _, by omega, by omega, ⟨rfl, fun i hi => ?_⟩, (hg.reset (kT := [10, 20, 21, 22]) (kO := [1004]) (by rfl) (by simp)).same ?_ ?_⟩
      · rcases Nat.lt_or_eq_of_le (Nat.le_of_lt_succ hi) with h | rfl
        · exact hno i h
        · exact ho
      · exact .cons rfl (.cons rfl (.cons rfl (.cons (by rw [wrap_nat k (by omega)]) .nil)))
      · exact .cons (.box rfl) .nil
  · have hkk : k = s.boxes.length := by
      have : ¬ k < s.boxes.length := by simpa using hc
      omega
    have hR := opS_none (sealKeyS root code e) s.boxes (fun i hi => hno i (by omega))
    refine tri_exit ?_   -- exit 0
    change Tri _ _ _ _ _
    refine tri_reg M hI hn (outs := ?_) (s' := ?_) ?_ ?_ ?_ ?_
    rotate_left 2
    · rfl
    · kernel_rfl
    · simp
    refine tri_ret (fun a w hg => ⟨.inr rfl, _, ?_, hg⟩)
    refine retTo_cold (out := ?_) ?_ ?_ ?_ ?_ ?_
    rotate_left 1
    · rfl
    · simp
    · rfl
    · rfl
    rw [hR]
    rfl

def ropSt (root code : List UInt8) (e : Int) (s : SealS) (k : Nat) : St := ⟨[(2, none, pvI e), (4, none, pv1 (.pt 0 0 0)), (5, none, pv1 (.pt 1 0 0)), (7, none, pv1 (.pt 2 0 0)), (10, none, pvI k)],
  [(0, none, 0, .box 23 [.bs 16 root]), (1, none, 0, .box 23 [.bs 16 code]), (2, none, 0, .box 41 (sealL s))]⟩
set_option maxRecDepth 100000 in
set_option maxHeartbeats 2000000 in
theorem ropen_fun (root code : List UInt8) (e : Int) (s : SealS) (he : i64P e) (hs : ∀ b ∈ s.boxes, i64P b.nonce ∧ b.cipher.size ≤ 10000) (hl : s.boxes.length ≤ 1000000) : FunOk Tryd.prog ShaMem 27 true [digPV root, digPV code, pvI e, sealPV s] (opPV (opS (sealKeyS root code e) s.boxes)) := by
  have M := sl6M
  refine funOk_of Tryd.func27 rfl rfl sha_ext (fun A hS hn hI => ?_)
  refine tri_reg M hI hn (outs := ?_) (s' := ?_) ?_ ?_ ?_ ?_
  rotate_left 2
  · rfl
  · kernel_rfl
  · simp
  refine tri_seq ?_
  refine tri_reg M hI hn (outs := ?_) (s' := ?_) ?_ ?_ ?_ ?_
  rotate_left 2
  · rfl
  · kernel_rfl
  · simp
  refine tri_conv (s' := ropSt root code e s 0) (fun a w hg => (hg.reset (kT := [2, 4, 5, 7, 10]) (kO := [0, 1, 2]) (by rfl) (by simp)).same ?_ ?_) ?_
  · exact .cons rfl (.cons rfl (.cons rfl (.cons rfl (.cons rfl .nil))))
  · exact .cons (.box rfl) (.cons (.box rfl) (.cons (.box rfl) .nil))
  refine tri_block ?_
  refine tri_loop s.boxes.length (fun k t => t = ropSt root code e s k ∧ ∀ i, i < k → opB (sealKeyS root code e) (s.boxes.getD i default) = false) 0 ⟨rfl, fun i hi => by omega⟩ (by omega) (fun k t hJ hk => ?_)
  obtain ⟨rfl, hno⟩ := hJ
  refine tri_seq ?_
  refine tri_reg M hI hn (outs := ?_) (s' := ?_) ?_ ?_ ?_ ?_
  rotate_left 2
  · rfl
  · kernel_rfl
  · simp
  refine tri_cond (b := ?_) ?_ (fun hc => ?_) (fun hc => ?_)
  rotate_left 1
  · rfl
  · have hk2 : k < s.boxes.length := by simpa using hc
    have hbk := hs _ (getD_mem hk2 default)
    refine tri_skip ?_
    change Tri _ _ _ _ _
    refine tri_seq ?_
    refine tri_block ?_
    refine tri_reg M hI hn (outs := ?_) (s' := ?_) ?_ ?_ ?_ ?_
    rotate_left 2
    · rfl
    · kernel_rfl
    · simp only [All, hP, List.map_cons, List.map_nil, List.flatten_cons, List.flatten_nil, List.append_nil, List.nil_append, List.cons_append, and_true, Int.toNat_natCast]
      exact ⟨he, ⟨by omega, by omega⟩, hbk.1, by omega⟩
    refine tri_reg M hI hn (outs := ?_) (s' := ?_) ?_ ?_ ?_ ?_
    rotate_left 2
    · rfl
    · kernel_rfl
    · simp
    have hopn : opB (sealKeyS root code e) (s.boxes.getD k default) = opened (sealKeyS root code e) (s.boxes.getD k default).nonce (s.boxes.getD k default).cipher (s.boxes.getD k default).tag := rfl
    refine tri_cond (b := ?_) ?_ (fun hc => ?_) (fun hc => ?_)
    rotate_left 1
    · rfl
    · have ho : opB (sealKeyS root code e) (s.boxes.getD k default) = true := by
        rw [Int.toNat_natCast, ← hopn] at hc
        cases h : opB (sealKeyS root code e) (s.boxes.getD k default) with
        | true => rfl
        | false => rw [h] at hc; simp at hc
      have hR := opS_found _ _ k hk2 hno ho
      refine tri_reg M hI hn (outs := ?_) (s' := ?_) ?_ ?_ ?_ ?_
      rotate_left 2
      · rfl
      · kernel_rfl
      · simp
      refine tri_ret (fun a w hg => ⟨.inr rfl, _, ?_, hg⟩)
      refine retTo_cold (out := ?_) ?_ ?_ ?_ ?_ ?_
      rotate_left 1
      · rfl
      · simp
      · rfl
      · rfl
      rw [hR, Int.toNat_natCast, ← hopn, ho]
      rfl
    · have ho : opB (sealKeyS root code e) (s.boxes.getD k default) = false := by
        rw [Int.toNat_natCast, ← hopn] at hc
        cases h : opB (sealKeyS root code e) (s.boxes.getD k default) with
        | false => rfl
        | true => rw [h] at hc; simp at hc
      refine tri_skip ?_
      change Tri _ _ _ _ _
      refine tri_region M hI hn (outs := ?_) (s' := ?_) ?_ ?_ ?_ ?_
      rotate_left 2
      · rfl
      · kernel_rfl
      · simp
      intro a w hg
      refine ⟨k + 1, _, by omega, by omega, ⟨rfl, fun i hi => ?_⟩, (hg.reset (kT := [2, 4, 5, 7, 10]) (kO := [0, 1, 2]) (by rfl) (by simp)).same ?_ ?_⟩
      · rcases Nat.lt_or_eq_of_le (Nat.le_of_lt_succ hi) with h | rfl
        · exact hno i h
        · exact ho
      · exact .cons rfl (.cons rfl (.cons rfl (.cons rfl (.cons (by rw [wrap_nat k (by omega)]) .nil))))
      · exact .cons (.box rfl) (.cons (.box rfl) (.cons (.box rfl) .nil))
  · have hkk : k = s.boxes.length := by
      have : ¬ k < s.boxes.length := by simpa using hc
      omega
    have hR := opS_none (sealKeyS root code e) s.boxes (fun i hi => hno i (by omega))
    refine tri_exit ?_   -- exit 0
    change Tri _ _ _ _ _
    refine tri_reg M hI hn (outs := ?_) (s' := ?_) ?_ ?_ ?_ ?_
    rotate_left 2
    · rfl
    · kernel_rfl
    · simp
    refine tri_ret (fun a w hg => ⟨.inr rfl, _, ?_, hg⟩)
    refine retTo_cold (out := ?_) ?_ ?_ ?_ ?_ ?_
    rotate_left 1
    · rfl
    · simp
    · rfl
    · rfl
    rw [hR]
    rfl

/-! ### Comparison; short ones -/
def ssSt (s : SealS) (k : Nat) : St := ⟨[(2, none, pv1 (.pt 0 0 0)), (3, none, pv1 (.pt 1 0 0)), (5, none, pvI k)],
  [(0, none, 0, .box 41 (sealL s)), (1, none, 0, .box 41 (sealL s))]⟩
set_option maxRecDepth 100000 in
set_option maxHeartbeats 2000000 in
theorem ssame_fun (s : SealS) (hl : s.boxes.length ≤ 1000000) : FunOk Tryd.prog ShaMem 24 true [sealPV s, sealPV s] (pvB true) := by
  have M := sl6M
  refine funOk_of Tryd.func24 rfl rfl sha_ext (fun A hS hn hI => ?_)
  refine tri_reg M hI hn (outs := ?_) (s' := ?_) ?_ ?_ ?_ ?_
  rotate_left 2
  · rfl
  · kernel_rfl
  · simp
  refine tri_seq ?_
  refine tri_reg M hI hn (outs := ?_) (s' := ?_) ?_ ?_ ?_ ?_
  rotate_left 2
  · rfl
  · kernel_rfl
  · simp
  refine tri_cond (b := ?_) ?_ (fun hc => ?_) (fun hc => ?_)
  rotate_left 1
  · rfl
  · simp at hc
  · refine tri_skip ?_
    change Tri _ _ _ _ _
    refine tri_seq ?_
    refine tri_reg M hI hn (outs := ?_) (s' := ?_) ?_ ?_ ?_ ?_
    rotate_left 2
    · rfl
    · kernel_rfl
    · simp
    refine tri_conv (s' := ssSt s 0) (fun a w hg => (hg.reset (kT := [2, 3, 5]) (kO := [0, 1]) (by rfl) (by simp)).same ?_ ?_) ?_
    · exact .cons rfl (.cons rfl (.cons rfl .nil))
    · exact .cons (.box rfl) (.cons (.box rfl) .nil)
    refine tri_block ?_
    refine tri_loop s.boxes.length (fun k t => t = ssSt s k) 0 rfl (by omega) (fun k t hJ hk => ?_)
    subst hJ
    refine tri_seq ?_
    refine tri_reg M hI hn (outs := ?_) (s' := ?_) ?_ ?_ ?_ ?_
    rotate_left 2
    · rfl
    · kernel_rfl
    · simp
    refine tri_cond (b := ?_) ?_ (fun hc => ?_) (fun hc => ?_)
    rotate_left 1
    · rfl
    · have hk2 : k < s.boxes.length := by simpa using hc
      refine tri_skip ?_
      change Tri _ _ _ _ _
      refine tri_seq ?_
      refine tri_block ?_
      refine tri_reg M hI hn (outs := ?_) (s' := ?_) ?_ ?_ ?_ ?_
      rotate_left 2
      · rfl
      · kernel_rfl
      · simp
        exact hk2
      refine tri_cond (b := ?_) ?_ (fun hc => ?_) (fun hc => ?_)
      rotate_left 1
      · rfl
      · simp at hc
      · refine tri_skip ?_
        change Tri _ _ _ _ _
        refine tri_region M hI hn (outs := ?_) (s' := ?_) ?_ ?_ ?_ ?_
        rotate_left 2
        · rfl
        · kernel_rfl
        · simp
        intro a w hg
        refine ⟨k + 1, _, by omega, by omega, rfl, (hg.reset (kT := [2, 3, 5]) (kO := [0, 1]) (by rfl) (by simp)).same ?_ ?_⟩
        · exact .cons rfl (.cons rfl (.cons (by rw [wrap_nat k (by omega)]) .nil))
        · exact .cons (.box rfl) (.cons (.box rfl) .nil)
    · refine tri_exit ?_   -- exit 0
      change Tri _ _ _ _ _
      refine tri_reg M hI hn (outs := ?_) (s' := ?_) ?_ ?_ ?_ ?_
      rotate_left 2
      · rfl
      · kernel_rfl
      · simp
      refine tri_ret (fun a w hg => ⟨.inr rfl, _, ?_, hg⟩)
      refine retTo_cold (out := ?_) ?_ ?_ ?_ ?_ ?_
      rotate_left 1
      · rfl
      · simp
      · rfl
      · rfl
      rfl
def fewS (s : SealS) : Bool := s.boxes.all (fun b => decide (b.cipher.size ≤ 200)) && (decide (s.boxes.length ≤ 70) && decide (s.pol.size ≤ 1600))
def fwSt (s : SealS) (k : Nat) : St := ⟨[(1, none, pv1 (.pt 0 0 0)), (6, none, pv1 (.sl 18 s.boxes.length (boxF s.boxes))), (7, none, pvI s.boxes.length), (8, none, pvI k)], [(0, none, 0, .box 41 (sealL s))]⟩
set_option maxRecDepth 100000 in
set_option maxHeartbeats 2000000 in
theorem few_fun (s : SealS) (hl : s.boxes.length < 9223372036854775808) : FunOk Tryd.prog ShaMem 25 true [sealPV s] (pvB (fewS s)) := by
  have M := sl6M
  refine funOk_of Tryd.func25 rfl rfl sha_ext (fun A hS hn hI => ?_)
  refine tri_reg M hI hn (outs := ?_) (s' := ?_) ?_ ?_ ?_ ?_
  rotate_left 2
  · rfl
  · kernel_rfl
  · simp
  refine tri_seq ?_
  refine tri_reg M hI hn (outs := ?_) (s' := ?_) ?_ ?_ ?_ ?_
  rotate_left 2
  · rfl
  · kernel_rfl
  · simp
  refine tri_conv (s' := fwSt s 0) (fun a w hg => (hg.reset (kT := [1, 6, 7, 8]) (kO := [0]) (by rfl) (by simp)).same ?_ ?_) ?_
  · exact .cons rfl (.cons rfl (.cons rfl (.cons rfl .nil)))
  · exact .cons (.box rfl) .nil
  refine tri_block ?_
  refine tri_loop s.boxes.length (fun k t => t = fwSt s k ∧ ∀ i, i < k → (s.boxes.getD i default).cipher.size ≤ 200) 0 ⟨rfl, fun i hi => by omega⟩ (by omega) (fun k t hJ hk => ?_)
  obtain ⟨rfl, hsm⟩ := hJ
  refine tri_reg M hI hn (outs := ?_) (s' := ?_) ?_ ?_ ?_ ?_
  rotate_left 2
  · rfl
  · kernel_rfl
  · simp
  refine tri_seq ?_
  refine tri_cond (b := ?_) ?_ (fun hc => ?_) (fun hc => ?_)
  rotate_left 1
  · rfl
  · have hk2 : k < s.boxes.length := by simpa using hc
    refine tri_skip ?_
    change Tri _ _ _ _ _
    refine tri_seq ?_
    refine tri_block ?_
    refine tri_reg M hI hn (outs := ?_) (s' := ?_) ?_ ?_ ?_ ?_
    rotate_left 2
    · rfl
    · kernel_rfl
    · simp
      exact hk2
    refine tri_reg M hI hn (outs := ?_) (s' := ?_) ?_ ?_ ?_ ?_
    rotate_left 2
    · rfl
    · kernel_rfl
    · simp
    refine tri_cond (b := ?_) ?_ (fun hc => ?_) (fun hc => ?_)
    rotate_left 1
    · rfl
    · have hbig : ¬ (s.boxes.getD k default).cipher.size ≤ 200 := by
        rw [Int.toNat_natCast] at hc
        have : ((s.boxes.getD k default).cipher.size : Int) > 200 := by simpa using hc
        omega
      have hR : fewS s = false := by
        unfold fewS
        rw [Bool.and_eq_false_iff]
        left
        rw [Bool.eq_false_iff]
        intro h
        exact hbig (by simpa using List.all_eq_true.1 h _ (getD_mem hk2 default))
      refine tri_reg M hI hn (outs := ?_) (s' := ?_) ?_ ?_ ?_ ?_
      rotate_left 2
      · rfl
      · kernel_rfl
      · simp
      refine tri_ret (fun a w hg => ⟨.inr rfl, _, ?_, hg⟩)
      refine retTo_cold (out := ?_) ?_ ?_ ?_ ?_ ?_
      rotate_left 1
      · rfl
      · simp
      · rfl
      · rfl
      rw [hR]
    · have hsmk : (s.boxes.getD k default).cipher.size ≤ 200 := by
        rw [Int.toNat_natCast] at hc
        have : ¬ ((s.boxes.getD k default).cipher.size : Int) > 200 := by simpa using hc
        omega
      refine tri_skip ?_
      change Tri _ _ _ _ _
      refine tri_region M hI hn (outs := ?_) (s' := ?_) ?_ ?_ ?_ ?_
      rotate_left 2
      · rfl
      · kernel_rfl
      · simp
      intro a w hg
      refine ⟨k + 1, _, by omega, by omega, ⟨rfl, fun i hi => ?_⟩, (hg.reset (kT := [1, 6, 7, 8]) (kO := [0]) (by rfl) (by simp)).same ?_ ?_⟩
      · rcases Nat.lt_or_eq_of_le (Nat.le_of_lt_succ hi) with h | rfl
        · exact hsm i h
        · exact hsmk
      · exact .cons rfl (.cons rfl (.cons rfl (.cons (by rw [wrap_nat k (by omega)]) .nil)))
      · exact .cons (.box rfl) .nil
  · have hkk : k = s.boxes.length := by
      have : ¬ k < s.boxes.length := by simpa using hc
      omega
    subst hkk
    have hall : s.boxes.all (fun b => decide (b.cipher.size ≤ 200)) = true := by
      rw [List.all_eq_true]
      intro b hb
      obtain ⟨i, hi⟩ := List.getElem?_of_mem hb
      have hlt := (List.getElem?_eq_some_iff.1 hi).1
      have := hsm i hlt
      rw [List.getD_eq_getElem?_getD, hi] at this
      simpa using this
    refine tri_exit ?_   -- exit 0
    change Tri _ _ _ _ _
    refine tri_reg M hI hn (outs := ?_) (s' := ?_) ?_ ?_ ?_ ?_
    rotate_left 2
    · rfl
    · kernel_rfl
    · simp
    refine tri_ret (fun a w hg => ⟨.inr rfl, _, ?_, hg⟩)
    refine retTo_cold (out := ?_) ?_ ?_ ?_ ?_ ?_
    rotate_left 1
    · rfl
    · simp
    · rfl
    · rfl
    unfold fewS
    rw [hall, Bool.true_and]
    by_cases h1 : s.boxes.length ≤ 70
    · have h1' : (s.boxes.length : Int) ≤ 70 := by omega
      by_cases h2 : s.pol.size ≤ 1600
      · have h2' : (s.pol.size : Int) ≤ 1600 := by omega
        simp [h1, h1', h2, h2']
      · have h2' : ¬ (s.pol.size : Int) ≤ 1600 := by omega
        simp [h1, h1', h2, h2']
    · have h1' : ¬ (s.boxes.length : Int) ≤ 70 := by omega
      simp [h1, h1']

end Go.Proofs.YtgndblhpfjkfhaaDoor.Pv

/-
  Sealed secrets: what is encoded is decoded, and what is decoded was encoded.
-/
namespace Go.Proofs.YtgndblhpfjkfhaaDoor.Pv
open Go.RowKit

theorem tkStr_enc (l r : List UInt8) (h : l.length < 4611686018427387904) : tkStr (wBytes l ++ r, 0) = (l, (r, 0)) := by
  unfold tkStr
  have e := getBS_wBytes l r h
  dsimp only
  rw [take_good (by rw [e]), e]
  simp
theorem tkInt_enc (n : Int) (r : List UInt8) (h : i64P n) : tkInt (wInt n ++ r, 0) = (n, (r, 0)) := by
  unfold tkInt
  have e := getS_wInt r h.1 h.2
  dsimp only
  rw [take_good (by rw [e]), e]
  simp
theorem tkBoxes_enc (n : Int) (r : List UInt8) (h0 : 0 ≤ n) (h1 : n ≤ 64) : tkBoxes (wInt n ++ r, 0) = (n, (r, 0)) := by
  unfold tkBoxes
  have e := getS_wInt r (n := n) (by omega) (by omega)
  have e2 : boxesS (wInt n ++ r) = (n, (wInt n).length, 0) := by
    unfold boxesS
    rw [e]
    dsimp only
    rw [if_neg (by omega)]
  dsimp only
  rw [take_good (by rw [e2]), e2]
  simp
theorem tkBoxes_big (n : Int) (r : List UInt8) (h0 : 64 < n) (h : i64P n) : (tkBoxes (wInt n ++ r, 0)).2.2 = 7 := by
  unfold tkBoxes
  have e := getS_wInt r h.1 h.2
  have e2 : (boxesS (wInt n ++ r)).2.2 = 7 := by
    unfold boxesS
    rw [e]
    dsimp only
    rw [if_pos ⟨rfl, .inr h0⟩]
  dsimp only
  rw [take_bad (by rw [e2]; decide), e2]
theorem tkTag_enc (l r : List UInt8) (h : l.length = 16) : tkTag (l ++ r, 0) = (l, (r, 0)) := by
  unfold tkTag
  have e : tagG (l ++ r) = (l, 16, 0) := by
    unfold tagG
    rw [if_neg (by simp; omega)]
    congr 1
    rw [List.take_left' h]
  dsimp only
  rw [take_good (by rw [e]), e]
  simp only
  rw [List.drop_left' h]
theorem tkBox_enc (b : BoxS) (r : List UInt8) (h : BoxOk b) : tkBox (encB b ++ r, 0) = (b, (r, 0)) := by
  unfold tkBox encB
  have h3 : b.cipher.data.toList.length = b.cipher.size := Array.length_toList
  have h4 := h.cipher
  rw [List.append_assoc, List.append_assoc, tkInt_enc _ _ h.nonce]
  dsimp only
  rw [tkStr_enc _ _ (by omega)]
  dsimp only
  rw [tkTag_enc _ _ h.tag]
  dsimp only
  rw [strOf_toList]
theorem rdS_enc (l : List BoxS) (r : List UInt8) (h : ∀ b ∈ l, BoxOk b) : ∀ k, k ≤ l.length → rdS (l.flatMap encB ++ r, 0) k = (l.take k, ((l.drop k).flatMap encB ++ r, 0)) := by
  intro k
  induction k with
  | zero => intro _; rfl
  | succ k ih =>
    intro hk
    have ih := ih (by omega)
    unfold rdS
    rw [ih]
    dsimp only
    rw [List.drop_eq_getElem_cons (show k < l.length by omega), List.flatMap_cons, List.append_assoc, tkBox_enc _ _ (h _ (List.getElem_mem _)), List.take_add_one, List.getElem?_eq_getElem (show k < l.length by omega)]
    rfl
theorem encS_eq (s : SealS) : encS s = wBytes s.pol.data.toList ++ (wInt s.epo ++ (wInt s.boxes.length ++ (s.boxes.flatMap encB ++ []))) := by
  unfold encS encP
  rw [List.take_length]
  simp
theorem enc_dec (s : SealS) (h : SealOk s) (hl : s.boxes.length ≤ 64) : decE (encS s) = 0 ∧ decV (encS s) = s := by
  have h3 : s.pol.data.toList.length = s.pol.size := Array.length_toList
  have h4 := h.pol
  have e1 : dec1 (encS s) = (s.pol.data.toList, (wInt s.epo ++ (wInt s.boxes.length ++ (s.boxes.flatMap encB ++ [])), 0)) := by
    unfold dec1
    rw [encS_eq, tkStr_enc _ _ (by omega)]
  have e2 : dec2 (encS s) = (s.epo, (wInt s.boxes.length ++ (s.boxes.flatMap encB ++ []), 0)) := by
    unfold dec2
    rw [e1, tkInt_enc _ _ h.epo]
  have e3 : dec3 (encS s) = ((s.boxes.length : Int), (s.boxes.flatMap encB ++ [], 0)) := by
    unfold dec3
    rw [e2, tkBoxes_enc _ _ (by omega) (by omega)]
  have eN : decN (encS s) = s.boxes.length := by unfold decN; rw [e3]; rfl
  have e4 := rdS_enc s.boxes [] h.box s.boxes.length (Nat.le_refl _)
  have eE : decE (encS s) = 0 := by
    unfold decE
    rw [eN, e3]
    dsimp only
    rw [e4]
    simp
  refine ⟨eE, ?_⟩
  unfold decV
  rw [if_pos eE, eN, e1, e2, e3]
  dsimp only
  rw [e4, strOf_toList, List.take_length]
theorem enc_big (s : SealS) (h : SealOk s) (hl : 64 < s.boxes.length) : decE (encS s) = 7 := by
  have h3 : s.pol.data.toList.length = s.pol.size := Array.length_toList
  have h4 := h.pol
  have h5 := h.len
  have e1 : dec1 (encS s) = (s.pol.data.toList, (wInt s.epo ++ (wInt s.boxes.length ++ (s.boxes.flatMap encB ++ [])), 0)) := by
    unfold dec1
    rw [encS_eq, tkStr_enc _ _ (by omega)]
  have e2 : dec2 (encS s) = (s.epo, (wInt s.boxes.length ++ (s.boxes.flatMap encB ++ []), 0)) := by
    unfold dec2
    rw [e1, tkInt_enc _ _ h.epo]
  have e3 : (dec3 (encS s)).2.2 = 7 := by
    unfold dec3
    rw [e2, tkBoxes_big _ _ (by omega) ⟨by omega, by omega⟩]
  rw [decE_err3 (by rw [e3]; decide), e3]
theorem take_inv {α : Type} {z : α} {g : List UInt8 → α × Nat × Int} {b : List UInt8} {e : Int} (h : (takeS z g b e).2.2 = 0) : e = 0 ∧ (g b).2.2 = 0 ∧ takeS z g b e = ((g b).1, b.drop (g b).2.1, 0) := by
  by_cases he : e = 0
  · subst he
    by_cases hg : (g b).2.2 = 0
    · exact ⟨rfl, hg, take_good hg⟩
    · rw [take_bad hg] at h
      exact absurd h hg
  · rw [take_err he] at h
    exact absurd h he
theorem tkInt_inv {d : Dec} (h : (tkInt d).2.2 = 0) : d.2 = 0 ∧ d.1 = wInt (tkInt d).1 ++ (tkInt d).2.1 ∧ i64P (tkInt d).1 := by
  obtain ⟨h1, h2, h3⟩ := take_inv h
  unfold tkInt
  rw [h3]
  have he : getS d.1 = ((getS d.1).1, (getS d.1).2.1, 0) := by rw [← h2]
  obtain ⟨h4, _, _, _, h5, h6⟩ := getS_ok he
  exact ⟨h1, by dsimp only; rw [← h4, List.take_append_drop], h5, h6⟩
theorem tkStr_inv {d : Dec} (h : (tkStr d).2.2 = 0) : d.2 = 0 ∧ d.1 = wBytes (tkStr d).1 ++ (tkStr d).2.1 := by
  obtain ⟨h1, h2, h3⟩ := take_inv h
  unfold tkStr
  rw [h3]
  have he : getBS d.1 = ((getBS d.1).1, (getBS d.1).2.1, 0) := by rw [← h2]
  obtain ⟨h4, _⟩ := getBS_ok he
  exact ⟨h1, by dsimp only; rw [← h4, List.take_append_drop]⟩
theorem tkTag_inv {d : Dec} (h : (tkTag d).2.2 = 0) : d.2 = 0 ∧ d.1 = (tkTag d).1 ++ (tkTag d).2.1 ∧ (tkTag d).1.length = 16 := by
  obtain ⟨h1, h2, h3⟩ := take_inv h
  unfold tkTag
  rw [h3]
  unfold tagG at h2 ⊢
  by_cases hl : d.1.length < 16
  · rw [if_pos hl] at h2; cases h2
  · rw [if_neg hl]
    exact ⟨h1, by dsimp only; rw [List.take_append_drop], by dsimp only; rw [List.length_take]; omega⟩
theorem tkBox_inv {d : Dec} (h : (tkBox d).2.2 = 0) : d.2 = 0 ∧ d.1 = encB (tkBox d).1 ++ (tkBox d).2.1 ∧ i64P (tkBox d).1.nonce ∧ (tkBox d).1.tag.length = 16 := by
  obtain ⟨h1, h2, h3⟩ := tkTag_inv h
  obtain ⟨h4, h5⟩ := tkStr_inv h1
  obtain ⟨h6, h7, h8⟩ := tkInt_inv h4
  refine ⟨h6, ?_, h8, h3⟩
  unfold encB tkBox
  dsimp only
  rw [strOf_list, List.append_assoc, List.append_assoc, ← h2, ← h5, ← h7]
theorem rdS_inv (d : Dec) : ∀ k, (rdS d k).2.2 = 0 → d.2 = 0 ∧ d.1 = (rdS d k).1.flatMap encB ++ (rdS d k).2.1 ∧ ∀ b ∈ (rdS d k).1, i64P b.nonce ∧ b.tag.length = 16 := by
  intro k
  induction k with
  | zero => intro h; exact ⟨h, rfl, fun b hb => by cases hb⟩
  | succ k ih =>
    intro h
    obtain ⟨h1, h2, h3, h4⟩ := tkBox_inv (d := (rdS d k).2) h
    obtain ⟨h5, h6, h7⟩ := ih h1
    refine ⟨h5, ?_, fun b hb => ?_⟩
    · unfold rdS
      dsimp only
      rw [List.flatMap_append, List.flatMap_singleton, List.append_assoc, ← h2, ← h6]
    · unfold rdS at hb
      rcases List.mem_append.1 hb with hb | hb
      · exact h7 b hb
      · rw [List.mem_singleton.1 hb]; exact ⟨h3, h4⟩
theorem decE_zero {t : List UInt8} (h : decE t = 0) : (rdS (dec3 t).2 (decN t)).2.2 = 0 ∧ (rdS (dec3 t).2 (decN t)).2.1 = [] := by
  unfold decE at h
  by_cases h1 : (rdS (dec3 t).2 (decN t)).2.2 = 0
  · rw [if_pos h1] at h
    refine ⟨h1, ?_⟩
    by_cases h2 : (rdS (dec3 t).2 (decN t)).2.1.length = 0
    · exact List.eq_nil_of_length_eq_zero h2
    · rw [if_neg h2] at h; cases h
  · rw [if_neg h1] at h; exact absurd h h1
theorem dec_enc {t : List UInt8} (h : decE t = 0) : encS (decV t) = t := by
  obtain ⟨h1, h2⟩ := decE_zero h
  obtain ⟨h3, h4, _⟩ := rdS_inv _ _ h1
  have hrg := dec3_rg t
  have hb : decV t = ⟨strOf (dec1 t).1, (dec2 t).1, (rdS (dec3 t).2 (decN t)).1⟩ := by unfold decV; rw [if_pos h]
  obtain ⟨k1, k2, k3⟩ := take_inv (z := (0 : Int)) (g := boxesS) (b := (dec2 t).2.1) (e := (dec2 t).2.2) h3
  have hgs : (getS (dec2 t).2.1).2.2 = 0 := by
    have k4 := k2
    unfold boxesS at k4
    dsimp only at k4
    split at k4
    · cases k4
    · exact k4
  have he : getS (dec2 t).2.1 = ((getS (dec2 t).2.1).1, (getS (dec2 t).2.1).2.1, 0) := by rw [← hgs]
  obtain ⟨k5, _⟩ := getS_ok he
  have h31 : (dec3 t).1 = (getS (dec2 t).2.1).1 := by
    show (takeS 0 boxesS (dec2 t).2.1 (dec2 t).2.2).1 = _
    rw [k3]; rfl
  have h32 : (dec2 t).2.1 = wInt (dec3 t).1 ++ (dec3 t).2.1 := by
    have e : (dec3 t).2.1 = (dec2 t).2.1.drop (getS (dec2 t).2.1).2.1 := by
      show (takeS 0 boxesS (dec2 t).2.1 (dec2 t).2.2).2.1 = _
      rw [k3]; rfl
    rw [e, h31, ← k5, List.take_append_drop]
  obtain ⟨k6, k7, _⟩ := tkInt_inv (d := (dec1 t).2) k1
  obtain ⟨_, k8⟩ := tkStr_inv (d := (t, 0)) k6
  have hN : ((decN t : Nat) : Int) = (dec3 t).1 := by unfold decN; omega
  rw [encS_eq, hb]
  dsimp only
  rw [strOf_list, rdS_len, hN, List.append_nil]
  have h4' : (dec3 t).2.1 = (rdS (dec3 t).2 (decN t)).1.flatMap encB := by rw [h2, List.append_nil] at h4; exact h4
  rw [← h4', ← h32]
  show wBytes (dec1 t).1 ++ (wInt (tkInt (dec1 t).2).1 ++ (tkInt (dec1 t).2).2.1) = t
  rw [← k7]
  exact k8.symm
theorem takeStr_size (d : Dec) : (tkStr d).1.length ≤ d.1.length := by
  unfold tkStr takeS
  split
  · simp
  · split
    · simp
    · exact getBS_size _
theorem decV_ok {t : List UInt8} (ht : t.length ≤ 10000) : SealOk (decV t) ∧ (decV t).boxes.length ≤ 64 := by
  by_cases h : decE t = 0
  · obtain ⟨h1, h2⟩ := decE_zero h
    obtain ⟨h3, h4, h5⟩ := rdS_inv _ _ h1
    have hrg := dec3_rg t
    have hb : decV t = ⟨strOf (dec1 t).1, (dec2 t).1, (rdS (dec3 t).2 (decN t)).1⟩ := by unfold decV; rw [if_pos h]
    obtain ⟨k1, _, _⟩ := take_inv (z := (0 : Int)) (g := boxesS) (b := (dec2 t).2.1) (e := (dec2 t).2.2) h3
    obtain ⟨_, _, k9⟩ := tkInt_inv (d := (dec1 t).2) k1
    have s1 : (dec1 t).1.length ≤ t.length := takeStr_size (t, 0)
    have s2 : (dec1 t).2.1.length ≤ t.length := takeS_le _ _ _ _
    have s3 : (dec2 t).2.1.length ≤ (dec1 t).2.1.length := takeS_le _ _ _ _
    have s4 : (dec3 t).2.1.length ≤ (dec2 t).2.1.length := takeS_le _ _ _ _
    have hlen : (rdS (dec3 t).2 (decN t)).1.length ≤ 64 := by rw [rdS_len]; unfold decN; omega
    have hcs : ∀ k, ∀ b ∈ (rdS (dec3 t).2 k).1, b.cipher.size ≤ t.length := by
      intro k
      induction k with
      | zero => intro b hb; cases hb
      | succ k ih =>
        intro b hb
        unfold rdS at hb
        rcases List.mem_append.1 hb with hb | hb
        · exact ih b hb
        · rw [List.mem_singleton.1 hb]
          show (strOf (tkStr (tkInt (rdS (dec3 t).2 k).2).2).1).size ≤ _
          rw [strOf_size]
          have r1 := takeStr_size (tkInt (rdS (dec3 t).2 k).2).2
          have r2 : (tkInt (rdS (dec3 t).2 k).2).2.1.length ≤ (rdS (dec3 t).2 k).2.1.length := takeS_le _ _ _ _
          have r3 := rdS_short (dec3 t).2 k
          omega
    rw [hb]
    refine ⟨⟨by dsimp only; rw [strOf_size]; omega, k9, by dsimp only; omega, fun b hb => ⟨(h5 b hb).1, ?_, (h5 b hb).2⟩⟩, hlen⟩
    have := hcs _ b hb
    omega
  · have hb : decV t = ⟨{ data := #[] }, 0, []⟩ := by unfold decV; rw [if_neg h]
    rw [hb]
    exact ⟨⟨by decide, ⟨by decide, by decide⟩, by decide, fun b hb => by cases hb⟩, by decide⟩

end Go.Proofs.YtgndblhpfjkfhaaDoor.Pv

/-
  SHA-256's rounds over natural numbers, quick to evaluate in the kernel, and that they are the rounds.
-/
namespace Go.Proofs.YtgndblhpfjkfhaaDoor

/-- n, evaluated first. -/
def forceN {α : Type} (n : Nat) (f : Nat → α) : α := Nat.rec (motive := fun _ => α) (f 0) (fun m _ => f (Nat.succ m)) n
theorem forceN_eq {α : Type} (n : Nat) (f : Nat → α) : forceN n f = f n := by cases n <;> rfl

def addN (a b : Nat) : Nat := Nat.mod (Nat.add a b) 4294967296
def rotN (x n m : Nat) : Nat := Nat.lor (Nat.shiftRight x n) (Nat.mod (Nat.shiftLeft x m) 4294967296)
def sig0N (x : Nat) : Nat := Nat.xor (Nat.xor (rotN x 7 25) (rotN x 18 14)) (Nat.shiftRight x 3)
def sig1N (x : Nat) : Nat := Nat.xor (Nat.xor (rotN x 17 15) (rotN x 19 13)) (Nat.shiftRight x 10)
def t1N (e f g h k w : Nat) : Nat := addN (addN (addN (addN h (Nat.xor (Nat.xor (rotN e 6 26) (rotN e 11 21)) (rotN e 25 7))) (Nat.xor (Nat.land e f) (Nat.land (Nat.sub 4294967295 e) g))) k) w
def t2N (a b c : Nat) : Nat := addN (Nat.xor (Nat.xor (rotN a 2 30) (rotN a 13 19)) (rotN a 22 10)) (Nat.xor (Nat.xor (Nat.land a b) (Nat.land a c)) (Nat.land b c))
def nwN (w0 w1 w9 w14 : Nat) : Nat := addN (addN (addN w0 (sig0N w1)) w9) (sig1N w14)
def fRounds : List Nat → Nat → Nat → Nat → Nat → Nat → Nat → Nat → Nat → Nat → Nat → Nat → Nat → Nat → Nat → Nat → Nat → Nat → Nat → Nat → Nat → Nat → Nat → Nat → Nat → List Nat
  | [], _, _, _, _, _, _, _, _, _, _, _, _, _, _, _, _, a, b, c, d, e, f, g, h => [a, b, c, d, e, f, g, h]
  | k :: ks, w0, w1, w2, w3, w4, w5, w6, w7, w8, w9, w10, w11, w12, w13, w14, w15, a, b, c, d, e, f, g, h =>
    forceN (t1N e f g h k w0) fun t => forceN (addN t (t2N a b c)) fun x => forceN (addN d t) fun y => forceN (nwN w0 w1 w9 w14) fun n =>
      fRounds ks w1 w2 w3 w4 w5 w6 w7 w8 w9 w10 w11 w12 w13 w14 w15 n x a b c y e f g

/-- The same over words. -/
def t1W (e f g h k w : UInt32) : UInt32 := h + ((rotrW e 6 ^^^ rotrW e 11) ^^^ rotrW e 25) + ((e &&& f) ^^^ (~~~e &&& g)) + k + w
def t2W (a b c : UInt32) : UInt32 := ((rotrW a 2 ^^^ rotrW a 13) ^^^ rotrW a 22) + (((a &&& b) ^^^ (a &&& c)) ^^^ (b &&& c))
def nwW (w0 w1 w9 w14 : UInt32) : UInt32 := w0 + ((rotrW w1 7 ^^^ rotrW w1 18) ^^^ (w1 >>> 3)) + w9 + ((rotrW w14 17 ^^^ rotrW w14 19) ^^^ (w14 >>> 10))
def gRounds : List UInt32 → UInt32 → UInt32 → UInt32 → UInt32 → UInt32 → UInt32 → UInt32 → UInt32 → UInt32 → UInt32 → UInt32 → UInt32 → UInt32 → UInt32 → UInt32 → UInt32 → UInt32 → UInt32 → UInt32 → UInt32 → UInt32 → UInt32 → UInt32 → UInt32 → List UInt32
  | [], _, _, _, _, _, _, _, _, _, _, _, _, _, _, _, _, a, b, c, d, e, f, g, h => [a, b, c, d, e, f, g, h]
  | k :: ks, w0, w1, w2, w3, w4, w5, w6, w7, w8, w9, w10, w11, w12, w13, w14, w15, a, b, c, d, e, f, g, h =>
    gRounds ks w1 w2 w3 w4 w5 w6 w7 w8 w9 w10 w11 w12 w13 w14 w15 (nwW w0 w1 w9 w14) (t1W e f g h k w0 + t2W a b c) a b c (d + t1W e f g h k w0) e f g

theorem add_N (a b : UInt32) : addN a.toNat b.toNat = (a + b).toNat := (UInt32.toNat_add a b).symm
theorem rot_N (x : UInt32) (n m : Nat) (hn : 0 < n) (hn2 : n < 32) (hm : m = 32 - n) : rotN x.toNat n m = (rotrW x (UInt32.ofNat n)).toNat := by
  subst hm
  unfold rotN rotrW
  have e1 : (UInt32.ofNat n).toNat = n := by simp; omega
  have e2 : (32 - UInt32.ofNat n : UInt32).toNat = 32 - n := by
    rw [UInt32.toNat_sub]
    simp
    omega
  rw [UInt32.toNat_or, UInt32.toNat_shiftRight, UInt32.toNat_shiftLeft, e1, e2, Nat.mod_eq_of_lt hn2, Nat.mod_eq_of_lt (show 32 - n < 32 by omega)]
  rfl
theorem xor_N (a b : UInt32) : Nat.xor a.toNat b.toNat = (a ^^^ b).toNat := (UInt32.toNat_xor a b).symm
theorem and_N (a b : UInt32) : Nat.land a.toNat b.toNat = (a &&& b).toNat := (UInt32.toNat_and a b).symm
theorem not_N (a : UInt32) : Nat.sub 4294967295 a.toNat = (~~~a).toNat := by rw [UInt32.toNat_not]; rfl
theorem shr_N (a : UInt32) (n : Nat) (hn : n < 32) : Nat.shiftRight a.toNat n = (a >>> UInt32.ofNat n).toNat := by
  have e1 : (UInt32.ofNat n).toNat = n := by simp; omega
  rw [UInt32.toNat_shiftRight, e1, Nat.mod_eq_of_lt hn]
  rfl
theorem t1_N (e f g h k w : UInt32) : t1N e.toNat f.toNat g.toNat h.toNat k.toNat w.toNat = (t1W e f g h k w).toNat := by
  unfold t1N t1W
  rw [rot_N e 6 26 (by omega) (by omega) rfl, rot_N e 11 21 (by omega) (by omega) rfl, rot_N e 25 7 (by omega) (by omega) rfl, not_N, and_N, and_N, xor_N, xor_N, xor_N, add_N, add_N, add_N, add_N]
  rfl
theorem t2_N (a b c : UInt32) : t2N a.toNat b.toNat c.toNat = (t2W a b c).toNat := by
  unfold t2N t2W
  rw [rot_N a 2 30 (by omega) (by omega) rfl, rot_N a 13 19 (by omega) (by omega) rfl, rot_N a 22 10 (by omega) (by omega) rfl, and_N, and_N, and_N, xor_N, xor_N, xor_N, xor_N, add_N]
  rfl
theorem nw_N (w0 w1 w9 w14 : UInt32) : nwN w0.toNat w1.toNat w9.toNat w14.toNat = (nwW w0 w1 w9 w14).toNat := by
  unfold nwN nwW sig0N sig1N
  rw [rot_N w1 7 25 (by omega) (by omega) rfl, rot_N w1 18 14 (by omega) (by omega) rfl, rot_N w14 17 15 (by omega) (by omega) rfl, rot_N w14 19 13 (by omega) (by omega) rfl, shr_N w1 3 (by omega), shr_N w14 10 (by omega), xor_N, xor_N, xor_N, xor_N, add_N, add_N, add_N]
  rfl
theorem rounds_N : ∀ (ks : List UInt32) (w0 w1 w2 w3 w4 w5 w6 w7 w8 w9 w10 w11 w12 w13 w14 w15 a b c d e f g h : UInt32),
    fRounds (ks.map UInt32.toNat) w0.toNat w1.toNat w2.toNat w3.toNat w4.toNat w5.toNat w6.toNat w7.toNat w8.toNat w9.toNat w10.toNat w11.toNat w12.toNat w13.toNat w14.toNat w15.toNat a.toNat b.toNat c.toNat d.toNat e.toNat f.toNat g.toNat h.toNat =
      (gRounds ks w0 w1 w2 w3 w4 w5 w6 w7 w8 w9 w10 w11 w12 w13 w14 w15 a b c d e f g h).map UInt32.toNat
  | [], _, _, _, _, _, _, _, _, _, _, _, _, _, _, _, _, _, _, _, _, _, _, _, _ => rfl
  | k :: ks, w0, w1, w2, w3, w4, w5, w6, w7, w8, w9, w10, w11, w12, w13, w14, w15, a, b, c, d, e, f, g, h => by
    rw [List.map_cons, fRounds, gRounds, forceN_eq, forceN_eq, forceN_eq, forceN_eq, t1_N, t2_N, nw_N, add_N, add_N]
    exact rounds_N ks _ _ _ _ _ _ _ _ _ _ _ _ _ _ _ _ _ _ _ _ _ _ _ _

theorem sched_stable (b : List UInt8) (i m n : Nat) (h1 : i < m) (h2 : m ≤ n) : (schedAt b n).getD i 0 = (schedAt b m).getD i 0 := by
  induction n with
  | zero => omega
  | succ n ih =>
    rcases Nat.lt_or_ge m (n + 1) with h | h
    · rw [schedAt, List.getD_eq_getElem?_getD, List.getElem?_append_left (by rw [schedAt_length]; omega), ← List.getD_eq_getElem?_getD, ih (by omega)]
    · rw [show m = n + 1 by omega]
/-- Word i of the schedule, however far it goes. -/
def sw (b : List UInt8) (i : Nat) : UInt32 := (schedAt b (i + 1)).getD i 0
theorem sw_eq (b : List UInt8) (i n : Nat) (h : i < n) : (schedAt b n).getD i 0 = sw b i := sched_stable b i (i + 1) n (by omega) (by omega)
theorem sw_next (b : List UInt8) (j : Nat) : sw b (j + 16) = nwW (sw b j) (sw b (j + 1)) (sw b (j + 9)) (sw b (j + 14)) := by
  rw [sw, sched_next, List.getD_eq_getElem?_getD, List.getElem?_append_right (by rw [schedAt_length]; omega), schedAt_length, Nat.sub_self]
  rw [sw_eq b j _ (by omega), sw_eq b (j + 1) _ (by omega), sw_eq b (j + 9) _ (by omega), sw_eq b (j + 14) _ (by omega)]
  rfl
theorem g_ok (b : List UInt8) (v : List UInt32) (hv : v.length = 8) : ∀ (n i : Nat), n + i = 64 →
    gRounds (shaK.drop i) (sw b i) (sw b (i + 1)) (sw b (i + 2)) (sw b (i + 3)) (sw b (i + 4)) (sw b (i + 5)) (sw b (i + 6)) (sw b (i + 7)) (sw b (i + 8)) (sw b (i + 9)) (sw b (i + 10)) (sw b (i + 11)) (sw b (i + 12)) (sw b (i + 13)) (sw b (i + 14)) (sw b (i + 15))
      ((roundsAt b v i).getD 0 0) ((roundsAt b v i).getD 1 0) ((roundsAt b v i).getD 2 0) ((roundsAt b v i).getD 3 0) ((roundsAt b v i).getD 4 0) ((roundsAt b v i).getD 5 0) ((roundsAt b v i).getD 6 0) ((roundsAt b v i).getD 7 0) = roundsAt b v 64
  | 0, i, h => by
    obtain rfl : i = 64 := by omega
    rw [show shaK.drop 64 = [] from rfl, gRounds]
    have := roundsAt_length b v hv 64
    match hr : roundsAt b v 64, this with
    | [a, b, c, d, e, f, g, h], _ => rfl
  | n + 1, i, h => by
    have hi : i < 64 := by omega
    have ih := g_ok b v hv n (i + 1) (by omega)
    rw [List.drop_eq_getElem_cons (show i < shaK.length from hi), gRounds, ← sw_next b i]
    have hk : shaK[i]'(show i < shaK.length from hi) = shaK.getD i 0 := by rw [List.getD_eq_getElem?_getD, List.getElem?_eq_getElem hi]; rfl
    rw [hk]
    have hs : roundsAt b v (i + 1) = shaRound (roundsAt b v i) (shaK.getD i 0) (sw b i) := by
      rw [roundsAt, sched, sw_eq b i 64 hi]
    rw [hs] at ih
    rw [show i + 1 + 1 = i + 2 from rfl, show i + 1 + 2 = i + 3 from rfl, show i + 1 + 3 = i + 4 from rfl, show i + 1 + 4 = i + 5 from rfl, show i + 1 + 5 = i + 6 from rfl, show i + 1 + 6 = i + 7 from rfl, show i + 1 + 7 = i + 8 from rfl, show i + 1 + 8 = i + 9 from rfl, show i + 1 + 9 = i + 10 from rfl, show i + 1 + 10 = i + 11 from rfl, show i + 1 + 11 = i + 12 from rfl, show i + 1 + 12 = i + 13 from rfl, show i + 1 + 13 = i + 14 from rfl, show i + 1 + 14 = i + 15 from rfl, show i + 1 + 15 = i + 16 from rfl] at ih
    exact ih

end Go.Proofs.YtgndblhpfjkfhaaDoor

/-
  SHA-256, HMAC and what is made of them over natural numbers, quick to evaluate in the kernel, and that they are those of the plain functions.
-/
namespace Go.Proofs.YtgndblhpfjkfhaaDoor

def bN (l : List UInt8) : List Nat := l.map UInt8.toNat
theorem bN_inj {a b : List UInt8} (h : bN a = bN b) : a = b := by
  unfold bN at h
  induction a generalizing b with
  | nil => cases b with
    | nil => rfl
    | cons y b => simp at h
  | cons x a ih => cases b with
    | nil => simp at h
    | cons y b =>
      simp only [List.map_cons, List.cons.injEq] at h
      rw [UInt8.toNat_inj.1 h.1, ih h.2]
def wordsN : List Nat → List Nat
  | a :: b :: c :: d :: r => Nat.add (Nat.mul (Nat.add (Nat.mul (Nat.add (Nat.mul a 256) b) 256) c) 256) d :: wordsN r
  | _ => []
def kN : List Nat := shaK.map UInt32.toNat
def fBlock (v w : List Nat) : List Nat :=
  match w, v with
  | [w0, w1, w2, w3, w4, w5, w6, w7, w8, w9, w10, w11, w12, w13, w14, w15], [a, b, c, d, e, f, g, h] =>
    List.zipWith addN (fRounds kN w0 w1 w2 w3 w4 w5 w6 w7 w8 w9 w10 w11 w12 w13 w14 w15 a b c d e f g h) [a, b, c, d, e, f, g, h]
  | _, _ => []
theorem be_step (n : UInt32) (b : UInt8) (h : n.toNat < 16777216) : ((n <<< 8) ||| b.toUInt32).toNat = n.toNat * 256 + b.toNat := by
  have hb := b.toNat_lt
  rw [UInt32.toNat_or, UInt32.toNat_shiftLeft, UInt8.toNat_toUInt32, show (8 : UInt32).toNat % 32 = 8 from rfl, Nat.shiftLeft_eq, Nat.mod_eq_of_lt (by omega), ← Nat.shiftLeft_eq, ← Nat.shiftLeft_add_eq_or_of_lt (by omega), Nat.shiftLeft_eq]
theorem be_toNat (a b c d : UInt8) : (beWord [a, b, c, d]).toNat = ((a.toNat * 256 + b.toNat) * 256 + c.toNat) * 256 + d.toNat := by
  have ha := a.toNat_lt
  have hb := b.toNat_lt
  have hc := c.toNat_lt
  unfold beWord
  simp only [List.foldl_cons, List.foldl_nil]
  have h0 : (0 : UInt32).toNat = 0 := rfl
  have h1 := be_step 0 a (by rw [h0]; omega)
  rw [h0, Nat.zero_mul, Nat.zero_add] at h1
  have h2 := be_step _ b (show ((0 : UInt32) <<< 8 ||| a.toUInt32).toNat < 16777216 by rw [h1]; omega)
  rw [h1] at h2
  have h3 := be_step _ c (show (((0 : UInt32) <<< 8 ||| a.toUInt32) <<< 8 ||| b.toUInt32).toNat < 16777216 by rw [h2]; omega)
  rw [h2] at h3
  have h4 := be_step _ d (show ((((0 : UInt32) <<< 8 ||| a.toUInt32) <<< 8 ||| b.toUInt32) <<< 8 ||| c.toUInt32).toNat < 16777216 by rw [h3]; omega)
  rw [h4, h3]
/-- Four bytes at a time. -/
theorem words_N : ∀ (n : Nat) (b : List UInt8), b.length = 4 * n → wordsN (bN b) = (List.range n).map fun i => (beWord ((b.drop (4 * i)).take 4)).toNat
  | 0, b, h => by
    obtain rfl : b = [] := List.length_eq_zero_iff.1 (by omega)
    rfl
  | n + 1, b, h => by
    match b, h with
    | w :: x :: y :: z :: r, h =>
      have ih := words_N n r (by simp at h; omega)
      rw [List.range_succ_eq_map, List.map_cons, List.map_map]
      have e : wordsN (bN (w :: x :: y :: z :: r)) = (((w.toNat * 256 + x.toNat) * 256 + y.toNat) * 256 + z.toNat) :: wordsN (bN r) := rfl
      rw [e, ih, ← be_toNat]
      congr 1
theorem range16 (f : Nat → Nat) : (List.range 16).map f = [f 0, f 1, f 2, f 3, f 4, f 5, f 6, f 7, f 8, f 9, f 10, f 11, f 12, f 13, f 14, f 15] := rfl
theorem fBlock_eq (w0 w1 w2 w3 w4 w5 w6 w7 w8 w9 w10 w11 w12 w13 w14 w15 a b c d e f g h : Nat) : fBlock [a, b, c, d, e, f, g, h] [w0, w1, w2, w3, w4, w5, w6, w7, w8, w9, w10, w11, w12, w13, w14, w15] =
    List.zipWith addN (fRounds kN w0 w1 w2 w3 w4 w5 w6 w7 w8 w9 w10 w11 w12 w13 w14 w15 a b c d e f g h) [a, b, c, d, e, f, g, h] := rfl
theorem zip_N : ∀ (r v : List UInt32), List.zipWith addN (r.map UInt32.toNat) (v.map UInt32.toNat) = (List.zipWith (· + ·) r v).map UInt32.toNat
  | [], v => by simp
  | x :: r, [] => by simp
  | x :: r, y :: v => by simp only [List.map_cons, List.zipWith_cons_cons]; rw [zip_N r v, add_N]
theorem g_all (b : List UInt8) (a b' c d e f g h : UInt32) : gRounds shaK (sw b 0) (sw b 1) (sw b 2) (sw b 3) (sw b 4) (sw b 5) (sw b 6) (sw b 7) (sw b 8) (sw b 9) (sw b 10) (sw b 11) (sw b 12) (sw b 13) (sw b 14) (sw b 15) a b' c d e f g h = shaRounds b [a, b', c, d, e, f, g, h] := by
  have := g_ok b [a, b', c, d, e, f, g, h] rfl 64 0 rfl
  rw [List.drop_zero, roundsAt] at this
  exact this
set_option maxRecDepth 100000 in
theorem block_N (v : List UInt32) (b : List UInt8) (hv : v.length = 8) (hb : b.length = 64) : fBlock (v.map UInt32.toNat) (wordsN (bN b)) = (shaBlock v b).map UInt32.toNat := by
  rw [words_N 16 b hb]
  have hw : ∀ i, i < 16 → (beWord ((b.drop (4 * i)).take 4)) = sw b i := fun i hi => by
    rw [sw, schedAt, List.getD_eq_getElem?_getD, List.getElem?_append_right (by rw [schedAt_length]; omega), schedAt_length, Nat.sub_self, if_pos hi]
    first | done | rfl
  have hl : ((List.range 16).map fun i => (beWord ((b.drop (4 * i)).take 4)).toNat) = ((List.range 16).map fun i => (sw b i).toNat) := List.map_congr_left fun i hi => by rw [hw i (List.mem_range.1 hi)]
  rw [hl, range16]
  match v, hv with
  | [a, b', c, d, e, f, g, h], hv =>
    rw [List.map_cons, List.map_cons, List.map_cons, List.map_cons, List.map_cons, List.map_cons, List.map_cons, List.map_cons, List.map_nil, fBlock_eq, kN, rounds_N, g_all]
    exact zip_N _ [a, b', c, d, e, f, g, h]

/-- A list's numbers, evaluated first. -/
def forceL {α : Type} : List Nat → (List Nat → α) → α
  | [], k => k []
  | x :: r, k => forceN x fun y => forceL r fun s => k (y :: s)
theorem forceL_eq {α : Type} : ∀ (l : List Nat) (k : List Nat → α), forceL l k = k l
  | [], k => rfl
  | x :: r, k => by rw [forceL, forceN_eq, forceL_eq r]
def fBlocks : Nat → List Nat → List Nat → List Nat
  | 0, v, _ => v
  | n + 1, v, m => forceL (fBlock v (wordsN (m.take 64))) fun s => fBlocks n s (m.drop 64)
theorem blocks_N : ∀ (n : Nat) (v : List UInt32) (m : List UInt8), v.length = 8 → m.length = 64 * n → fBlocks n (v.map UInt32.toNat) (bN m) = (shaBlocks n v m).map UInt32.toNat
  | 0, v, m, _, _ => rfl
  | n + 1, v, m, hv, hm => by
    have e1 : (bN m).take 64 = bN (m.take 64) := (List.map_take ..).symm
    have e2 : (bN m).drop 64 = bN (m.drop 64) := (List.map_drop ..).symm
    rw [fBlocks, forceL_eq, e1, e2, block_N v _ hv (by rw [List.length_take]; omega)]
    have hl : (shaBlock v (m.take 64)).length = 8 := by
      have := shaFold_length (m.take 64) [0] v hv
      unfold shaFold at this
      simp only [List.foldl_cons, List.foldl_nil, Nat.mul_zero, List.drop_zero] at this
      rwa [List.take_take] at this
    exact blocks_N n _ _ hl (by rw [List.length_drop]; omega)
def beNs (n : Nat) : Nat → List Nat
  | 0 => []
  | k + 1 => Nat.mod (Nat.div n (256 ^ k)) 256 :: beNs n k
theorem be_N (n : Nat) : ∀ k, bN (beBytes n k) = beNs n k
  | 0 => rfl
  | k + 1 => by
    have := be_N n k
    unfold bN at this ⊢
    rw [beBytes, beNs, List.map_cons, this]
    congr 1
def padN' (l : List Nat) : List Nat := l ++ [128] ++ List.replicate ((119 - l.length % 64) % 64) 0 ++ beNs (8 * l.length) 8
theorem bN_length (l : List UInt8) : (bN l).length = l.length := List.length_map ..
theorem bN_append (a b : List UInt8) : bN (a ++ b) = bN a ++ bN b := List.map_append ..
theorem pad_N (l : List UInt8) : bN (shaPad l) = padN' (bN l) := by
  unfold shaPad padN'
  rw [bN_append, bN_append, bN_append, be_N, bN_length]
  congr 2
  unfold bN
  rw [List.map_replicate]
  rfl
def h0N : List Nat := shaH0.map UInt32.toNat
def outN (v : List Nat) : List Nat := v.flatMap fun w => beNs w 4
def shaN (l : List Nat) : List Nat := outN (fBlocks ((padN' l).length / 64) h0N (padN' l))
theorem out_N (v : List UInt32) : bN (v.flatMap fun w => beBytes w.toNat 4) = outN (v.map UInt32.toNat) := by
  unfold outN
  induction v with
  | nil => rfl
  | cons x v ih => rw [List.flatMap_cons, bN_append, ih, List.map_cons, List.flatMap_cons, be_N]
theorem pad_len (l : List UInt8) : ∃ m, (shaPad l).length = 64 * m := by
  refine ⟨(shaPad l).length / 64, ?_⟩
  unfold shaPad
  simp [beBytes_length]
  omega
theorem sha_N (l : List UInt8) : bN (sha l) = shaN (bN l) := by
  obtain ⟨m, hm⟩ := pad_len l
  unfold sha shaN
  rw [out_N, ← pad_N, bN_length, hm, Nat.mul_div_cancel_left _ (by omega), h0N, blocks_N m shaH0 _ rfl hm]
def padXN (k : List Nat) (x : Nat) : List Nat := (List.range 64).map fun i => Nat.xor (k.getD i 0) x
def hmacN (key m : List Nat) : List Nat := forceL (if key.length > 64 then shaN key else key) fun k => forceL (shaN (padXN k 54 ++ m)) fun h => shaN (padXN k 92 ++ h)
theorem padX_N (k : List UInt8) (x : UInt8) : bN (padOf k x) = padXN (bN k) x.toNat := by
  unfold padOf padN padXN
  unfold bN
  rw [List.map_map]
  apply List.map_congr_left
  intro i _
  show ((k.getD i 0) ^^^ x).toNat = _
  rw [UInt8.toNat_xor]
  have : (k.map UInt8.toNat).getD i 0 = (k.getD i 0).toNat := by
    rw [List.getD_eq_getElem?_getD, List.getD_eq_getElem?_getD, List.getElem?_map]
    cases k[i]? <;> rfl
  rw [this]
  rfl
theorem hmac_N (key m : List UInt8) : bN (hmac key m) = hmacN (bN key) (bN m) := by
  rw [hmac_eq, sha_N, bN_append, padX_N, sha_N, bN_append, padX_N]
  have hk : bN (if key.length > 64 then sha key else key) = if (bN key).length > 64 then shaN (bN key) else bN key := by
    rw [bN_length]
    split
    · exact sha_N key
    · rfl
  rw [hk]
  unfold hmacN
  rw [forceL_eq, forceL_eq]
  rfl
def macN (key m : List Nat) : List Nat := (hmacN key m).take 16
theorem mac_N (key m : List UInt8) : bN (mac key m) = macN (bN key) (bN m) := by
  unfold mac macN
  rw [← hmac_N]
  exact List.map_take ..
def encsN (ps : List (List Nat)) : List Nat := ps.flatMap fun p => bN (wInt p.length) ++ p
theorem encs_N (ps : List (List UInt8)) : bN (encs ps) = encsN (ps.map bN) := by
  unfold encs encsN
  induction ps with
  | nil => rfl
  | cons p ps ih => rw [List.flatMap_cons, bN_append, ih, List.map_cons, List.flatMap_cons, wBytes, bN_append, bN_length]
def digestN (tag : Int) (ps : List (List Nat)) : List Nat := forceL ((shaN ((tagByte tag).toNat :: encsN ps)).take 16) fun d => d
theorem digest_N (tag : Int) (ps : List (List UInt8)) : bN (digestS tag ps) = digestN tag (ps.map bN) := by
  unfold digestS digestN
  rw [forceL_eq, ← encs_N]
  have : (tagByte tag).toNat :: bN (encs ps) = bN ([tagByte tag] ++ encs ps) := rfl
  rw [this, ← sha_N]
  exact List.map_take ..
def deriveN (key label : List Nat) (ps : List (List Nat)) : List Nat := forceL (macN key (bN (wInt label.length) ++ label ++ encsN ps)) fun d => d
theorem derive_N (key label : List UInt8) (ps : List (List UInt8)) : bN (deriveS key label ps) = deriveN (bN key) (bN label) (ps.map bN) := by
  unfold deriveS deriveN
  rw [forceL_eq, mac_N, bN_append, encs_N, wBytes, bN_append, bN_length]

end Go.Proofs.YtgndblhpfjkfhaaDoor

/-
  Keys, streams, tags and roots over numbers: what boxes and trees ask, for evaluation.
-/
namespace Go.Proofs.YtgndblhpfjkfhaaDoor

def keyN (key : List Nat) (nonce : Int) : List Nat := deriveN key [101, 110, 99, 114, 121, 112, 116] [bN (wInt nonce)]
theorem key_N (key : List UInt8) (nonce : Int) : bN (keyS key nonce) = keyN (bN key) nonce := by
  unfold keyS keyN
  rw [derive_N]
  rfl
def streamN (key : List Nat) (n : Nat) : List Nat := ((List.range ((n + 31) / 32)).flatMap fun j : Nat => hmacN key (bN (wInt (j : Int)))).take n
theorem flatN (f : Nat → List UInt8) (g : Nat → List Nat) (h : ∀ k, bN (f k) = g k) : ∀ l : List Nat, bN (l.flatMap f) = l.flatMap g
  | [] => rfl
  | k :: l => by rw [List.flatMap_cons, List.flatMap_cons, bN_append, flatN f g h l, h]
theorem stream_N (key : List UInt8) (n : Nat) : bN (streamS key (n : Int)) = streamN (bN key) n := by
  unfold streamS streamN streamCat
  rw [Int.toNat_natCast]
  have : ∀ (l : List UInt8) (k : Nat), bN (l.take k) = (bN l).take k := fun l k => List.map_take ..
  rw [this, flatN _ (fun j => hmacN (bN key) (bN (wInt (j : Int)))) (fun k => hmac_N _ _)]
theorem xor_bN : ∀ (a b : List UInt8), bN (List.zipWith (· ^^^ ·) a b) = List.zipWith Nat.xor (bN a) (bN b)
  | [], _ => rfl
  | _ :: _, [] => rfl
  | x :: a, y :: b => by
    have := xor_bN a b
    unfold bN at this ⊢
    rw [List.zipWith_cons_cons, List.map_cons, this, List.map_cons, List.map_cons, List.zipWith_cons_cons, UInt8.toNat_xor]
    rfl
def applyN (key : List Nat) (nonce : Int) (s : List Nat) : List Nat := forceL (List.zipWith Nat.xor s (streamN (keyN key nonce) s.length)) fun d => d
theorem apply_N (key : List UInt8) (nonce : Int) (s : List UInt8) : bN (applyS key nonce s) = applyN (bN key) nonce (bN s) := by
  unfold applyS applyN
  rw [forceL_eq, xor_bN, stream_N, key_N, bN_length]
def tagN (key : List Nat) (nonce : Int) (c : List Nat) : List Nat := forceL (macN (deriveN key [97, 117, 116, 104, 101, 110, 116, 105, 99, 97, 116, 101] []) (bN (wInt nonce) ++ (bN (wInt c.length) ++ c))) fun d => d
theorem tag_N (key : List UInt8) (nonce : Int) (c : List UInt8) : bN (tagS key nonce c) = tagN (bN key) nonce (bN c) := by
  unfold tagS tagN
  rw [forceL_eq, mac_N, derive_N, bN_append, wBytes, bN_append, bN_length]
  rfl
def rootFN : Nat → List (List Nat) → List Nat
  | _, [] => digestN 1 []
  | _, [d] => digestN 1 [d]
  | 0, _ => []
  | f + 1, l => digestN 2 [rootFN f (l.take (splitS l.length)), rootFN f (l.drop (splitS l.length))]
theorem rootF_N : ∀ (f : Nat) (l : List (List UInt8)), bN (rootF f l) = rootFN f (l.map bN)
  | 0, [] => digest_N _ _
  | _ + 1, [] => digest_N _ _
  | 0, [d] => digest_N _ _
  | _ + 1, [d] => digest_N _ _
  | 0, _ :: _ :: _ => rfl
  | f + 1, a :: b :: l => by
    rw [rootF, List.map_cons, List.map_cons, rootFN]
    unfold nodeS
    rw [digest_N, List.map_cons, List.map_cons, List.map_nil, rootF_N f, rootF_N f, List.map_take, List.map_drop, List.map_cons, List.map_cons]
    · simp
    all_goals simp
def rootN (l : List (List Nat)) : List Nat := rootFN l.length l
theorem root_N (l : List (List UInt8)) : bN (rootS l) = rootN (l.map bN) := by
  unfold rootS rootN
  rw [rootF_N, List.length_map]

end Go.Proofs.YtgndblhpfjkfhaaDoor
