/-
  Several texts in one file: each has its own heading below.
-/
import Derived.Test.YtoefmncdloffaaaDoorSqK
import Derived.Test.YtoefmncdloffaaaDoorSqJ
import Derived.Test.YtoefmncdloffaaaDoorSqA
import Derived.Scope
import Derived.WalkMore
import Derived.Test.YtoefmncdloffaaaDoorSqF


namespace Go.Proofs.YtoefmncdloffaaaDoor.Pv
open Go.RowKit
abbrev strV (s : ByteArray) : PV := lit1 (.string s)
def spRep : Spec := funSpec true fun xs => match xs with
  | [.w (.one (.lit (.string s))), .w (.one (.lit (.int .i64 c)))] => some (0 ≤ c ∧ c ≤ 1000000 ∧ s.size ≤ 1, strV (strOf (Lib.repeatL s.data.toList c.toNat)))
  | _ => none
theorem rep_ok {I : World → Prop} : SpecOk Tryd.prog I 89 spRep := by
  refine funSpec_ok (call_enters Tryd.func89 (by kernel_rfl) rfl) (fun xs p r hg hp w ok0 vs hI hv => ?_)
  split at hg
  · rename_i s c
    cases hg
    match vs, hv with
    | [v1, v2], ⟨k1, k2, _⟩ =>
      obtain rfl := k1.lit_inv
      obtain rfl := k2.lit_inv
      obtain ⟨h1, h2, h3⟩ := hp
      obtain ⟨n, rfl⟩ : ∃ n : Nat, c = (n : Int) := ⟨c.toNat, by omega⟩
      refine (repeatS_any s n w (by omega) (by have := Nat.mul_le_mul h3 (show n ≤ 1000000 by omega); omega)).mono ?_
      rintro e w' ⟨rfl, hB⟩
      exact ⟨_, rfl, Ext.of_below hB, .w (.one (.lit rfl))⟩
  · cases hg
def spPre : Spec := funSpec true fun xs => match xs with
  | [.w (.one (.lit (.string s))), .w (.one (.lit (.string p)))] => some (True, pvB (Lib.hasPrefix s.data.toList p.data.toList))
  | _ => none
theorem pre_ok {I : World → Prop} : SpecOk Tryd.prog I 128 spPre := by
  refine funSpec_ok (call_enters Tryd.func128 (by kernel_rfl) rfl) (fun xs p r hg hp w ok0 vs hI hv => ?_)
  split at hg
  · rename_i s p
    cases hg
    match vs, hv with
    | [v1, v2], ⟨k1, k2, _⟩ =>
      obtain rfl := k1.lit_inv
      obtain rfl := k2.lit_inv
      refine (hasPrefix_any s p w).mono ?_
      rintro e w' ⟨rfl, rfl⟩
      exact ⟨_, rfl, Ext.refl _, .w (.one (.lit rfl))⟩
  · cases hg
theorem hasPrefix_take (s p : List UInt8) : Lib.hasPrefix s p = decide (s.take p.length = p) := by
  unfold Lib.hasPrefix
  by_cases h : s.take p.length = p
  · rw [decide_eq_true h, List.isPrefixOf_iff_prefix]
    rw [← h]
    exact List.take_prefix _ _
  · rw [decide_eq_false h]
    cases hb : p.isPrefixOf s with
    | false => rfl
    | true => exact absurd (List.prefix_iff_eq_take.1 (List.isPrefixOf_iff_prefix.1 hb)).symm h
theorem firstS_bnd (rec k : Int) : -1 ≤ firstS rec k ∧ firstS rec k ≤ 56 := by unfold firstS; split <;> omega
set_option maxRecDepth 100000 in
theorem first_fun {I : World → Prop} (hI0 : ∀ w w', Ext w w' → I w → I w') (rec k : Int) : FunOk Tryd.prog I 35 true [pvI rec, pvI k] (pvI (firstS rec k)) := by
  have M : Mach Tryd.prog I (find []) := ⟨specs_of (fun p hp => by cases hp), mixed_⟩
  refine funOk_of Tryd.func35 rfl rfl hI0 (fun A hS hn hI => ?_)
  refine tri_reg M hI hn (outs := ?_) (s' := ?_) ?_ ?_ ?_ ?_
  rotate_left 2
  · rfl
  · kernel_rfl
  · simp
  refine tri_seq ?_
  refine tri_reg M hI hn (outs := ?_) (s' := ?_) ?_ ?_ ?_ ?_
  rotate_left 2
  · rfl
  · kernel_rfl
  · simp
  refine tri_cond (b := ?_) ?_ (fun hc => ?_) (fun hc => ?_)
  rotate_left 1
  · rfl
  · refine tri_reg M hI hn (outs := ?_) (s' := ?_) ?_ ?_ ?_ ?_
    rotate_left 2
    · rfl
    · kernel_rfl
    · simp
    refine tri_ret (fun a w hg => ⟨.inr rfl, _, ?_, hg⟩)
    refine retTo_cold (out := ?_) ?_ ?_ ?_ ?_ ?_
    rotate_left 1
    · rfl
    · simp
    · rfl
    · rfl
    have h : rec < 0 ∨ 3 < rec ∨ k < 0 ∨ 1 < k := by simp at hc; omega
    unfold firstS
    rw [if_pos h]
  · refine tri_skip ?_
    change Tri _ _ _ _ _
    refine tri_reg M hI hn (outs := ?_) (s' := ?_) ?_ ?_ ?_ ?_
    rotate_left 2
    · rfl
    · kernel_rfl
    · simp
    refine tri_ret (fun a w hg => ⟨.inr rfl, _, ?_, hg⟩)
    refine retTo_cold (out := ?_) ?_ ?_ ?_ ?_ ?_
    rotate_left 1
    · rfl
    · simp
    · rfl
    · rfl
    have h : ¬ (rec < 0 ∨ 3 < rec ∨ k < 0 ∨ 1 < k) := by simp at hc; omega
    refine congrArg pvI ?_
    unfold firstS
    rw [if_neg h]
    simp only [IntKind.wrap_i64]
    omega
set_option maxRecDepth 100000 in
theorem rfirst_fun {I : World → Prop} (hI0 : ∀ w w', Ext w w' → I w → I w') (rec k : Int) : FunOk Tryd.prog I 36 true [pvI rec, pvI k] (pvI (firstS rec k)) := by
  have M : Mach Tryd.prog I (find []) := ⟨specs_of (fun p hp => by cases hp), mixed_⟩
  refine funOk_of Tryd.func36 rfl rfl hI0 (fun A hS hn hI => ?_)
  refine tri_reg M hI hn (outs := ?_) (s' := ?_) ?_ ?_ ?_ ?_
  rotate_left 2
  · rfl
  · kernel_rfl
  · simp
  refine tri_seq ?_
  refine tri_reg M hI hn (outs := ?_) (s' := ?_) ?_ ?_ ?_ ?_
  rotate_left 2
  · rfl
  · kernel_rfl
  · simp
  refine tri_cond (b := ?_) ?_ (fun hc => ?_) (fun hc => ?_)
  rotate_left 1
  · rfl
  · refine tri_reg M hI hn (outs := ?_) (s' := ?_) ?_ ?_ ?_ ?_
    rotate_left 2
    · rfl
    · kernel_rfl
    · simp
    refine tri_ret (fun a w hg => ⟨.inr rfl, _, ?_, hg⟩)
    refine retTo_cold (out := ?_) ?_ ?_ ?_ ?_ ?_
    rotate_left 1
    · rfl
    · simp
    · rfl
    · rfl
    have h : rec < 0 ∨ 3 < rec ∨ k < 0 ∨ 1 < k := by simp at hc; omega
    unfold firstS
    rw [if_pos h]
  · refine tri_skip ?_
    change Tri _ _ _ _ _
    refine tri_reg M hI hn (outs := ?_) (s' := ?_) ?_ ?_ ?_ ?_
    rotate_left 2
    · rfl
    · kernel_rfl
    · simp
    refine tri_ret (fun a w hg => ⟨.inr rfl, _, ?_, hg⟩)
    refine retTo_cold (out := ?_) ?_ ?_ ?_ ?_ ?_
    rotate_left 1
    · rfl
    · simp
    · rfl
    · rfl
    have h : ¬ (rec < 0 ∨ 3 < rec ∨ k < 0 ∨ 1 < k) := by simp at hc; omega
    refine congrArg pvI ?_
    unfold firstS
    rw [if_neg h]
    simp only [IntKind.wrap_i64]
    omega
theorem byF_app2 (X Y : List UInt8) : appF X.length (byF X) (byF Y) = byF (X ++ Y) := by
  funext i
  unfold appF byF
  by_cases h : i < X.length
  · rw [if_pos h, List.getD_eq_getElem?_getD, List.getD_eq_getElem?_getD, List.getElem?_append_left h]
  · rw [if_neg h, List.getD_eq_getElem?_getD, List.getD_eq_getElem?_getD, List.getElem?_append_right (by omega)]
theorem cold_app2 {n : Nat} {f g : Nat → List PC} (h1 : ∀ i, (f i).all (coldPC false) = true) (h2 : ∀ i, (g i).all (coldPC false) = true) : ∀ i, (appF n f g i).all (coldPC false) = true := fun i => by
  unfold appF
  split
  · exact h1 i
  · exact h2 _
set_option maxRecDepth 100000 in
theorem encode_fun (rec seq : Int) (c : ByteArray) (h1 : i64P rec) (h2 : i64P seq) (hc : c.size ≤ 3000) : FunRow Tryd.prog ShaMem 124 [pvI rec, pvI seq, strV c] 5 1 (encS rec seq c.data.toList).length (byF (encS rec seq c.data.toList)) := by
  have M := lowM
  have hb1 : Tryd.prog.types[5].bytes = 1 := by kernel_rfl
  have hs1 : Tryd.prog.types[5].size = 1 := by kernel_rfl
  have hw1 := wInt_length seq
  have hw2 := wInt_length rec
  have hw3 := wBytes_length c.data.toList
  have hcl : c.data.toList.length = c.size := Array.length_toList
  refine funRow_of Tryd.func124 rfl rfl sha_ext (fun A hS hn hI => ?_)
  refine tri_reg M hI hn (outs := ?_) (s' := ?_) ?_ ?_ ?_ ?_
  rotate_left 2
  · rfl
  · kernel_rfl
  · simp
  refine tri_reg M hI hn (outs := ?_) (s' := ?_) ?_ ?_ ?_ ?_
  rotate_left 2
  · rfl
  · kernel_rfl
  · simp
    refine ⟨h2, by omega, ?_⟩
    rw [hb1]
    omega
  refine tri_conv (s' := ⟨[(0, none, pvI rec), (7, none, pv1 (.ow 1001 0 1 0 (encB seq c.data.toList).length))], [(1001, none, 0, .arr 5 1 (encB seq c.data.toList).length (byF (encB seq c.data.toList)))]⟩) (fun a w hg => (hg.reset (kT := [0, 7]) (kO := [1001]) (by rfl) ?_).same ?_ ?_) ?_
  · simp only [All, and_true, List.append_nil]
    exact fun i _ => cold_app2 (fun _ => rfl) (fun _ => rfl) i
  · refine .cons rfl (.cons ?_ .nil)
    rw [hs1, encB, List.length_append]
  · refine .cons (.arr ?_ (fun i hi => ?_)) .nil
    · rw [encB, List.length_append]
    · simp only [Nat.zero_add]
      exact congrFun (byF_app2 (wInt seq) (wBytes c.data.toList)) i
  have hel : (encB seq c.data.toList).length ≤ 4000 := by unfold encB; rw [List.length_append]; omega
  have hdl := digestS_length 5 [wInt rec, encB seq c.data.toList]
  refine tri_reg M hI hn (outs := ?_) (s' := ?_) ?_ ?_ ?_ ?_
  rotate_left 2
  · rfl
  · kernel_rfl
  · simp
    exact ⟨h1, by omega, by omega⟩
  refine tri_reg M hI hn (outs := ?_) (s' := ?_) ?_ ?_ ?_ ?_
  rotate_left 2
  · rfl
  · kernel_rfl
  · simp
    rw [hb1]
    omega
  refine tri_conv (s' := ⟨[(6, none, pv1 (.ow 1001 0 1 0 (encS rec seq c.data.toList).length))], [(1001, none, 0, .arr 5 1 (encS rec seq c.data.toList).length (byF (encS rec seq c.data.toList)))]⟩) (fun a w hg => (hg.reset (kT := [6]) (kO := [1001]) (by rfl) ?_).same ?_ ?_) ?_
  · simp only [All, and_true, List.append_nil, List.nil_append, List.cons_append]
    exact fun i _ => cold_app2 (fun _ => rfl) (fun _ => rfl) i
  · refine .cons ?_ .nil
    rw [encS, List.length_append, hdl]
    exact congrArg (fun n => pv1 (.ow 1001 0 n 0 ((encB seq c.data.toList).length + 16))) hs1
  · refine .cons (.arr ?_ (fun i hi => ?_)) .nil
    · rw [encS, List.length_append, hdl]
    · simp only [rowB_byF]
      exact congrFun (byF_app2 (encB seq c.data.toList) (digestS 5 [wInt rec, encB seq c.data.toList])) i
  refine tri_ret (fun a w hg => ⟨.inr rfl, _, ?_, hg⟩)
  refine rowTo_of (x := 1001) (ver := 0) (g := none) (f := ?_) (out := ?_) ?_ ?_ ?_ ?_ ?_ trivial ?_
  rotate_left 2
  · rfl
  · simp
  · rfl
  · rfl
  · rfl
  intro i hi
  exact ⟨rfl, rfl⟩
def spEnc : Spec := rowSpec fun xs => match xs with
  | [.w (.one (.lit (.int .i64 rec))), .w (.one (.lit (.int .i64 seq))), .w (.one (.lit (.string c)))] => some (i64P rec ∧ i64P seq ∧ c.size ≤ 3000, 5, 1, (encS rec seq c.data.toList).length, byF (encS rec seq c.data.toList))
  | _ => none
theorem enc_ok : SpecOk Tryd.prog ShaMem 124 spEnc := by
  refine rowSpec_ok (call_enters Tryd.func124 (by kernel_rfl) rfl) (fun xs p e n len f' hg hp => ?_)
  split at hg
  · rename_i rec seq c
    cases hg
    exact encode_fun rec seq c hp.1 hp.2.1 hp.2.2
  · cases hg
def spFirst : Spec := funSpec true fun xs => match xs with
  | [.w (.one (.lit (.int .i64 rec))), .w (.one (.lit (.int .i64 k)))] => some (True, pvI (firstS rec k))
  | _ => none
theorem first_ok : SpecOk Tryd.prog ShaMem 35 spFirst := by
  refine funSpec_ok (call_enters Tryd.func35 (by kernel_rfl) rfl) (fun xs p r hg hp => ?_)
  split at hg
  · cases hg; exact first_fun sha_ext _ _
  · cases hg
theorem rfirst_ok : SpecOk Tryd.prog ShaMem 36 spFirst := by
  refine funSpec_ok (call_enters Tryd.func36 (by kernel_rfl) rfl) (fun xs p r hg hp => ?_)
  split at hg
  · cases hg; exact rfirst_fun sha_ext _ _
  · cases hg
def stL1 : List (Nat × Spec) := (124, spEnc) :: (128, spPre) :: (89, spRep) :: (35, spFirst) :: (36, spFirst) :: dcL6
theorem st1_ok : ∀ p ∈ stL1, SpecOk Tryd.prog ShaMem p.1 p.2 := by
  intro p hp
  simp only [stL1, List.mem_cons] at hp
  rcases hp with rfl | rfl | rfl | rfl | rfl | hp
  · exact enc_ok
  · exact pre_ok
  · exact rep_ok
  · exact first_ok
  · exact rfirst_ok
  · exact dc6_ok p hp
theorem st1M : Mach Tryd.prog ShaMem (find stL1) := ⟨specs_of st1_ok, mixed_⟩
def arPV (x : Int × List UInt8) : PV := .w (.agg [.lit (.int .i64 x.1), .lit (.string (strOf x.2))])
set_option maxRecDepth 100000 in
theorem decode_fun (rec : Int) (b : List UInt8) (h1 : i64P rec) (hb : b.length < 4611686018427387904) : FunOk Tryd.prog ShaMem 150 true [pvI rec, rowV b] (arPV (decS rec b)) := by
  have M := st1M
  have hle := getS_le b
  have hrg := getS_range b
  refine funOk_of Tryd.func150 rfl rfl sha_ext (fun A hS hn hI => ?_)
  refine tri_reg M hI hn (outs := ?_) (s' := ?_) ?_ ?_ ?_ ?_
  rotate_left 2
  · rfl
  · kernel_rfl
  · simp
  refine tri_reg M hI hn (outs := ?_) (s' := ?_) ?_ ?_ ?_ ?_
  rotate_left 2
  · rfl
  · kernel_rfl
  · simp
    exact hb
  refine tri_conv (s' := ⟨[(0, none, pvI rec), (1, none, rowV b), (4, none, pv1 (.pt 0 0 0)), (5, none, pvI (getS b).1), (6, none, pvI ((getS b).2.1 : Int)), (7, none, pvI (getS b).2.2)], [(0, none, 0, .box 164 [.lit (.int .i64 0), .lit (.string noBytes)])]⟩) (fun a w hg => (hg.reset (kT := [0, 1, 4, 5, 6, 7]) (kO := [0]) (by rfl) (by simp)).same ?_ ?_) ?_
  · rw [rowB_byF]
    exact .cons rfl (.cons rfl (.cons rfl (.cons rfl (.cons rfl (.cons rfl .nil)))))
  · exact .cons (.box rfl) .nil
  obtain ⟨m, hm⟩ : ∃ m, decS rec b = m := ⟨_, rfl⟩
  rw [hm]
  have hcon : getBS (b.drop (getS b).2.1) = conS b := rfl
  have hcode := getBS_code (b.drop (getS b).2.1)
  have hpos : (conS b).2.2 = 0 → (conS b).2.1 ≠ 0 := fun h0 h1 => by
    have he : getBS (b.drop (getS b).2.1) = ((conS b).1, (conS b).2.1, 0) := by rw [hcon, ← h0]
    have h2 := (getBS_ok he).1
    rw [h1, List.take_zero] at h2
    have h3 := congrArg List.length h2
    have h4 := wInt_length ((conS b).1.length : Int)
    unfold wBytes at h3
    rw [List.length_append] at h3
    have h5 : (wInt ((conS b).1.length : Int)).length = 0 := by simp at h3; omega
    have h6 := getBS_size (b.drop (getS b).2.1)
    rw [hcon, List.length_drop] at h6
    have h7 := wInt_pos ((conS b).1.length : Int) (by omega) (by omega)
    omega
  unfold decS at hm
  have hsz := getBS_size (b.drop (getS b).2.1)
  rw [hcon, List.length_drop] at hsz
  rw [hcon] at hcode
  generalize hg : getS b = g at *
  obtain ⟨q, k, e⟩ := g
  dsimp only at *
  refine tri_seq ?_
  refine tri_reg M hI hn (outs := ?_) (s' := ?_) ?_ ?_ ?_ ?_
  rotate_left 2
  · rfl
  · kernel_rfl
  · simp
  refine tri_cond (b := ?_) ?_ (fun hc => ?_) (fun hc => ?_)
  rotate_left 1
  · rfl
  · refine tri_reg M hI hn (outs := ?_) (s' := ?_) ?_ ?_ ?_ ?_
    rotate_left 2
    · rfl
    · kernel_rfl
    · simp
    refine tri_ret (fun a w hg => ⟨.inr rfl, _, ?_, hg⟩)
    refine retTo_cold (out := ?_) ?_ ?_ ?_ ?_ ?_
    rotate_left 1
    · rfl
    · simp
    · rfl
    · rfl
    have h : e ≠ 0 ∨ q < 1 ∨ 1099511627776 < q := by simp at hc; omega
    rw [if_pos h] at hm
    rw [← hm]
    rfl
  · have h : ¬ (e ≠ 0 ∨ q < 1 ∨ 1099511627776 < q) := by simp at hc; omega
    rw [if_neg h] at hm
    refine tri_skip ?_
    change Tri _ _ _ _ _
    refine tri_reg M hI hn (outs := ?_) (s' := ?_) ?_ ?_ ?_ ?_
    rotate_left 2
    · rfl
    · kernel_rfl
    · simp
      refine ⟨hle.1, ?_⟩
      unfold shortL
      rw [rowB_length]
      omega
    have erow : (rowB ((b.length : Int) - (k : Int)).toNat fun i => byF b ((k : Int).toNat + i)) = b.drop k := by
      rw [show ((b.length : Int) - (k : Int)).toNat = b.length - k from by omega, show (k : Int).toNat = k from by omega, rowB_drop (by omega)]
      exact List.take_of_length_le (by rw [List.length_drop]; exact Nat.le_refl _)
    refine tri_conv (s' := ⟨[(0, none, pvI rec), (1, none, rowV b), (4, none, pv1 (.pt 0 0 0)), (5, none, pvI q), (7, none, pvI (conS b).2.2), (8, none, strV (strOf (conS b).1)), (9, none, pvI ((conS b).2.1 : Int))], [(0, none, 0, .box 164 [.lit (.int .i64 0), .lit (.string noBytes)])]⟩) (fun a w hg => (hg.reset (kT := [0, 1, 4, 5, 7, 8, 9]) (kO := [0]) (by rfl) (by simp)).same ?_ ?_) ?_
    · rw [erow, hcon]
      exact .cons rfl (.cons rfl (.cons rfl (.cons rfl (.cons rfl (.cons rfl (.cons rfl .nil))))))
    · exact .cons (.box rfl) .nil
    generalize conS b = c at *
    obtain ⟨s, n, e2⟩ := c
    dsimp only at *
    have hssz : (strOf s).size = s.length := strOf_size s
    refine tri_seq ?_
    refine tri_reg M hI hn (outs := ?_) (s' := ?_) ?_ ?_ ?_ ?_
    rotate_left 2
    · rfl
    · kernel_rfl
    · simp
      intro he hs
      rw [hssz] at hs ⊢
      exact ⟨h1, by unfold i64P; omega, by omega⟩
    refine tri_cond (b := ?_) ?_ (fun hc => ?_) (fun hc => ?_)
    rotate_left 1
    · rfl
    · refine tri_reg M hI hn (outs := ?_) (s' := ?_) ?_ ?_ ?_ ?_
      rotate_left 2
      · rfl
      · kernel_rfl
      · simp
      refine tri_ret (fun a w hg => ⟨.inr rfl, _, ?_, hg⟩)
      refine retTo_cold (out := ?_) ?_ ?_ ?_ ?_ ?_
      rotate_left 1
      · rfl
      · simp
      · rfl
      · rfl
      simp [hasPrefix_take, rowB_byF, strOf_list, hssz] at hc
      have h2 : e2 ≠ 0 ∨ 2000 < s.length ∨ b.take (encS rec q s).length ≠ encS rec q s := by
        rcases hc with ((h3 | h3) | h3) | h3
        · exact .inl h3
        · exact .inr (.inl (by omega))
        · exact .inr (.inr h3)
        · by_cases h4 : e2 = 0
          · exact absurd h3 (hpos h4)
          · exact .inl h4
      rw [if_pos h2] at hm
      rw [← hm]
      rfl
    · refine tri_skip ?_
      change Tri _ _ _ _ _
      refine tri_reg M hI hn (outs := ?_) (s' := ?_) ?_ ?_ ?_ ?_
      rotate_left 2
      · rfl
      · kernel_rfl
      · simp
      refine tri_ret (fun a w hg => ⟨.inr rfl, _, ?_, hg⟩)
      refine retTo_cold (out := ?_) ?_ ?_ ?_ ?_ ?_
      rotate_left 1
      · rfl
      · simp
      · rfl
      · rfl
      simp [hasPrefix_take, rowB_byF, strOf_list, hssz] at hc
      have h2 : ¬ (e2 ≠ 0 ∨ 2000 < s.length ∨ b.take (encS rec q s).length ≠ encS rec q s) := by
        rintro (h3 | h3 | h3)
        · exact h3 hc.1.1.1
        · omega
        · exact h3 hc.1.2
      rw [if_neg h2] at hm
      rw [← hm]
      rfl
def spDec : Spec := funSpec true fun xs => match xs with
  | [.w (.one (.lit (.int .i64 rec))), v] => (match asRow v with
    | some (p, l) => some (p ∧ i64P rec ∧ l.length < 4611686018427387904, arPV (decS rec l))
    | none => none)
  | _ => none
theorem dec_ok : SpecOk Tryd.prog ShaMem 150 spDec := by
  refine funSpec_ok (call_enters Tryd.func150 (by kernel_rfl) rfl) (fun xs p r hg hp => ?_)
  split at hg
  · rename_i rec v
    cases hq : asRow v with
    | none => rw [hq] at hg; cases hg
    | some q =>
      obtain ⟨p0, l⟩ := q
      rw [hq] at hg
      cases hg
      exact (decode_fun rec l hp.2.1 hp.2.2).args fun C vs hv => by
        match vs, hv with
        | [x0, x], ⟨h0, h1, _⟩ => exact ⟨h0, asRow_ok hq hp.1 h1, trivial⟩
  · cases hg
end Go.Proofs.YtoefmncdloffaaaDoor.Pv


namespace Go.Proofs.YtoefmncdloffaaaDoor.Pv
open Go.RowKit
section
variable {P : Program} {I : World → Prop} {A : Amb} {s : St} {a : Act} {w w' : World} {env : Env} {F : Option Bool → PV → Wr → Prop}
theorem GamE.many (h : GamE A s a w env) (wr : Wr) (hw : Chg (fun b => ∃ p ∈ wr, ∃ hd, env p.1 = some (p.2.2.1, hd) ∧ hblk hd = some b) w w')
    (hwr : ∀ p ∈ wr, p.2.1 = none ∧ (∀ O stp l, p.2.2.2 ≠ .dev O stp l) ∧ ∃ hd, env p.1 = some (p.2.2.1, hd) ∧ ((ctxOf A w env).Le (ctxOf A w' env) → ObjOk (ctxOf A w' env) hd p.2.2.2)) :
    GamE A { s with o := wr ++ s.o } a w' env ∧ (ctxOf A w env).Le (ctxOf A w' env) := by
  have hle : (ctxOf A w env).Le (ctxOf A w' env) := ⟨hw.size, fun b hlt hok => ⟨hok, hw.block b hlt (fun ⟨p, _, hd, h1, h2⟩ => hok.2 _ _ _ h1 h2)⟩, fun x ver hd hx => ⟨ver, hd, hx, Nat.le_refl _, fun _ => rfl⟩⟩
  have hfind : ∀ (l : Wr) x, (∃ p ∈ l, p.1 = x ∧ find (l ++ s.o) x = some p.2) ∨ ((∀ p ∈ l, p.1 ≠ x) ∧ find (l ++ s.o) x = find s.o x) := by
    intro l x
    induction l with
    | nil => exact .inr ⟨(fun p hp => by cases hp), rfl⟩
    | cons p l ih =>
      by_cases hp : p.1 = x
      · exact .inl ⟨p, List.mem_cons_self, hp, by rw [← hp]; exact find_cons_eq _ _ _⟩
      · have e : find (p :: l ++ s.o) x = find (l ++ s.o) x := find_cons_ne _ _ hp
        rcases ih with ⟨q, h1, h2, h3⟩ | ⟨h1, h2⟩
        · exact .inl ⟨q, List.mem_cons_of_mem _ h1, h2, e.trans h3⟩
        · refine .inr ⟨fun q hq => ?_, e.trans h2⟩
          rcases List.mem_cons.1 hq with rfl | hq
          · exact hp
          · exact h1 q hq
  refine ⟨{ chg := ?_, size := h.size, dom := fun x hx => ?_, objs := fun x g ver o hf => ?_, live := fun x ver hd b h1 h2 => ⟨Nat.lt_of_lt_of_le (h.live x ver hd b h1 h2).1 hw.size, (h.live x ver hd b h1 h2).2⟩, inj := h.inj, tmps := fun t g pv hf hg => let ⟨v, h1, h2⟩ := h.tmps t g pv hf hg; ⟨v, h1, h2.le hle⟩, defers := h.defers, und := h.und, exts := fun y hd hy => ⟨(h.exts y hd hy).1, (h.exts y hd hy).2.le hle⟩, dev := fun g ver O stp l hf hg => ?_ }, hle⟩
  · refine h.chg.trans' hw (fun _ _ h => h) (fun i hi ⟨p, _, hd, h1, h2⟩ => ?_)
    rcases (h.live _ _ hd i h1 h2).2 with h3 | h3
    · omega
    · exact h3
  · rcases hfind wr x with ⟨p, _, _, h3⟩ | ⟨_, h2⟩
    · have hx' : find (wr ++ s.o) x = none := hx
      rw [h3] at hx'; cases hx'
    · exact h.dom x (h2.symm.trans hx)
  · have hf' : find (wr ++ s.o) x = some (g, ver, o) := hf
    rcases hfind wr x with ⟨p, h1, h2, h3⟩ | ⟨h1, h2⟩
    · rw [h3] at hf'
      obtain ⟨k1, _, hd, k2, k3⟩ := hwr p h1
      obtain ⟨x', g', vr, ob⟩ := p
      dsimp only at k1 k2 k3 h2
      subst h2
      cases hf'
      exact ⟨hd, k2, fun _ => k3 hle⟩
    · rw [h2] at hf'
      obtain ⟨hd, h3, h4⟩ := h.objs x g ver o hf'
      exact ⟨hd, h3, fun hg => (h4 hg).le_same hle (fun b hbl hlt => hw.block b hlt (fun ⟨p, hp, hd2, h5, h6⟩ => h1 p hp (h.inj p.1 x _ hd2 ver hd b h5 h3 h6 hbl)))⟩
  · have hf' : find (wr ++ s.o) dx = some (g, ver, .dev O stp l) := hf
    rcases hfind wr dx with ⟨p, h1, h2, h3⟩ | ⟨h1, h2⟩
    · rw [h3] at hf'
      obtain ⟨_, k1, _⟩ := hwr p h1
      obtain ⟨x', g', vr, ob⟩ := p
      cases hf'
      exact absurd rfl (k1 O stp l)
    · rw [h2] at hf'
      obtain ⟨k1, k2, k3⟩ := h.dev g ver O stp l hf' hg
      exact ⟨k1, k2, A.dv.grow _ _ _ _ _ k3 (hw.mono fun k _ ⟨p, _, hd, e1, e2⟩ => .inr ⟨p.1, _, hd, e1, e2⟩) (fun b hb => .inl hb)⟩
structure Gv where
  x : Nat
  vr : Nat
  t : TypeId
  l : List PC
def gatherM : List PV → Nat → (List Gv → List PV → M) → M
  | [], _, k => k [] []
  | .w (.one (.pt x ver off)) :: l, i, k => (match Nat.beq off 0 with
    | true => .obj x fun gd vr ob => guardT gd (match Nat.beq ver vr, ob with
      | true, .box t c => (match c.all (coldPC false) with
        | true => gatherM l (i + 1) fun os ys => k (⟨x, vr, t, c⟩ :: os) (pv1 (.pt (px + i) 0 0) :: ys)
        | false => .fail)
      | _, _ => .fail)
    | false => .fail)
  | v :: l, i, k => (match argV v with
    | some v' => gatherM l i fun os ys => k os (v' :: ys)
    | none => .fail)
def writeM : List Gv → List (List PC) → M → M
  | [], [], k => k
  | o :: os, c :: cs, k => .upd o.x o.vr (.box o.t c) (writeM os cs k)
  | _, _, _ => .fail
def distinct : List Gv → Bool
  | [] => true
  | o :: os => (os.all fun p => !Nat.beq o.x p.x) && distinct os
def obsOf : Nat → List Gv → List (List PC) → List Ob
  | i, o :: os, c :: cs => ⟨px + i, o.t, o.l, c⟩ :: obsOf (i + 1) os cs
  | _, _, _ => []
def obSpec (g : List (TypeId × List PC) → List PV → Option (Prop × List (List PC) × PV)) : Spec := fun _ xs => gatherM xs 0 fun os ys => (match distinct os, g (os.map fun o => (o.t, o.l)) ys with
  | true, some (p, cs, r) => (match Nat.beq cs.length os.length with
    | true => .need p (writeM os cs (.ret r))
    | false => .fail)
  | _, _ => .fail)
def hdBlk : Option (Nat × Value) → Nat
  | some (_, .pointer (some a)) => a.block
  | _ => 0
def blOf (os : List Gv) (env : Nat → Option (Nat × Value)) (n : Nat) : Nat := hdBlk ((os[n - px]?).bind fun o => env o.x)
def GvOk (C : Ctx) (o : Gv) : Prop := ∃ g cs, C.env o.x = some (o.vr, boxAt g) ∧ Blk C.w g o.t cs ∧ RL C.cold o.l cs.toList
theorem gather_ok (h : GamE A s a w env) : ∀ {pvs : List PV} {vs : List Value} {i : Nat} {k : List Gv → List PV → M}, Vals (ctxOf A w env) pvs vs → (gatherM pvs i k).ok none s F →
    ∃ os ys, (∀ o ∈ os, GvOk (ctxOf A w env) o) ∧ (∀ C' : Ctx, (ctxOf A w env).cold.Le C' → (∀ (j : Nat) o, os[j]? = some o → ∀ hd, env o.x = some (o.vr, hd) → C'.env (px + (i + j)) = some (0, hd)) → Vals C' ys vs) ∧ (k os ys).ok none s F
  | [], [], i, k, _, hk => ⟨[], [], (fun o ho => by cases ho), fun _ _ _ => trivial, hk⟩
  | [], _ :: _, _, _, hv, _ => hv.elim
  | _ :: _, [], _, _, hv, _ => hv.elim
  | pv :: pvs, v :: vs, i, k, ⟨h1, h2⟩, hk => by
    have other : ∀ v', argV pv = some v' → (gatherM pvs i fun os ys => k os (v' :: ys)).ok none s F → ∃ os ys, (∀ o ∈ os, GvOk (ctxOf A w env) o) ∧ (∀ C' : Ctx, (ctxOf A w env).cold.Le C' → (∀ (j : Nat) o, os[j]? = some o → ∀ hd, env o.x = some (o.vr, hd) → C'.env (px + (i + j)) = some (0, hd)) → Vals C' ys (v :: vs)) ∧ (k os ys).ok none s F := by
      intro v' hv' hk'
      obtain ⟨os, ys, h3, h4, h5⟩ := gather_ok h h2 hk'
      exact ⟨os, v' :: ys, h3, fun C' hle hj => ⟨argV_ok hle hv' h1, h4 C' hle hj⟩, h5⟩
    unfold gatherM at hk
    split at hk
    · cases ‹_ :: _ = []›
    · rename_i x ver off l heq
      obtain ⟨rfl, rfl⟩ : pv = .w (.one (.pt x ver off)) ∧ pvs = l := by simpa using heq
      cases hb : Nat.beq off 0 <;> rw [hb] at hk
      · exact hk.elim
      obtain rfl := beqT hb
      obtain ⟨gd, vr, ob, hfo, hk⟩ := hk
      have hk2 := guardT_ok hk
      clear hk
      obtain ⟨hgt, hk⟩ := hk2
      obtain ⟨hd, he, hob⟩ := obj_at h hfo hgt
      cases hb2 : Nat.beq ver vr <;> cases ob <;> simp only [hb2] at hk <;> try exact hk.elim
      rename_i t c
      obtain rfl := beqT hb2
      cases hc : c.all (coldPC false) <;> rw [hc] at hk
      · exact hk.elim
      obtain ⟨g0, rfl, rfl⟩ := h1.pt_inv he
      obtain ⟨g1, cs, e1, hB, hR⟩ := hob
      cases e1
      obtain ⟨os, ys, h3, h4, h5⟩ := gather_ok h h2 hk
      refine ⟨⟨x, ver, t, c⟩ :: os, pv1 (.pt (px + _) 0 0) :: ys, fun o ho => ?_, fun C' hle hj => ⟨?_, h4 C' hle (fun j o hjo hd hx => ?_)⟩, h5⟩
      · rcases List.mem_cons.1 ho with rfl | ho
        · exact ⟨g0, cs, he, hB, coldPL_le hR hc⟩
        · exact h3 o ho
      · have := hj 0 _ rfl _ he
        rw [Nat.add_zero] at this
        exact .w (.one (.pt ⟨g0, 0, rfl⟩ ⟨0, boxAt g0, this, Nat.le_refl _, fun _ => ⟨g0, rfl, rfl⟩⟩))
      · have := hj (j + 1) o (by simpa using hjo) hd hx
        rw [show ∀ n : Nat, n + 1 + j = n + (j + 1) from fun n => by omega]
        exact this
    · rename_i v0 l0 _ heq
      obtain ⟨rfl, rfl⟩ : pv = v0 ∧ pvs = l0 := by simpa using heq
      cases hq : argV pv with
      | none => rw [hq] at hk; exact hk.elim
      | some v' =>
        rw [hq] at hk
        exact other v' hq hk
theorem writeM_ok {r : PV} : ∀ {os : List Gv} {cs : List (List PC)} {F : Option Bool → PV → Wr → Prop}, (writeM os cs (.ret r)).ok none s F → os.length = cs.length ∧ F none r ((os.zip cs).map fun p => (p.1.x, none, p.1.vr, .box p.1.t p.2))
  | [], [], F, h => ⟨rfl, h⟩
  | [], _ :: _, _, h => h.elim
  | _ :: _, [], _, h => h.elim
  | o :: os, c :: cs, F, h => by
    obtain ⟨_, h⟩ := h
    obtain ⟨h1, h2⟩ := writeM_ok h
    exact ⟨by simp [h1], h2⟩
theorem distinct_ok : ∀ {os : List Gv}, distinct os = true → ∀ (i j : Nat) o p, os[i]? = some o → os[j]? = some p → o.x = p.x → i = j
  | [], _, i, j, o, p, hi, _, _ => by simp at hi
  | q :: os, h, i, j, o, p, hi, hj, e => by
    rw [distinct, Bool.and_eq_true] at h
    have hne : ∀ p ∈ os, q.x ≠ p.x := fun p hp e => by
      have := List.all_eq_true.1 h.1 p hp
      rw [e] at this
      simp at this
    match i, j with
    | 0, 0 => rfl
    | 0, j + 1 =>
      obtain rfl : q = o := by simpa using hi
      exact absurd e (hne p (List.mem_of_getElem? (by simpa using hj : os[j]? = some p)))
    | i + 1, 0 =>
      obtain rfl : q = p := by simpa using hj
      exact absurd e.symm (hne o (List.mem_of_getElem? (by simpa using hi : os[i]? = some o)))
    | i + 1, j + 1 => rw [distinct_ok h.2 i j o p (by simpa using hi) (by simpa using hj) e]
theorem obsOf_at : ∀ {os : List Gv} {cs : List (List PC)} {i : Nat} {b : Ob}, b ∈ obsOf i os cs → ∃ j o c, os[j]? = some o ∧ cs[j]? = some c ∧ b = ⟨px + (i + j), o.t, o.l, c⟩
  | [], _, _, _, h => by cases h
  | _ :: _, [], _, _, h => by cases h
  | o :: os, c :: cs, i, b, h => by
    rcases List.mem_cons.1 h with rfl | h
    · exact ⟨0, o, c, rfl, rfl, rfl⟩
    · obtain ⟨j, o', c', h1, h2, h3⟩ := obsOf_at h
      exact ⟨j + 1, o', c', by simpa using h1, by simpa using h2, by rw [h3, show i + 1 + j = i + (j + 1) from by omega]⟩
theorem obsOf_mem : ∀ {os : List Gv} {cs : List (List PC)} {i j : Nat} {o : Gv} {c : List PC}, os[j]? = some o → cs[j]? = some c → (⟨px + (i + j), o.t, o.l, c⟩ : Ob) ∈ obsOf i os cs
  | [], _, _, _, _, _, h, _ => by simp at h
  | _ :: _, [], _, _, _, _, _, h => by simp at h
  | o :: os, c :: cs, i, 0, o', c', h1, h2 => by
    obtain rfl : o = o' := by simpa using h1
    obtain rfl : c = c' := by simpa using h2
    exact List.mem_cons_self
  | o :: os, c :: cs, i, j + 1, o', c', h1, h2 => by
    refine List.mem_cons_of_mem _ ?_
    rw [show i + (j + 1) = i + 1 + j from by omega]
    exact obsOf_mem (by simpa using h1) (by simpa using h2)
theorem obSpec_ok {f : Nat} {g : List (TypeId × List PC) → List PV → Option (Prop × List (List PC) × PV)} (hent : ∀ args w, (callFunc f args).run P w = .ok (.enter f args) w)
    (hg : ∀ (os : List Gv) ys p cs r, g (os.map fun o => (o.t, o.l)) ys = some (p, cs, r) → os.length = cs.length → p → FunX P I f false (obsOf 0 os cs) (fun _ => none) none (fun _ => False) ys r) : SpecOk P I f (obSpec g) := by
  refine ⟨hent, fun A s a w env nm pvs vs F h hI hv hk => ?_⟩
  unfold obSpec at hk
  obtain ⟨os, ys, h1, h2, hk⟩ := gather_ok h hv hk
  cases hd : distinct os <;> cases hq : g (os.map fun o => (o.t, o.l)) ys <;> simp only [hd, hq] at hk <;> try exact hk.elim
  rename_i q
  obtain ⟨p, cs, r⟩ := q
  dsimp only at hk
  cases hb : Nat.beq cs.length os.length <;> rw [hb] at hk
  · exact hk.elim
  have hlen := beqT hb
  obtain ⟨hp, hk⟩ := hk
  obtain ⟨_, hF⟩ := writeM_ok hk
  have hbl : ∀ (j : Nat) o, os[j]? = some o → ∃ g, env o.x = some (o.vr, boxAt g) ∧ blOf os env (px + (0 + j)) = g := fun j o hj => by
    obtain ⟨g, cs', e1, _⟩ := h1 o (List.mem_of_getElem? hj)
    refine ⟨g, e1, ?_⟩
    unfold blOf
    rw [Nat.zero_add, Nat.add_sub_cancel_left, hj]
    have e1' : env o.x = some (o.vr, boxAt g) := e1
    rw [Option.bind_some, e1']
    rfl
  have hSX : ∀ b, SX (obsOf 0 os cs) (blOf os env) Dv.non b → ∃ o ∈ os, env o.x = some (o.vr, boxAt b) := by
    rintro b (hb | ⟨ob, hob, rfl⟩)
    · exact hb.elim
    · obtain ⟨j, o, c, e1, _, rfl⟩ := obsOf_at hob
      obtain ⟨g, e2, e3⟩ := hbl j o e1
      exact ⟨o, List.mem_of_getElem? e1, by rw [e3]; exact e2⟩
  refine (hg os ys p cs r hq hlen.symm hp w (ctxOf A w env).ok vs (blOf os env) Dv.non (fun _ => True)
    (fun w' hw => hI.mem w' (h.chg.trans' hw (fun _ _ h => h) (fun b hlt0 hb => by
      obtain ⟨o, ho, e1⟩ := hSX b hb
      rcases (h.live _ _ _ b e1 rfl).2 with h3 | h3
      · omega
      · exact h3)))
    (fun b hb => by
      obtain ⟨o, ho, e1⟩ := hSX b hb
      exact ⟨(h.live _ _ _ b e1 rfl).1, fun hok => hok.2 _ _ _ e1 rfl⟩)
    (DvStep.non P) (fun _ _ _ _ _ _ h => h.elim) rfl (fun p hp => by cases hp) (fun _ => ⟨fun _ h => h, fun _ _ _ h => h⟩)
    (fun ob hob => by
      obtain ⟨j, o, c, e1, _, rfl⟩ := obsOf_at hob
      obtain ⟨g, e2, e3⟩ := hbl j o e1
      obtain ⟨g', cs', e4, h4, h5⟩ := h1 o (List.mem_of_getElem? e1)
      have e4' : env o.x = some (o.vr, boxAt g') := e4
      rw [e2] at e4'
      cases e4'
      refine ⟨trivial, cs', ?_, h5⟩
      show Blk w (blOf os env (px + (0 + j))) _ _
      rw [e3]
      exact h4)
    (fun ob hob ob' hob' e => by
      obtain ⟨j, o, c, e1, _, rfl⟩ := obsOf_at hob
      obtain ⟨j', o', c', e1', _, rfl⟩ := obsOf_at hob'
      obtain ⟨g, e2, e3⟩ := hbl j o e1
      obtain ⟨g', e2', e3'⟩ := hbl j' o' e1'
      have e' : blOf os env (px + (0 + j)) = blOf os env (px + (0 + j')) := e
      rw [e3, e3'] at e'
      subst e'
      have := h.inj o.x o'.x _ _ _ _ g e2 e2' rfl rfl
      rw [distinct_ok hd j j' o o' e1 e1' this])
    (h2 _ cold_to (fun j o hj hd hx => by
      obtain ⟨g, e2, e3⟩ := hbl j o hj
      rw [e2] at hx
      cases hx
      have hm : ∃ c, cs[j]? = some c := by
        have : j < cs.length := by rw [hlen]; exact (List.getElem?_eq_some_iff.1 hj).1
        exact ⟨_, List.getElem?_eq_getElem this⟩
      obtain ⟨c, hc⟩ := hm
      show envX (obsOf 0 os cs) (blOf os env) none Dv.non.hd (px + (0 + j)) = _
      have hmem : hasOb (obsOf 0 os cs) (px + (0 + j)) = true := mem_hasOb (obsOf_mem (i := 0) hj hc)
      unfold envX extX
      rw [hmem]
      show some (0, boxAt (blOf os env (px + (0 + j)))) = _
      rw [e3]))).mono ?_
  rintro e w' ⟨hw, ⟨val, rfl, hres, hbx, _⟩ | ⟨chain, l2, rfl, h3, _⟩⟩
  · obtain ⟨h4, h5⟩ := h.many (w' := w') ((os.zip cs).map fun p => (p.1.x, none, p.1.vr, .box p.1.t p.2))
      (hw.mono fun b hlt hb => by
        obtain ⟨o, ho, e1⟩ := hSX b hb
        obtain ⟨j, hj⟩ := List.getElem?_of_mem ho
        have hm : j < cs.length := by rw [hlen]; exact (List.getElem?_eq_some_iff.1 hj).1
        exact ⟨(o.x, none, o.vr, .box o.t cs[j]), List.mem_map.2 ⟨(o, cs[j]), List.mem_of_getElem? (i := j) (by rw [List.getElem?_zip_eq_some]; exact ⟨hj, List.getElem?_eq_getElem hm⟩), rfl⟩, _, e1, rfl⟩)
      (fun q hq => by
        obtain ⟨⟨o, c⟩, hz, rfl⟩ := List.mem_map.1 hq
        obtain ⟨j, hj⟩ := List.getElem?_of_mem hz
        rw [List.getElem?_zip_eq_some] at hj
        obtain ⟨g, e2, e3⟩ := hbl j o hj.1
        refine ⟨rfl, (fun _ _ _ e => by cases e), boxAt g, e2, fun hle => ?_⟩
        obtain ⟨cs', k1, k2⟩ := hbx _ (obsOf_mem (i := 0) hj.1 hj.2)
        have k1' : Blk w' (blOf os env (px + (0 + j))) o.t cs' := k1
        rw [e3] at k1'
        exact ⟨g, cs', rfl, k1', k2.le (res_leX h hw.size)⟩)
    exact .inl ⟨r, _, val, env, rfl, hF, h4, hres.le (res_leX h hw.size)⟩
  · exact h3.elim
end
end Go.Proofs.YtoefmncdloffaaaDoor.Pv


namespace Go.Proofs.YtoefmncdloffaaaDoor
open Go.RowKit
def nonzero (l : List Int) : Nat := (l.filter (fun n => n != 0)).length
def majorityB (l : List Int) : Bool := decide (l.length < 2 * nonzero l)
def Prg.fuse (a b : Int) : Prg Int := .ask ⟨1, a, b, noBytes⟩ fun r => .ret r.val
def Prg.read (bank bit : Int) : Prg Bool :=
  (Prg.fuse bank (3 * bit + 0)).bind fun a => (Prg.fuse bank (3 * bit + 1)).bind fun b => (Prg.fuse bank (3 * bit + 2)).bind fun c => .ret (majorityB [a, b, c])
def Prg.up (bank : Int) : Nat → Nat → Prg Nat
  | 0, n => .ret n
  | f + 1, n => (Prg.read bank n).bind fun b => if b then Prg.up bank f (n + 1) else .ret n
def fuseBit (x : Int) (noise : Bool) : Int := if x = 2 ∨ (x = 1 ∧ noise = true) then 1 else 0
def pulsed (x : Int) (cut : Bool) : Int := if x ≤ 1 then (if cut then 1 else 2) else x
def faultAt (l : List Int) (i : Nat) : Bool × Bool := match l[i]? with | some x => (x % 2 == 1, x / 2 % 2 == 1) | none => (false, false)
def Prg.In {α : Type} (n : Nat) : Prg α → Prop
  | .ret _ => True
  | .ask a k => (a.kind = 1 ∨ a.kind = 2) ∧ a.bank = 2 ∧ 0 ≤ a.cell ∧ a.cell < n ∧ a.bytes = noBytes ∧ ∀ r, Prg.In n (k r)
theorem Prg.In.bind {α β : Type} {n : Nat} {p : Prg α} {f : α → Prg β} (h : Prg.In n p) {R : α → Prop} (ha : Prg.All R p) (hf : ∀ a, R a → Prg.In n (f a)) : Prg.In n (p.bind f) := by
  induction p with
  | ret a => exact hf a ha
  | ask a k ih => exact ⟨h.1, h.2.1, h.2.2.1, h.2.2.2.1, h.2.2.2.2.1, fun r => ih r (h.2.2.2.2.2 r) (ha r)⟩
abbrev cell (c : List Int) (j : Nat) : Int := c.getD j 0
def aftC (a : Acc) (f : Bool × Bool) (cells : List Int) : List Int := if a.kind = 1 then cells else cells.set a.cell.toNat (pulsed (cells.getD a.cell.toNat 0) f.1)
def aftV (a : Acc) (f : Bool × Bool) (cells : List Int) : Int := if a.kind = 1 then fuseBit (cells.getD a.cell.toNat 0) f.2 else 0
def exec {α : Type} (F : List Int) : Prg α → List Int → Nat → Option α × List Int × Nat
  | .ret a, c, i => (some a, c, i)
  | .ask a k, c, i => if (faultAt F i).1 = true then (none, aftC a (faultAt F i) c, i + 1) else exec F (k ⟨aftV a (faultAt F i) c, noBytes⟩) (aftC a (faultAt F i) c) (i + 1)
def Prg.Within {α : Type} : Nat → Prg α → Prop
  | _, .ret _ => True
  | 0, .ask _ _ => False
  | n + 1, .ask _ k => ∀ r, Prg.Within n (k r)
theorem Within.mono {α : Type} {p : Prg α} : ∀ {n m : Nat}, p.Within n → n ≤ m → p.Within m := by
  induction p with
  | ret a => intro n m _ _; cases m <;> trivial
  | ask a k ih =>
    intro n m h hm
    cases n with
    | zero => exact h.elim
    | succ n =>
      cases m with
      | zero => omega
      | succ m => exact fun r => ih r (h r) (by omega)
theorem Within.bind {α β : Type} {p : Prg α} {f : α → Prg β} {m : Nat} : ∀ {n : Nat}, p.Within n → (∀ a, (f a).Within m) → (p.bind f).Within (n + m) := by
  induction p with
  | ret a => intro n _ hf; exact Within.mono (hf a) (by omega)
  | ask a k ih =>
    intro n h hf
    cases n with
    | zero => exact h.elim
    | succ n =>
      rw [show n + 1 + m = (n + m) + 1 from by omega]
      exact fun r => ih r (h r) hf
theorem cell_set (c : List Int) (i j : Nat) (v : Int) : cell (c.set i v) j = if i = j ∧ i < c.length then v else cell c j := by
  unfold cell
  rw [List.getD_eq_getElem?_getD, List.getD_eq_getElem?_getD, List.getElem?_set]
  by_cases h : i = j
  · subst h
    by_cases h2 : i < c.length
    · simp [h2]
    · simp [h2]
  · simp [h]
structure Evo (c c' : List Int) : Prop where
  len : c'.length = c.length
  at_ : ∀ j, cell c' j = cell c j ∨ (cell c j ≤ 1 ∧ (cell c' j = 1 ∨ cell c' j = 2))
theorem Evo.refl (c : List Int) : Evo c c := ⟨rfl, fun _ => .inl rfl⟩
theorem Evo.trans {a b c : List Int} (h : Evo a b) (k : Evo b c) : Evo a c := ⟨k.len.trans h.len, fun j => by
  rcases h.at_ j with h1 | ⟨h1, h2⟩ <;> rcases k.at_ j with k1 | ⟨k1, k2⟩ <;> omega⟩
theorem Evo.set (c : List Int) (i : Nat) (cut : Bool) : Evo c (c.set i (pulsed (cell c i) cut)) := ⟨by simp, fun j => by
  rw [cell_set]
  by_cases h : i = j ∧ i < c.length
  · rw [if_pos h, h.1]
    unfold pulsed
    split
    · cases cut
      · exact .inr ⟨by assumption, .inr rfl⟩
      · exact .inr ⟨by assumption, .inl rfl⟩
    · exact .inl rfl
  · rw [if_neg h]; exact .inl rfl⟩
end Go.Proofs.YtoefmncdloffaaaDoor


namespace Go.Proofs.YtoefmncdloffaaaDoor.Pv
open Go.RowKit
def ans (O : List Acc → Option Res) (l : List Acc) : Res := (O l).getD ⟨0, noBytes⟩
def go {α : Type} (O : List Acc → Option Res) : Prg α → List Acc → α × List Acc
  | .ret a, l => (a, l)
  | .ask c k, l => go O (k (ans O (l ++ [c]))) (l ++ [c])
theorem go_ret {α : Type} (O : List Acc → Option Res) (a : α) (l : List Acc) : go O (.ret a) l = (a, l) := rfl
theorem go_ask {α : Type} (O : List Acc → Option Res) (c : Acc) (k : Res → Prg α) (l : List Acc) : go O (.ask c k) l = go O (k (ans O (l ++ [c]))) (l ++ [c]) := rfl
theorem go_bind {α β : Type} (O : List Acc → Option Res) (p : Prg α) (f : α → Prg β) : ∀ l, go O (p.bind f) l = go O (f (go O p l).1) (go O p l).2 := by
  induction p with
  | ret a => intro l; rfl
  | ask c k ih => intro l; exact ih _ _
theorem go_pre {α : Type} (O : List Acc → Option Res) (p : Prg α) : ∀ l, l <+: (go O p l).2 := by
  induction p with
  | ret a => intro l; exact List.prefix_refl _
  | ask c k ih => intro l; exact (List.prefix_append l [c]).trans (ih _ _)
theorem go_all {α : Type} {R : α → Prop} (O : List Acc → Option Res) {p : Prg α} (h : Prg.All R p) : ∀ l, R (go O p l).1 := by
  induction p with
  | ret a => intro l; exact h
  | ask c k ih => intro l; exact ih _ (h _) _
def FunP (P : Program) (I : World → Prop) (f : Nat) {α : Type} (p : Prg α) (args : List PV) (val : α → PV) : Prop :=
  ∀ O l, FunX P I f false [] O (some (l, (go O p l).2)) (fun h => l <+: h ∧ h <+: (go O p l).2) args (val (go O p l).1)
theorem pre_ask {H L l : List Acc} {c : Acc} {X : Prop} (h1 : L <+: l) (h2 : l ++ [c] <+: H) : X → L <+: l ++ [c] ∧ l ++ [c] <+: H := fun _ => ⟨h1.trans (List.prefix_append l [c]), h2⟩
theorem pre_self (l : List Acc) : l <+: l := List.prefix_refl l
end Go.Proofs.YtoefmncdloffaaaDoor.Pv


namespace Go.Proofs.YtoefmncdloffaaaDoor.Pv
open Go.RowKit
def OB (O : List Acc → Option Res) : Prop := ∀ l r, O l = some r → r.bytes.size ≤ 1000000
theorem OB.ans {O : List Acc → Option Res} (h : OB O) (l : List Acc) : (ans O l).bytes.size ≤ 1000000 := by
  unfold Pv.ans
  cases hq : O l with
  | none => exact (by decide : (0 : Nat) ≤ 1000000)
  | some r => exact h l r hq
def FunPB (P : Program) (I : World → Prop) (f : Nat) {α : Type} (p : Prg α) (args : List PV) (val : α → PV) : Prop :=
  ∀ O l, OB O → FunX P I f false [] O (some (l, (go O p l).2)) (fun h => l <+: h ∧ h <+: (go O p l).2) args (val (go O p l).1)
theorem FunP.toB {P : Program} {I : World → Prop} {f : Nat} {α : Type} {p : Prg α} {args : List PV} {val : α → PV} (h : FunP P I f p args val) : FunPB P I f p args val := fun O l _ => h O l
def prgSpecB {α : Type} (dec : List PV → Option (Prop × Prg α × (α → PV))) : Spec :=
  devSpec (fun O l ys => match dec ys with | some (_, p, _) => (go O p l).2 | none => l) (fun O l ys => match dec ys with | some (c, p, f) => some (OB O ∧ c, f (go O p l).1) | none => none)
theorem prgSpecB_ok {P : Program} {I : World → Prop} {f : Nat} {α : Type} {dec : List PV → Option (Prop × Prg α × (α → PV))} (hent : ∀ args w, (callFunc f args).run P w = .ok (.enter f args) w)
    (hg : ∀ ys c p v, dec ys = some (c, p, v) → c → FunPB P I f p (.w (.one .dv) :: ys) v) : SpecOk P I f (prgSpecB dec) := by
  refine devSpec_ok hent (fun O l ys p r hq hp => ?_)
  cases hd : dec ys with
  | none => rw [hd] at hq; cases hq
  | some q =>
    obtain ⟨c, pr, v⟩ := q
    rw [hd] at hq
    cases hq
    exact hg ys _ pr v hd hp.2 O l hp.1
end Go.Proofs.YtoefmncdloffaaaDoor.Pv


namespace Go.Proofs.YtoefmncdloffaaaDoor.Pv
open Go.RowKit
theorem flat_of {α : Type} (g : α → List Value) (k : Nat) : ∀ (l : List α) (vs : List Value), (∀ a ∈ l, (g a).length = k) → vs.length = l.length * k → (∀ (i : Nat) (hi : i < l.length), (vs.drop (i * k)).take k = g l[i]) → vs = l.flatMap g
  | [], vs, _, hl, _ => by
    have : vs.length = 0 := by simpa using hl
    rw [List.eq_nil_of_length_eq_zero this]; rfl
  | a :: l, vs, hg, hl, h => by
    have h0 : vs.take k = g a := by
      have := h 0 (by simp)
      rw [Nat.zero_mul, List.drop_zero] at this
      exact this
    have ih := flat_of g k l (vs.drop k) (fun b hb => hg b (List.mem_cons_of_mem _ hb)) (by rw [List.length_drop, hl, List.length_cons, Nat.succ_mul]; omega) (fun i hi => by
      have := h (i + 1) (by simpa using hi)
      rw [Nat.succ_mul] at this
      rw [List.drop_drop, Nat.add_comm]
      exact this)
    rw [List.flatMap_cons, ← ih, ← h0]
    exact (List.take_append_drop k vs).symm
def resPC (r : Res) : List PC := [.lit (.int .i64 r.val), .lit (.string r.bytes)]
def resF (l : List Res) : Nat → List PC := fun i => resPC (l.getD i ⟨0, noBytes⟩)
def resOf : List PC → Res
  | [.lit (.int _ n), .lit (.string s)] => ⟨n, s⟩
  | _ => ⟨0, noBytes⟩
def isRes : List PC → Bool
  | [.lit (.int .i64 _), .lit (.string _)] => true
  | _ => false
theorem isRes_ok {l : List PC} (h : isRes l = true) : l = resPC (resOf l) := by
  unfold isRes at h
  split at h
  · rfl
  · cases h
def rowRes (n : Nat) (f : Nat → List PC) : List Res := (List.range n).map fun i => resOf (f i)
def IsResRow (n : Nat) (f : Nat → List PC) : Prop := ∀ i, i < n → isRes (f i) = true
@[simp] theorem rowRes_length (n : Nat) (f : Nat → List PC) : (rowRes n f).length = n := by simp [rowRes]
theorem resF_row {n : Nat} {f : Nat → List PC} (h : IsResRow n f) : ∀ i, i < n → f i = resF (rowRes n f) i := fun i hi => by
  unfold resF rowRes
  rw [List.getD_eq_getElem?_getD, List.getElem?_map, List.getElem?_range hi]
  exact isRes_ok (h i hi)
@[simp] theorem isResRow_resF (n : Nat) (l : List Res) : IsResRow n (resF l) := fun _ _ => rfl
@[simp] theorem rowRes_resF (l : List Res) : rowRes l.length (resF l) = l := by
  apply List.ext_getElem (by simp)
  intro i h1 h2
  simp only [rowRes, List.getElem_map, List.getElem_range, resF, resPC, resOf]
  rw [List.getD_eq_getElem?_getD, List.getElem?_eq_getElem h2]
  rfl
theorem res_reads {C : Ctx} {n : Nat} {f : Nat → List PC} {v : Value} (h : R C (.sl 2 n f) [v]) (hf : IsResRow n f) : Reads C.w 2 v (rowRes n f).length (logCells (rowRes n f)) := by
  cases h with
  | sl hr hb he =>
    rename_i vs
    have : vs = logCells (rowRes n f) := by
      refine flat_of Res.cells 2 (rowRes n f) vs (fun a _ => rfl) (by rw [rowRes_length]; exact hr.1) (fun i hi => ?_)
      rw [rowRes_length] at hi
      have h1 := he i hi
      rw [resF_row hf i hi] at h1
      unfold resF at h1
      rw [List.getD_eq_getElem?_getD, List.getElem?_eq_getElem (by rw [rowRes_length]; exact hi)] at h1
      generalize (rowRes n f)[i]'(by rw [rowRes_length]; exact hi) = r at h1 ⊢
      generalize (vs.drop (i * 2)).take 2 = xs at h1 ⊢
      cases h1 with
      | cons k1 h1 => cases h1 with
        | cons k2 h1 =>
          cases h1
          cases k1
          cases k2
          rfl
    rw [← this, rowRes_length]
    exact hr
def rsOf : PC → Option (Prop × List Res)
  | .sl 2 n f => some (IsResRow n f, rowRes n f)
  | .lit (.slice none 0 0) => some (True, [])
  | _ => none
theorem rsOf_ok {C : Ctx} {c : PC} {v : Value} {p : Prop} {l : List Res} (h : rsOf c = some (p, l)) (hp : p) (hr : R C c [v]) : Reads C.w 2 v l.length (logCells l) := by
  unfold rsOf at h
  split at h
  · cases h; exact res_reads hr hp
  · cases h
    cases hr
    exact Reads.nil _ 2
  · cases h
def accPC (a : Acc) : List PC := [.lit (.int .i64 a.kind), .lit (.int .i64 a.bank), .lit (.int .i64 a.cell), .lit (.string a.bytes)]
end Go.Proofs.YtoefmncdloffaaaDoor.Pv


namespace Go.Proofs.YtoefmncdloffaaaDoor.Pv
open Go.RowKit
def Left (O : List Acc → Option Res) {α : Type} (p : Prg α) (l : List Acc) (q : Prg α) (k : List Acc) : Prop := l <+: k ∧ go O p l = go O q k
theorem Left.start (O : List Acc → Option Res) {α : Type} (p : Prg α) (l : List Acc) : Left O p l p l := ⟨List.prefix_refl _, rfl⟩
theorem Left.step {α β : Type} {O : List Acc → Option Res} {p : Prg α} {l k : List Acc} {q : Prg β} {f : β → Prg α} (h : Left O p l (q.bind f) k) : Left O p l (f (go O q k).1) (go O q k).2 :=
  ⟨h.1.trans (go_pre O q k), h.2.trans (go_bind O q f k)⟩
theorem Left.stp {α β : Type} {O : List Acc → Option Res} {p : Prg α} {l k : List Acc} {q : Prg β} {f : β → Prg α} (h : Left O p l (q.bind f) k) : ∀ g, k <+: g → g <+: (go O q k).2 → O g = none → l <+: g ∧ g <+: (go O p l).2 := fun g h1 h2 _ => by
  refine ⟨h.1.trans h1, h2.trans ?_⟩
  rw [h.step.2]
  exact go_pre _ _ _
theorem nomM {I : World → Prop} : Mach Tryd.prog I (find ([] : List (Nat × Spec))) := ⟨fun f sp h => (by cases h), (by kernel_rfl)⟩
set_option maxRecDepth 100000 in
theorem rd_fun {I : World → Prop} (c : Int) : FunP Tryd.prog I 149 (Prg.rd c) [.w (.one .dv), pvI c] strV := by
  intro O l
  have M := nomM (I := I)
  refine funX_of Tryd.func149 rfl rfl rfl (fun A hn hI => ?_)
  refine tri_reg M hI hn (outs := ?_) (s' := ?_) ?_ ?_ ?_ ?_
  rotate_left 2
  · rfl
  · kernel_rfl
  · simp
  refine tri_reg M hI hn (outs := ?_) (s' := ?_) ?_ ?_ ?_ ?_
  rotate_left 2
  · rfl
  · kernel_rfl
  · exact ⟨pre_ask (pre_self _) (pre_self _), trivial⟩
  refine tri_ret (fun a w hg => ⟨.inr rfl, _, ⟨?_, (fun o ho => by cases ho), fun p hp => ?_⟩, hg⟩)
  rotate_left 1
  · cases hp
    rfl
  refine retTo_cold (out := ?_) ?_ ?_ ?_ ?_ ?_
  rotate_left 1
  · rfl
  · simp
  · rfl
  · rfl
  rfl
set_option maxRecDepth 100000 in
theorem wr_fun {I : World → Prop} (c : Int) (b : ByteArray) : FunP Tryd.prog I 122 (Prg.wr c b) [.w (.one .dv), pvI c, strV b] (fun _ => .tup []) := by
  intro O l
  have M := nomM (I := I)
  refine funX_of Tryd.func122 rfl rfl rfl (fun A hn hI => ?_)
  refine tri_region M hI hn (outs := ?_) (s' := ?_) ?_ ?_ ?_ ?_
  rotate_left 2
  · rfl
  · kernel_rfl
  · exact ⟨pre_ask (pre_self _) (pre_self _), trivial⟩
  intro a w hg
  refine ⟨.inl rfl, _, ⟨?_, (fun o ho => by cases ho), fun p hp => ?_⟩, hg⟩
  rotate_left 1
  · cases hp
    rfl
  refine retTo_cold (out := ?_) ?_ ?_ ?_ ?_ ?_
  rotate_left 1
  · rfl
  · simp
  · rfl
  · rfl
  rfl
def decRd : List PV → Option (Prop × Prg ByteArray × (ByteArray → PV))
  | [.w (.one (.lit (.int .i64 c)))] => some (True, Prg.rd c, strV)
  | _ => none
def decWr : List PV → Option (Prop × Prg Unit × (Unit → PV))
  | [.w (.one (.lit (.int .i64 c))), .w (.one (.lit (.string b)))] => some (True, Prg.wr c b, fun _ => .tup [])
  | _ => none
theorem rd_spec {I : World → Prop} : SpecOk Tryd.prog I 149 (prgSpecB decRd) :=
  prgSpecB_ok (call_enters Tryd.func149 (by kernel_rfl) rfl) (fun ys c p v h _ => by
    unfold decRd at h
    split at h
    · cases h; exact (rd_fun _).toB
    · cases h)
theorem wr_spec {I : World → Prop} : SpecOk Tryd.prog I 122 (prgSpecB decWr) :=
  prgSpecB_ok (call_enters Tryd.func122 (by kernel_rfl) rfl) (fun ys c p v h _ => by
    unfold decWr at h
    split at h
    · cases h; exact (wr_fun _ _).toB
    · cases h)
def cmpS (a b : Int) : Int := if a < b then -1 else if b < a then 1 else 0
set_option maxRecDepth 100000 in
theorem nan_fun {I : World → Prop} (hI0 : ∀ w w', Ext w w' → I w → I w') (a : Int) : FunOk Tryd.prog I 174 true [pvI a] (pvB false) := by
  have M := nomM (I := I)
  refine funOk_of Tryd.func174 rfl rfl hI0 (fun A hS hn hI => ?_)
  refine tri_reg M hI hn (outs := ?_) (s' := ?_) ?_ ?_ ?_ ?_
  rotate_left 2
  · rfl
  · kernel_rfl
  · simp
  refine tri_reg M hI hn (outs := ?_) (s' := ?_) ?_ ?_ ?_ ?_
  rotate_left 2
  · rfl
  · kernel_rfl
  · simp
  refine tri_ret (fun a w hg => ⟨.inr rfl, _, ?_, hg⟩)
  refine retTo_cold (out := ?_) ?_ ?_ ?_ ?_ ?_
  rotate_left 1
  · rfl
  · simp
  · rfl
  · rfl
  simp
def spNan : Spec := funSpec true fun xs => match xs with
  | [.w (.one (.lit (.int .i64 _)))] => some (True, pvB false)
  | _ => none
theorem nan_ok : SpecOk Tryd.prog ShaMem 174 spNan := by
  refine funSpec_ok (call_enters Tryd.func174 (by kernel_rfl) rfl) (fun xs p r hg hp => ?_)
  split at hg
  · cases hg; exact nan_fun sha_ext _
  · cases hg
def cmL1 : List (Nat × Spec) := [(174, spNan)]
theorem cm1M : Mach Tryd.prog ShaMem (find cmL1) := ⟨specs_of (fun p hp => by
  obtain rfl := List.mem_singleton.1 hp
  exact nan_ok), mixed_⟩
set_option maxRecDepth 100000 in
theorem cmp_fun (a b : Int) : FunOk Tryd.prog ShaMem 167 true [pvI a, pvI b] (pvI (cmpS a b)) := by
  have M := cm1M
  refine funOk_of Tryd.func167 rfl rfl sha_ext (fun A hS hn hI => ?_)
  refine tri_reg M hI hn (outs := ?_) (s' := ?_) ?_ ?_ ?_ ?_
  rotate_left 2
  · rfl
  · kernel_rfl
  · simp
  refine tri_reg M hI hn (outs := ?_) (s' := ?_) ?_ ?_ ?_ ?_
  rotate_left 2
  · rfl
  · kernel_rfl
  · simp
  refine tri_reg M hI hn (outs := ?_) (s' := ?_) ?_ ?_ ?_ ?_
  rotate_left 2
  · rfl
  · kernel_rfl
  · simp
  refine tri_seq ?_
  refine tri_reg M hI hn (outs := ?_) (s' := ?_) ?_ ?_ ?_ ?_
  rotate_left 2
  · rfl
  · kernel_rfl
  · simp
  refine tri_cond (b := ?_) ?_ (fun hc => ?_) (fun hc => ?_)
  rotate_left 1
  · rfl
  · cases hc
  refine tri_skip ?_
  change Tri _ _ _ _ _
  refine tri_seq ?_
  refine tri_reg M hI hn (outs := ?_) (s' := ?_) ?_ ?_ ?_ ?_
  rotate_left 2
  · rfl
  · kernel_rfl
  · simp
  refine tri_cond (b := ?_) ?_ (fun hc => ?_) (fun hc => ?_)
  rotate_left 1
  · rfl
  · cases hc
  refine tri_skip ?_
  change Tri _ _ _ _ _
  refine tri_seq ?_
  refine tri_reg M hI hn (outs := ?_) (s' := ?_) ?_ ?_ ?_ ?_
  rotate_left 2
  · rfl
  · kernel_rfl
  · simp
  refine tri_cond (b := ?_) ?_ (fun hc => ?_) (fun hc => ?_)
  rotate_left 1
  · rfl
  · refine tri_reg M hI hn (outs := ?_) (s' := ?_) ?_ ?_ ?_ ?_
    rotate_left 2
    · rfl
    · kernel_rfl
    · simp
    refine tri_ret (fun a w hg => ⟨.inr rfl, _, ?_, hg⟩)
    refine retTo_cold (out := ?_) ?_ ?_ ?_ ?_ ?_
    rotate_left 1
    · rfl
    · simp
    · rfl
    · rfl
    unfold cmpS
    rw [if_pos (of_decide_eq_true hc)]
  · refine tri_skip ?_
    change Tri _ _ _ _ _
    have h1 : ¬ a < b := of_decide_eq_false hc
    refine tri_seq ?_
    refine tri_reg M hI hn (outs := ?_) (s' := ?_) ?_ ?_ ?_ ?_
    rotate_left 2
    · rfl
    · kernel_rfl
    · simp
    refine tri_cond (b := ?_) ?_ (fun hc => ?_) (fun hc => ?_)
    rotate_left 1
    · rfl
    · refine tri_reg M hI hn (outs := ?_) (s' := ?_) ?_ ?_ ?_ ?_
      rotate_left 2
      · rfl
      · kernel_rfl
      · simp
      refine tri_ret (fun a w hg => ⟨.inr rfl, _, ?_, hg⟩)
      refine retTo_cold (out := ?_) ?_ ?_ ?_ ?_ ?_
      rotate_left 1
      · rfl
      · simp
      · rfl
      · rfl
      unfold cmpS
      rw [if_neg h1, if_pos (of_decide_eq_true hc)]
    · refine tri_skip ?_
      change Tri _ _ _ _ _
      refine tri_reg M hI hn (outs := ?_) (s' := ?_) ?_ ?_ ?_ ?_
      rotate_left 2
      · rfl
      · kernel_rfl
      · simp
      refine tri_ret (fun a w hg => ⟨.inr rfl, _, ?_, hg⟩)
      refine retTo_cold (out := ?_) ?_ ?_ ?_ ?_ ?_
      rotate_left 1
      · rfl
      · simp
      · rfl
      · rfl
      unfold cmpS
      rw [if_neg h1, if_neg (of_decide_eq_false hc)]
def spCmp : Spec := funSpec true fun xs => match xs with
  | [.w (.one (.lit (.int .i64 a))), .w (.one (.lit (.int .i64 b)))] => some (True, pvI (cmpS a b))
  | _ => none
theorem cmpI_ok : SpecOk Tryd.prog ShaMem 167 spCmp := by
  refine funSpec_ok (call_enters Tryd.func167 (by kernel_rfl) rfl) (fun xs p r hg hp => ?_)
  split at hg
  · cases hg; exact cmp_fun _ _
  · cases hg
def cmL2 : List (Nat × Spec) := [(167, spCmp)]
theorem cm2M : Mach Tryd.prog ShaMem (find cmL2) := ⟨specs_of (fun p hp => by
  obtain rfl := List.mem_singleton.1 hp
  exact cmpI_ok), mixed_⟩
def arL (a : Int) (s : ByteArray) : PV := .w (.agg [.lit (.int .i64 a), .lit (.string s)])
set_option maxRecDepth 100000 in
theorem compare_fun (a b : Int) (s t : ByteArray) : FunOk Tryd.prog ShaMem 151 true [arL a s, arL b t] (pvI (cmpS a b)) := by
  have M := cm2M
  refine funOk_of Tryd.func151 rfl rfl sha_ext (fun A hS hn hI => ?_)
  refine tri_reg M hI hn (outs := ?_) (s' := ?_) ?_ ?_ ?_ ?_
  rotate_left 2
  · rfl
  · kernel_rfl
  · simp
  refine tri_reg M hI hn (outs := ?_) (s' := ?_) ?_ ?_ ?_ ?_
  rotate_left 2
  · rfl
  · kernel_rfl
  · simp
  refine tri_ret (fun a w hg => ⟨.inr rfl, _, ?_, hg⟩)
  refine retTo_cold (out := ?_) ?_ ?_ ?_ ?_ ?_
  rotate_left 1
  · rfl
  · simp
  · rfl
  · rfl
  rfl
def spArea : Spec := funSpec true fun xs => match xs with
  | [.w (.agg [.lit (.int .i64 a), .lit (.string _)]), .w (.agg [.lit (.int .i64 b), .lit (.string _)])] => some (True, pvI (cmpS a b))
  | _ => none
theorem area_ok : SpecOk Tryd.prog ShaMem 151 spArea := by
  refine funSpec_ok (call_enters Tryd.func151 (by kernel_rfl) rfl) (fun xs p r hg hp => ?_)
  split at hg
  · cases hg; exact compare_fun _ _ _ _
  · cases hg
def stL2 : List (Nat × Spec) := (149, prgSpecB decRd) :: (122, prgSpecB decWr) :: (151, spArea) :: (150, spDec) :: stL1
theorem st2_ok : ∀ p ∈ stL2, SpecOk Tryd.prog ShaMem p.1 p.2 := by
  intro p hp
  simp only [stL2, List.mem_cons] at hp
  rcases hp with rfl | rfl | rfl | rfl | hp
  · exact rd_spec
  · exact wr_spec
  · exact area_ok
  · exact dec_ok
  · exact st1_ok p hp
theorem st2M : Mach Tryd.prog ShaMem (find stL2) := ⟨specs_of st2_ok, mixed_⟩
def rdLeft (rec : Int) : Nat → Int × List UInt8 → Int × List UInt8 → Prg ((Int × List UInt8) × Nat)
  | 0, _, _ => Prg.cur rec
  | 1, x, _ => (Prg.sects (firstS rec 1) 8 []).bind fun b => .ret (curS x (decS rec b))
  | _, x, y => .ret (curS x y)
def rdO (x y : Int × List UInt8) : Wr := [(0, none, 0, .box 164 [.lit (.int .i64 0), .lit (.string noBytes)]), (1000, none, 0, .box 200 [.lit (.int .i64 x.1), .lit (.string (strOf x.2)), .lit (.int .i64 y.1), .lit (.string (strOf y.2))])]
def rdT (rec : Int) (k : Nat) : List (Nat × Option Bool × PV) := [(0, none, .w (.one .dv)), (1, none, pvI rec), (4, none, pv1 (.pt 0 0 0)), (5, none, pvI 0), (6, none, pv1 (.pt 1000 0 0)), (11, none, pvI k)]
def raSt (O : List Acc → Option Res) (stp : List Acc → Prop) (rec : Int) (k : Nat) (x y : Int × List UInt8) (lk : List Acc) : St := ⟨rdT rec k, (dx, none, 0, .dev O stp lk) :: rdO x y⟩
def rbSt (O : List Acc → Option Res) (stp : List Acc → Prop) (rec : Int) (k : Nat) (x y : Int × List UInt8) (i : Nat) (b : List UInt8) (lk : List Acc) : St :=
  ⟨(7, none, pvI k) :: (8, none, pv1 (.ow 5000 0 1 0 b.length)) :: (14, none, pvI i) :: rdT rec k, (dx, none, 0, .dev O stp lk) :: (5000, none, 0, .arr 5 1 b.length (byF b)) :: rdO x y⟩
def rdNext (rec : Int) : Nat → Int × List UInt8 → List UInt8 → Prg ((Int × List UInt8) × Nat)
  | 0, _, a => rdLeft rec 1 (decS rec a) (0, [])
  | _, x, b => .ret (curS x (decS rec b))
theorem rdLeft_eq {rec : Int} {k : Nat} (hk : k < 2) (x y : Int × List UInt8) : rdLeft rec k x y = (Prg.sects (firstS rec k) 8 []).bind (rdNext rec k x) := by
  rcases (by omega : k = 0 ∨ k = 1) with rfl | rfl <;> rfl
theorem sects_step {F : Int} {i : Nat} (hi : i < 8) (b : List UInt8) {α : Type} (f : List UInt8 → Prg α) : (Prg.sects F (8 - i) b).bind f = (Prg.rd (F + i)).bind fun s => (Prg.sects F (8 - (i + 1)) (b ++ s.data.toList)).bind f := by
  have e : 8 - i = (7 - i) + 1 := by omega
  rw [e, Prg.sects, Prg.bind_assoc, show 7 - (7 - i) = i from by omega, show 8 - (i + 1) = 7 - i from by omega]
theorem cold_byF (b : List UInt8) (i : Nat) : ∀ x ∈ byF b i, coldPC false x = true := fun x hx => by
  change x ∈ [_] at hx
  rw [List.mem_singleton] at hx
  subst hx
  rfl
theorem rowB_byF0 (b : List UInt8) : (rowB b.length fun i => byF b (0 + i)) = b := by simp only [Nat.zero_add]; exact rowB_byF b
theorem cmpS_lt (a b : Int) : decide (cmpS a b < 0) = decide (a < b) := by
  unfold cmpS
  by_cases h : a < b
  · rw [if_pos h, decide_eq_true h]; rfl
  · rw [if_neg h, decide_eq_false h]
    split <;> rfl
set_option maxRecDepth 100000 in
set_option maxHeartbeats 1000000 in
theorem read_fun (rec : Int) (hr : i64P rec) : FunPB Tryd.prog ShaMem 120 (Prg.cur rec) [.w (.one .dv), pvI rec] (fun p => .tup [.agg [.lit (.int .i64 p.1.1), .lit (.string (strOf p.1.2))], .one (.lit (.int .i64 (p.2 : Int)))]) := by
  intro O l hO
  have M := st2M
  refine funX_of Tryd.func120 rfl rfl rfl (fun A hn hI => ?_)
  generalize hstp : (fun h => l <+: h ∧ h <+: (go O (Prg.cur rec) l).2) = stp
  refine tri_reg M hI hn (outs := ?_) (s' := ?_) ?_ ?_ ?_ ?_
  rotate_left 2
  · rfl
  · kernel_rfl
  · simp
  refine tri_reg M hI hn (outs := ?_) (s' := ?_) ?_ ?_ ?_ ?_
  rotate_left 2
  · rfl
  · kernel_rfl
  · simp
  refine tri_seq ?_
  refine tri_reg M hI hn (outs := ?_) (s' := ?_) ?_ ?_ ?_ ?_
  rotate_left 2
  · rfl
  · kernel_rfl
  · simp
  refine tri_block ?_
  refine tri_conv (s' := raSt O stp rec 0 (0, []) (0, []) l) (fun a w hg => (hg.reset (kT := [0, 1, 4, 5, 6, 11]) (kO := [900000, 0, 1000]) (by rfl) (by simp)).same ?_ ?_) ?_
  · exact .cons rfl (.cons rfl (.cons rfl (.cons rfl (.cons rfl (.cons rfl .nil)))))
  · exact .cons (.dev rfl) (.cons (.box rfl) (.cons (.box rfl) .nil))
  refine tri_loop 2 (fun k s => ∃ x y lk, s = raSt O stp rec k x y lk ∧ Left O (Prg.cur rec) l (rdLeft rec k x y) lk) 0 ⟨_, _, _, rfl, Left.start _ _ _⟩ (by omega) (fun k s hJ hk => ?_)
  obtain ⟨x, y, lk, rfl, hL⟩ := hJ
  refine tri_reg M hI hn (outs := ?_) (s' := ?_) ?_ ?_ ?_ ?_
  rotate_left 2
  · rfl
  · kernel_rfl
  · simp
  refine tri_seq ?_
  refine tri_cond (b := ?_) ?_ (fun hc => ?_) (fun hc => ?_)
  rotate_left 1
  · rfl
  · have hk2 : k < 2 := by have := of_decide_eq_true hc; omega
    refine tri_skip ?_
    change Tri _ _ _ _ _
    refine tri_seq ?_
    refine tri_block ?_
    refine tri_reg M hI hn (outs := ?_) (s' := ?_) ?_ ?_ ?_ ?_
    rotate_left 2
    · rfl
    · kernel_rfl
    · simp
    refine tri_reg M hI hn (outs := ?_) (s' := ?_) ?_ ?_ ?_ ?_
    rotate_left 2
    · rfl
    · kernel_rfl
    · simp
    refine tri_seq ?_
    refine tri_reg M hI hn (outs := ?_) (s' := ?_) ?_ ?_ ?_ ?_
    rotate_left 2
    · rfl
    · kernel_rfl
    · simp
    refine tri_block ?_
    refine tri_conv (s' := rbSt O stp rec k x y 0 [] lk) (fun a w hg => ((hg.nilRow (x := 5000) (e := 5) (n := 1) (t := 8) (by rfl) (by rfl)).reset (kT := [7, 8, 14, 0, 1, 4, 5, 6, 11]) (kO := [900000, 5000, 0, 1000]) (by rfl) (by simp)).same ?_ ?_) ?_
    · exact .cons rfl (.cons rfl (.cons rfl (.cons rfl (.cons rfl (.cons rfl (.cons rfl (.cons rfl (.cons rfl .nil))))))))
    · exact .cons (.dev rfl) (.cons (.arr rfl (fun i hi => absurd hi (by simp))) (.cons (.box rfl) (.cons (.box rfl) .nil)))
    rw [rdLeft_eq hk2] at hL
    generalize hf : rdNext rec k x = f at hL
    refine tri_loop 8 (fun i s => ∃ b lj, s = rbSt O stp rec k x y i b lj ∧ b.length ≤ i * 1000000 ∧ Left O (Prg.cur rec) l ((Prg.sects (firstS rec k) (8 - i) b).bind f) lj) 0 ⟨_, _, rfl, by simp, hL⟩ (by omega) (fun i s hJ hi => ?_)
    obtain ⟨b, lj, rfl, hb, hL2⟩ := hJ
    refine tri_reg M hI hn (outs := ?_) (s' := ?_) ?_ ?_ ?_ ?_
    rotate_left 2
    · rfl
    · kernel_rfl
    · simp
    refine tri_seq ?_
    refine tri_cond (b := ?_) ?_ (fun hc => ?_) (fun hc => ?_)
    rotate_left 1
    · rfl
    · have hi2 : i < 8 := by have := of_decide_eq_true hc; omega
      refine tri_skip ?_
      change Tri _ _ _ _ _
      refine tri_seq ?_
      refine tri_block ?_
      refine tri_reg M hI hn (outs := ?_) (s' := ?_) ?_ ?_ ?_ ?_
      rotate_left 2
      · rfl
      · kernel_rfl
      · simp
      have hix : IntKind.i64.wrap (firstS rec k + (i : Int)) = firstS rec k + (i : Int) := by have := firstS_bnd rec k; exact wrap_i64_id (by omega) (by omega)
      rw [sects_step hi2] at hL2
      have hs := hO.ans (lj ++ [⟨3, 0, firstS rec k + (i : Int), noBytes⟩])
      change ((go O (Prg.rd (firstS rec k + (i : Int))) lj).1).size ≤ 1000000 at hs
      have hL3 := hL2.step
      refine tri_region M hI hn (outs := ?_) (s' := ?_) ?_ ?_ ?_ ?_
      rotate_left 2
      · rfl
      · kernel_rfl
      · simp
        rw [hix]
        refine ⟨hO, fun h h1 h2 h3 => ?_, by omega⟩
        rw [← hstp]
        exact hL2.stp h h1 h2 h3
      change Tri _ _ _ _ _
      refine tri_region M hI hn (outs := ?_) (s' := ?_) ?_ ?_ ?_ ?_
      rotate_left 2
      · rfl
      · kernel_rfl
      · simp
      intro a w hg
      refine ⟨i + 1, _, by omega, by omega, ⟨_, _, rfl, ?_, hL3⟩, (hg.reset (kT := [7, 8, 14, 0, 1, 4, 5, 6, 11]) (kO := [900000, 5000, 0, 1000]) (by rfl) ?_).same ?_ ?_⟩
      · rw [List.length_append, Array.length_toList]; change b.length + ((go O (Prg.rd (firstS rec k + (i : Int))) lj).1).size ≤ _; omega
      · simp only [All, and_true, List.append_nil, List.nil_append]
        exact fun i _ => cold_app2 (fun _ => rfl) (fun _ => rfl) i
      · refine .cons rfl (.cons ?_ (.cons (by rw [wrap_nat i (by omega)]) (.cons rfl (.cons rfl (.cons rfl (.cons rfl (.cons rfl (.cons rfl .nil))))))))
        rw [hix, List.length_append, Array.length_toList]
        rfl
      · refine .cons (.dev ?_) (.cons (.arr ?_ (fun j hj => ?_)) (.cons (.box rfl) (.cons (.box rfl) .nil)))
        · show (go O (Prg.rd (IntKind.i64.wrap (firstS rec k + (i : Int)))) lj).2 = _
          rw [hix]
        · rw [hix, List.length_append, Array.length_toList]
          rfl
        · rw [hix]
          exact congrFun (byF_app2 b _) j
    · have hi2 : i = 8 := by have := of_decide_eq_false hc; omega
      subst hi2
      have hL3 : Left O (Prg.cur rec) l (f b) lj := hL2
      subst hf
      refine tri_exit ?_
      change Tri _ _ _ _ _
      rcases (by omega : k = 0 ∨ k = 1) with rfl | rfl
      · refine tri_region M hI hn (outs := ?_) (s' := ?_) ?_ ?_ ?_ ?_
        rotate_left 2
        · rfl
        · kernel_rfl
        · simp
          exact ⟨fun i _ x hx => cold_byF b i x hx, hr, by omega⟩
        change Tri _ _ _ _ _
        refine tri_region M hI hn (outs := ?_) (s' := ?_) ?_ ?_ ?_ ?_
        rotate_left 2
        · rfl
        · kernel_rfl
        · simp
        intro a w hg
        refine ⟨1, _, by omega, by omega, ⟨decS rec b, y, _, rfl, hL3⟩, (hg.reset (kT := [0, 1, 4, 5, 6, 11]) (kO := [900000, 0, 1000]) (by rfl) (by simp)).same ?_ ?_⟩
        · exact .cons rfl (.cons rfl (.cons rfl (.cons rfl (.cons rfl (.cons rfl .nil)))))
        · rw [rowB_byF0]
          exact .cons (.dev rfl) (.cons (.box rfl) (.cons (.box rfl) .nil))
      · refine tri_region M hI hn (outs := ?_) (s' := ?_) ?_ ?_ ?_ ?_
        rotate_left 2
        · rfl
        · kernel_rfl
        · simp
          exact ⟨fun i _ x hx => cold_byF b i x hx, hr, by omega⟩
        change Tri _ _ _ _ _
        refine tri_region M hI hn (outs := ?_) (s' := ?_) ?_ ?_ ?_ ?_
        rotate_left 2
        · rfl
        · kernel_rfl
        · simp
        intro a w hg
        refine ⟨2, _, by omega, by omega, ⟨x, decS rec b, _, rfl, hL3⟩, (hg.reset (kT := [0, 1, 4, 5, 6, 11]) (kO := [900000, 0, 1000]) (by rfl) (by simp)).same ?_ ?_⟩
        · exact .cons rfl (.cons rfl (.cons rfl (.cons rfl (.cons rfl (.cons rfl .nil)))))
        · rw [rowB_byF0]
          exact .cons (.dev rfl) (.cons (.box rfl) (.cons (.box rfl) .nil))
  · have hk2 : k = 2 := by have := of_decide_eq_false hc; omega
    subst hk2
    have hE : go O (Prg.cur rec) l = (curS x y, lk) := hL.2
    refine tri_exit ?_
    change Tri _ _ _ _ _
    refine tri_reg M hI hn (outs := ?_) (s' := ?_) ?_ ?_ ?_ ?_
    rotate_left 2
    · rfl
    · kernel_rfl
    · simp
    refine tri_seq ?_
    refine tri_reg M hI hn (outs := ?_) (s' := ?_) ?_ ?_ ?_ ?_
    rotate_left 2
    · rfl
    · kernel_rfl
    · simp
    refine tri_cond (b := ?_) ?_ (fun hc => ?_) (fun hc => ?_)
    rotate_left 1
    · rfl
    · refine tri_reg M hI hn (outs := ?_) (s' := ?_) ?_ ?_ ?_ ?_
      rotate_left 2
      · rfl
      · kernel_rfl
      · simp
      have h : x.1 = 0 ∨ x.1 < y.1 := by
        have h1 : (bif x.1 == 0 then true else decide (cmpS x.1 y.1 < 0)) = true := hc
        rw [cmpS_lt] at h1
        by_cases h0 : x.1 = 0
        · exact .inl h0
        · rw [show (x.1 == 0) = false from beq_eq_false_iff_ne.2 h0] at h1
          exact .inr (of_decide_eq_true h1)
      have e : curS x y = (y, 1) := by unfold curS; rw [if_pos h]
      refine tri_ret (fun a w hg => ⟨.inr rfl, _, ⟨?_, (fun o ho => by cases ho), fun p hp => ?_⟩, hg⟩)
      rotate_left 1
      · cases hp
        rw [hE]; rfl
      refine retTo_cold (out := ?_) ?_ ?_ ?_ ?_ ?_
      rotate_left 1
      · rfl
      · simp
      · rfl
      · rfl
      rw [hE, e]
      rfl
    · refine tri_skip ?_
      change Tri _ _ _ _ _
      refine tri_reg M hI hn (outs := ?_) (s' := ?_) ?_ ?_ ?_ ?_
      rotate_left 2
      · rfl
      · kernel_rfl
      · simp
      have h : ¬ (x.1 = 0 ∨ x.1 < y.1) := by
        have h1 : (bif x.1 == 0 then true else decide (cmpS x.1 y.1 < 0)) = false := hc
        rw [cmpS_lt] at h1
        rintro (h0 | h0)
        · rw [show (x.1 == 0) = true from beq_iff_eq.2 h0] at h1
          cases h1
        · rw [decide_eq_true h0] at h1
          cases hb : (x.1 == 0) <;> rw [hb] at h1 <;> cases h1
      have e : curS x y = (x, 0) := by unfold curS; rw [if_neg h]
      refine tri_ret (fun a w hg => ⟨.inr rfl, _, ⟨?_, (fun o ho => by cases ho), fun p hp => ?_⟩, hg⟩)
      rotate_left 1
      · cases hp
        rw [hE]; rfl
      refine retTo_cold (out := ?_) ?_ ?_ ?_ ?_ ?_
      rotate_left 1
      · rfl
      · simp
      · rfl
      · rfl
      rw [hE, e]
      rfl
def curPV (p : (Int × List UInt8) × Nat) : PV := .tup [.agg [.lit (.int .i64 p.1.1), .lit (.string (strOf p.1.2))], .one (.lit (.int .i64 (p.2 : Int)))]
def decCur : List PV → Option (Prop × Prg ((Int × List UInt8) × Nat) × ((Int × List UInt8) × Nat → PV))
  | [.w (.one (.lit (.int .i64 rec)))] => some (i64P rec, Prg.cur rec, curPV)
  | _ => none
theorem read_spec : SpecOk Tryd.prog ShaMem 120 (prgSpecB decCur) :=
  prgSpecB_ok (call_enters Tryd.func120 (by kernel_rfl) rfl) (fun ys c p v h hc => by
    unfold decCur at h
    split at h
    · cases h; exact read_fun _ hc
    · cases h)
def stL3 : List (Nat × Spec) := (120, prgSpecB decCur) :: stL2
theorem st3_ok : ∀ p ∈ stL3, SpecOk Tryd.prog ShaMem p.1 p.2 := by
  intro p hp
  rcases List.mem_cons.1 hp with rfl | hp
  · exact read_spec
  · exact st2_ok p hp
theorem st3M : Mach Tryd.prog ShaMem (find stL3) := ⟨specs_of st3_ok, mixed_⟩
def stoPC (o : StO) : List PC := [.lit (.string o.content), .lit (.int .i64 o.seq), .lit (.int .i64 o.err)]
def stoPV (o : StO) : PV := .w (.agg (stoPC o))
set_option maxRecDepth 100000 in
theorem load_fun (rec : Int) (hr : i64P rec) : FunPB Tryd.prog ShaMem 80 (Prg.load rec) [.w (.one .dv), pvI rec] stoPV := by
  intro O l hO
  have M := st3M
  refine funX_of Tryd.func80 rfl rfl rfl (fun A hn hI => ?_)
  have hp : Prg.load rec = if firstS rec 0 < 0 then .ret ⟨noBytes, 0, 1⟩ else (Prg.cur rec).bind fun p => .ret (loadO p.1) := rfl
  generalize Prg.load rec = pr at *
  generalize hstp : (fun h => l <+: h ∧ h <+: (go O pr l).2) = stp
  refine tri_reg M hI hn (outs := ?_) (s' := ?_) ?_ ?_ ?_ ?_
  rotate_left 2
  · rfl
  · kernel_rfl
  · simp
  refine tri_seq ?_
  refine tri_reg M hI hn (outs := ?_) (s' := ?_) ?_ ?_ ?_ ?_
  rotate_left 2
  · rfl
  · kernel_rfl
  · simp
  refine tri_cond (b := ?_) ?_ (fun hc => ?_) (fun hc => ?_)
  rotate_left 1
  · rfl
  · have h : firstS rec 0 < 0 := of_decide_eq_true hc
    rw [if_pos h] at hp
    have hE : go O pr l = (⟨noBytes, 0, 1⟩, l) := by rw [hp]; rfl
    refine tri_reg M hI hn (outs := ?_) (s' := ?_) ?_ ?_ ?_ ?_
    rotate_left 2
    · rfl
    · kernel_rfl
    · simp
    refine tri_ret (fun a w hg => ⟨.inr rfl, _, ⟨?_, (fun o ho => by cases ho), fun p hp => ?_⟩, hg⟩)
    rotate_left 1
    · cases hp
      rw [hE]; rfl
    refine retTo_cold (out := ?_) ?_ ?_ ?_ ?_ ?_
    rotate_left 1
    · rfl
    · simp
    · rfl
    · rfl
    rw [hE]
    rfl
  · have h : ¬ firstS rec 0 < 0 := of_decide_eq_false hc
    rw [if_neg h] at hp
    refine tri_skip ?_
    change Tri _ _ _ _ _
    have hL0 : Left O pr l ((Prg.cur rec).bind fun p => .ret (loadO p.1)) l := by rw [hp]; exact Left.start _ _ _
    have hL := hL0.step
    refine tri_reg M hI hn (outs := ?_) (s' := ?_) ?_ ?_ ?_ ?_
    rotate_left 2
    · rfl
    · kernel_rfl
    · simp
      refine ⟨⟨hO, hr⟩, fun h h1 h2 h3 => ?_⟩
      rw [← hstp]
      exact hL0.stp h h1 h2 h3
    obtain ⟨q, lq, hq⟩ : ∃ q lq, go O (Prg.cur rec) l = (q, lq) := ⟨_, _, rfl⟩
    rw [hq] at hL
    have hE : go O pr l = (loadO q.1, lq) := hL.2
    refine tri_conv (s' := ⟨[(4, none, pv1 (.pt 0 0 0)), (5, none, pv1 (.pt 3006 0 0))], [(dx, none, 0, .dev O stp lq), (0, none, 0, .box 61 [.lit (.string noBytes), .lit (.int .i64 0), .lit (.int .i64 0)]), (3006, none, 0, .box 164 [.lit (.int .i64 q.1.1), .lit (.string (strOf q.1.2))])]⟩) (fun a w hg => (hg.reset (kT := [4, 5]) (kO := [900000, 0, 3006]) (by rfl) (by simp)).same ?_ ?_) ?_
    · exact .cons rfl (.cons rfl .nil)
    · refine .cons (.dev ?_) (.cons (.box rfl) (.cons (.box ?_) .nil))
      · show (go O (Prg.cur rec) l).2 = _
        rw [hq]
      · show [PC.lit (.int .i64 (go O (Prg.cur rec) l).1.1.1), PC.lit (.string (strOf (go O (Prg.cur rec) l).1.1.2))] = _
        rw [hq]
    refine tri_seq ?_
    refine tri_reg M hI hn (outs := ?_) (s' := ?_) ?_ ?_ ?_ ?_
    rotate_left 2
    · rfl
    · kernel_rfl
    · simp
    refine tri_cond (b := ?_) ?_ (fun hc => ?_) (fun hc => ?_)
    rotate_left 1
    · rfl
    · refine tri_reg M hI hn (outs := ?_) (s' := ?_) ?_ ?_ ?_ ?_
      rotate_left 2
      · rfl
      · kernel_rfl
      · simp
      have h0 : q.1.1 = 0 := by simpa using hc
      have e : loadO q.1 = ⟨noBytes, 0, 13⟩ := if_pos h0
      refine tri_ret (fun a w hg => ⟨.inr rfl, _, ⟨?_, (fun o ho => by cases ho), fun p hp => ?_⟩, hg⟩)
      rotate_left 1
      · cases hp
        rw [hE]; rfl
      refine retTo_cold (out := ?_) ?_ ?_ ?_ ?_ ?_
      rotate_left 1
      · rfl
      · simp
      · rfl
      · rfl
      rw [hE, e]
      rfl
    · refine tri_skip ?_
      change Tri _ _ _ _ _
      refine tri_reg M hI hn (outs := ?_) (s' := ?_) ?_ ?_ ?_ ?_
      rotate_left 2
      · rfl
      · kernel_rfl
      · simp
      have h0 : ¬ q.1.1 = 0 := by simpa using hc
      have e : loadO q.1 = ⟨strOf q.1.2, q.1.1, 0⟩ := if_neg h0
      refine tri_ret (fun a w hg => ⟨.inr rfl, _, ⟨?_, (fun o ho => by cases ho), fun p hp => ?_⟩, hg⟩)
      rotate_left 1
      · cases hp
        rw [hE]; rfl
      refine retTo_cold (out := ?_) ?_ ?_ ?_ ?_ ?_
      rotate_left 1
      · rfl
      · simp
      · rfl
      · rfl
      rw [hE, e]
      rfl
end Go.Proofs.YtoefmncdloffaaaDoor.Pv


namespace Go.Proofs.YtoefmncdloffaaaDoor
open Go.RowKit
theorem KeepB.own {β : Type} {B : Nat} {I : β → World → Prop} (h : ∀ s W W', I s W → KeepB W W' → I s W') : OwnFrom B I := by
  intro s W W' row hs hg hrow
  refine h s W W' hs fun k o hk ho => ?_
  rw [hg.block k (lt_of_heap hk) (fun e => ?_)]
  · exact hk
  · obtain ⟨_, q, hq, hqc⟩ := hrow k e.symm
    rw [hk] at hq
    cases hq
    rw [ho] at hqc
    cases hqc
end Go.Proofs.YtoefmncdloffaaaDoor


namespace Go.Proofs.YtoefmncdloffaaaDoor
open Go.RowKit
section
variable {P : Program} {f0 : FuncId} {Q : Exit → Act → World → Prop} {a : Act} {w : World}
def wpV (P : Program) (f0 : FuncId) (c : Code) (Q : Exit → Act → World → Prop) (a : Act) (w : World) : Prop :=
  ∀ (b : Frame) (k : List Item) (cs : List Frame), b.roundOf = none → b.fn = f0 → ∃ e a' w', Q e a' w' ∧ ArrivesIn (Machine.fenced P Fence.wide) P (lone (b.atR a (.code c :: k)) cs w) b k cs e a' w'
theorem wpV_of_wp {c : Code} (h : c.wp P Q a w) : wpV P f0 c Q a w := fun b k cs hro _ => (wpIn_wide (n := 3)).2 h b k cs hro trivial (room_wide _)
theorem wpV_mono {c : Code} {Q' : Exit → Act → World → Prop} (h : wpV P f0 c Q a w) (hq : ∀ e a w, Q e a w → Q' e a w) : wpV P f0 c Q' a w := fun b k cs hro hb =>
  let ⟨e, a', w', q, r⟩ := h b k cs hro hb
  ⟨e, a', w', hq _ _ _ q, r⟩
theorem wpV_seq {x y : Code} (h : wpV P f0 x (Exit.then (wpV P f0 y Q) Q) a w) : wpV P f0 (.seq x y) Q a w := by
  intro b k cs hro hb
  have h0 := fenced_wide P (lone (b.atR a (.code (.seq x y) :: k)) cs w)
  obtain ⟨e, a₁, w₁, hq, harr⟩ := h b (.code y :: k) cs hro hb
  cases e with
  | normal =>
    obtain ⟨e₂, a₂, w₂, hq₂, harr₂⟩ := hq b k cs hro hb
    exact ⟨e₂, a₂, w₂, hq₂, .of_steps (.head h0 stepR_seq harr) harr₂⟩
  | _ => exact ⟨_, a₁, w₁, hq, .of_steps (.one h0 stepR_seq) (.pass (x := .code y) rfl (fun _ _ => .inl (by simp)) harr)⟩
theorem wpV_block {id : Nat} {c : Code} (h : wpV P f0 c (fun e a w => match e with | .normal => Q .normal a w | .panic ch => Q (.panic ch) a w | _ => False) a w) : wpV P f0 (.block id c) Q a w := by
  intro b k cs hro hb
  have h0 := fenced_wide P (lone (b.atR a (.code (.block id c) :: k)) cs w)
  obtain ⟨e, a₁, w₁, hq, harr⟩ := h b (.inBlock id :: k) cs hro hb
  cases e with
  | normal => exact ⟨.normal, a₁, w₁, hq, .head h0 stepR_block (StepsIn.trans harr (.one (fenced_wide _ _) stepR_inBlock))⟩
  | panic ch => exact ⟨_, a₁, w₁, hq, .of_steps (.one h0 stepR_block) harr⟩
  | _ => exact hq.elim
def roundPostP (P : Program) (l : Nat) (R : Ending → World → Prop) : Exit → Act → World → Prop
  | .normal, _, w => ∃ v w', (Instr.endRound l none).run P w = .ok v w' ∧ R (.returned v) w'
  | .panic chain, a, w => a.defers = [] ∧ R (.panicked chain) w
  | _, _, _ => False
theorem roundIn_panic {n l : Nat} {f : FuncId} {tmps : Array Value} {assign body : Code} {R : Ending → World → Prop} (hf : ∃ fn, P.funcs[f]? = some fn)
    (h : assign.wpIn (Fence.wide.inRound l) n P (Exit.then (fun a₁ w₁ => ∃ w₂, (Instr.beginRound l).run P w₁ = .ok () w₂ ∧ body.wpIn (Fence.wide.inRound l) n P (roundPostP P l R) a₁ w₂) (fun _ _ _ => False)) { tmps := tmps, defers := [] } w) :
    RoundIn Fence.wide n P l f tmps assign body w R := by
  refine ⟨trivial, fun c cs hr => ?_⟩
  let b : Frame := { (default : Frame) with fn := f, kind := .normal, roundOf := some l }
  have hb0 : Frame.round l f tmps assign body .normal = b.atR { tmps := tmps, defers := [] } [.code assign, .beginRound, .code body] := by
    simp [Frame.round, Frame.atR, b]
  have hr' : (Fence.wide.inRound l).room ((c :: cs).length + 1 + n) := hr
  obtain ⟨e, a₁, w₁, hq, harr⟩ := h b [.beginRound, .code body] (c :: cs) rfl trivial hr'
  rw [← hb0] at harr
  cases e with
  | normal =>
    obtain ⟨w₂, hbr, hbody⟩ := hq
    have s1 : StepsIn (Machine.fenced P Fence.wide) P (lone (b.atR a₁ [.beginRound, .code body]) (c :: cs) w₁) (lone (b.atR a₁ [.code body]) (c :: cs) w₂) := .one (fenced_wide _ _) (stepR_beginRound rfl hbr)
    obtain ⟨e₂, a₂, w₃, hq₂, harr₂⟩ := hbody b [] (c :: cs) rfl trivial hr'
    cases e₂ with
    | normal =>
      obtain ⟨v, w₄, hend, hR⟩ := hq₂
      exact ⟨.returned v, w₄, hR, (StepsIn.trans harr s1).trans (StepsIn.trans harr₂ (.one (fenced_wide _ _) (stepR_round_end rfl rfl hend)))⟩
    | panic chain =>
      obtain ⟨hd, hR⟩ := hq₂
      obtain ⟨todo, hs⟩ := harr₂
      refine ⟨.panicked chain, w₃, hR, (StepsIn.trans harr s1).trans (StepsIn.trans hs (.one (fenced_wide _ _) (step_leave_panicked ⟨rfl, ?_, ?_⟩)))⟩
      · exact hd
      · exact hf
    | _ => exact hq₂.elim
  | _ => exact hq.elim
def rangePostV (P : Program) (l : Nat) (Q : Exit → Act → World → Prop) (a' : Act) : Ending → World → Prop
  | .returned _, w₃ => ∃ w₄, (Instr.endLoop l).run P w₃ = .ok none w₄ ∧ Q .normal a' w₄
  | .panicked chain, w₃ => Q (.panic chain) a' w₃
  | .outgrown, _ => False
theorem wpV_rangeFunc {n : Nat} {g : Operand} {ps : Array Tmp} {assign body : Code}
    (h : ∃ (l : Nat) (mark : List Deferred) (w₁ : World) (d : Deferred) (w₁' : World) (f : FuncId) (args : Array Value) (w₂ : World),
      (Instr.enterLoop f0 a.tmps ps assign body none).run P w = .ok (l, mark) w₁ ∧ (resolve a.eval (rangeCall g l) 0).run P w₁ = .ok d w₁' ∧
      (invoke d.target d.args).run P w₁' = .ok (.enter f args) w₂ ∧ CallsIn Fence.wide n P f args w₂ (rangePostV P l Q { a with defers := mark ++ a.defers })) :
    wpV P f0 (.rangeFunc g ps assign body) Q a w := by
  intro b k cs hro hb
  obtain ⟨l, mark, w₁, d, w₁', f, args, w₂, he, hres, hinv, hF, hcall⟩ := h
  rw [← hro, ← hb] at he
  have henter := stepR_rangeFunc (P := P) (b := b) (a := a) (k := k) (cs := cs) (w := w) he hres hinv
  obtain ⟨e, w₃, fr, hR, hsteps, hfn, hleave⟩ := hcall (b.atR { a with defers := mark ++ a.defers } (.inRangeFunc l :: k) :: cs) (room_wide _)
  cases e with
  | outgrown => exact hR.elim
  | returned v =>
    obtain ⟨w₄, hend, hj⟩ := hR
    refine ⟨.normal, _, w₄, hj, .head (fenced_wide _ _) henter (StepsIn.trans hsteps (.head (fenced_wide _ _) ?_ (.one (fenced_wide _ _) (stepR_endRangeFunc (b := b) (a := { a with defers := mark ++ a.defers }) (k := k) hend))))⟩
    rw [← finish_atR_inRangeFunc l v]; exact step_leave_returned hleave
  | panicked chain =>
    refine ⟨.panic chain, _, w₃, hR, .inRangeFunc l :: k, .head (fenced_wide _ _) henter (StepsIn.trans hsteps (.one (fenced_wide _ _) ?_))⟩
    rw [← Frame.raise_atR]; exact step_leave_panicked hleave
theorem calls_of_wpV {f : FuncId} {fn : Func} {c : Code} {args : Array Value} {R : Ending → World → Prop} (hf : P.funcs[f]? = some fn) (hb : fn.body = some c)
    (h : wpV P f c (bodyPostM Fence.wide 3 P fn R) { tmps := args ++ Array.replicate (fn.ntmps - args.size) undef, defers := [] } w) : CallsIn Fence.wide 3 P f args w R := by
  refine ⟨trivial, fun cs hr => ?_⟩
  let b : Frame := { (default : Frame) with fn := f, kind := .normal, roundOf := none }
  have henter : Frame.enter P f args .normal = b.atR { tmps := args ++ Array.replicate (fn.ntmps - args.size) undef, defers := [] } [.code c] := by
    simp [Frame.enter, Frame.atR, hf, hb, b]
  obtain ⟨e, a', w', hq, harr⟩ := h b [] cs rfl rfl
  rw [← henter] at harr
  cases e with
  | normal =>
    obtain ⟨e', w'', fr', hR, hs, hfn, hl⟩ := leaves_stepsInM a'.defers .returning w' { b.atR a' [] with mode := .returning } cs rfl rfl rfl hf rfl trivial hr hq
    exact ⟨e', w'', fr', hR, ComesIn.of_steps (StepsIn.trans harr (.one (fenced_wide _ _) (stepR_end rfl))) hs, hfn, hl⟩
  | ret =>
    obtain ⟨todo, hs₀⟩ := harr.1 rfl
    obtain ⟨e', w'', fr', hR, hs, hfn, hl⟩ := leaves_stepsInM a'.defers .returning w' { b.atR a' todo with mode := .returning } cs rfl rfl rfl hf rfl trivial hr hq
    exact ⟨e', w'', fr', hR, ComesIn.of_steps hs₀ hs, hfn, hl⟩
  | panic chain =>
    obtain ⟨todo, hs₀⟩ := harr
    obtain ⟨e', w'', fr', hR, hs, hfn, hl⟩ := leaves_stepsInM a'.defers (.panicking chain) w' { b.atR a' todo with mode := .panicking chain } cs rfl rfl rfl hf rfl trivial hr hq
    exact ⟨e', w'', fr', hR, ComesIn.of_steps hs₀ hs, hfn, hl⟩
  | exit id => exact hq.elim
  | goto l => exact hq.elim
  | outgrown => exact ⟨.outgrown, w', b, hq, harr.resolve_left (by simp [b]), rfl, trivial⟩
def KpS (S : Nat → Prop) (n0 : Nat) (W W' : World) : Prop := ∀ b, b < n0 → ¬ S b → W'.heap[b]? = W.heap[b]?
theorem KpS.trans {S : Nat → Prop} {n0 : Nat} {A B C : World} (h : KpS S n0 A B) (k : KpS S n0 B C) : KpS S n0 A C := fun b hb hn => (k b hb hn).trans (h b hb hn)
def SeqPan (P : Program) (gf : FuncId) (lb : Array Value) (encs : Nat → Array Value) (S : Nat → Prop) (N : Nat) (w : World) : Prop :=
  ∀ (l : Nat) (J : Nat → World → Prop) (Pn : List PanicEntry → World → Prop) (W : World), Below w.heap.size w W → (∀ k A B, J k A → Ext A B → J k B) →
    (∀ k W1, J k W1 → k < N → YieldAt Fence.wide 1 P l (encs k) W1 fun e W' => (e = .returned (.bool true) ∧ J (k + 1) W' ∧ KpS S w.heap.size W1 W') ∨ ∃ ch, e = .panicked ch ∧ Pn ch W') →
    J 0 W → CallsIn Fence.wide 2 P gf (#[.func (.yield l) #[] #[]] ++ lb) W fun e W' => ((∃ v, e = .returned v) ∧ J N W') ∨ ∃ ch, e = .panicked ch ∧ Pn ch W'
def KeepO (n0 : Nat) (W W' : World) : Prop := ∀ b o, n0 ≤ b → W.heap[b]? = some o → o.isCells = false → W'.heap[b]? = some o
theorem keepB_put {W : World} {l : Nat} {o o' : Obj} (h : W.heap[l]? = some o) (ho : o.isCells = false) : KeepB W (W.putObj l o') := fun k q hk hq => by
  by_cases e : k = l
  · subst e; rw [h] at hk; cases hk; rw [ho] at hq; cases hq
  · exact (World.putObj_heap_other e).trans hk
def Two (n0 b : Nat) : Prop := b = n0 ∨ b = n0 + 1
theorem chg_put {n0 : Nat} (W : World) {l : Nat} (hl : Two n0 l) (o : Obj) : Chg (Two n0) W (W.putObj l o) := ⟨rfl, rfl, rfl, by simp, fun b _ hn => World.putObj_heap_other (fun e => hn (e ▸ hl))⟩
theorem wpV_rangeP {g : Operand} {ps : Array Tmp} {assign body : Code} {gf : FuncId} {lb : Array Value} {encs : Nat → Array Value} {S : Nat → Prop} {N : Nat}
    (hf : ∃ fn, P.funcs[f0]? = some fn) (hg : a.eval g = .func (.func gf) #[] lb) (eg : ∀ args w, (callFunc gf args).run P w = .ok (.enter gf args) w) (hseq : SeqPan P gf lb encs S N w) (hps : ∀ k, (encs k).size = ps.size)
    (J : Nat → World → Prop) (hJ : ∀ k W W', J k W → Chg (Two w.heap.size) W W' → KeepB W W' → J k W') (h0 : ∀ W, Ext w W → w.heap.size + 2 ≤ W.heap.size → J 0 W) (Pn : List PanicEntry → World → Prop) (Ax : Nat → Act → Prop)
    (hassign : ∀ (l k : Nat) (W : World) (K : Act → World → Prop), (∀ a' W', Ext W W' → Ax k a' → K a' W') → assign.wpIn (Fence.wide.inRound l) 1 P (Exit.then K (fun _ _ _ => False)) { tmps := (ps.zip (encs k)).foldl (fun t (p, v) => t.setIfInBounds p v) a.tmps, defers := [] } W)
    (hbody : ∀ (l k : Nat) (a' : Act) (W : World), J k W → Ax k a' → k < N → body.wpIn (Fence.wide.inRound l) 1 P (fun e a2 W' => match e with
      | .normal => J (k + 1) W' ∧ KpS S w.heap.size W W' ∧ KeepO w.heap.size W W'
      | .panic ch => a2.defers = [] ∧ Pn ch W' ∧ KeepO w.heap.size W W'
      | _ => False) a' W)
    (hdone : ∀ (D : Nat) (W : World), J N W → W.heap[D]? = some (.deferred (some [])) → D = w.heap.size → Q .normal { a with defers := { target := .collected D, args := #[] } :: a.defers } W)
    (hpan : ∀ (D : Nat) (ch : List PanicEntry) (W : World), Pn ch W → W.heap[D]? = some (.deferred (some [])) → D = w.heap.size → Q (.panic ch) { a with defers := { target := .collected D, args := #[] } :: a.defers } W) :
    wpV P f0 (.rangeFunc g ps assign body) Q a w := by
  obtain ⟨rec, hrec⟩ : ∃ rec : LoopState → Loop, rec = fun st => { state := st, pending := none, fn := f0, tmps := a.tmps, params := ps, assign, body, defers := w.heap.size } := ⟨_, rfl⟩
  obtain ⟨W1, hW1⟩ : ∃ W1, (w.alloc (.deferred (some []))).alloc (.loop (rec .ready)) = W1 := ⟨_, rfl⟩
  have hL1 : W1.heap[w.heap.size + 1]? = some (.loop (rec .ready)) := by
    rw [← hW1]; have := World.alloc_heap_new (w.alloc (.deferred (some []))) (.loop (rec .ready)); rwa [World.size_alloc] at this
  have hK1 : W1.heap[w.heap.size]? = some (.deferred (some [])) := by
    rw [← hW1]; exact (Below.heap_alloc _ _ _ (by simp)).trans (World.alloc_heap_new w _)
  have hE1 : Ext w W1 := by rw [← hW1]; exact ((Ext.refl w).alloc _).alloc _
  have hkb : ∀ {A B : World}, Ext A B → KeepB A B := fun h k o hk _ => h.blk hk
  refine wpV_rangeFunc (n := 2) ⟨w.heap.size + 1, [{ target := .collected w.heap.size, args := #[] }], W1, { target := .fn (.func gf) lb, args := #[.func (.yield (w.heap.size + 1)) #[] #[]] }, W1, gf,
    #[.func (.yield (w.heap.size + 1)) #[] #[]] ++ lb, W1, ?_, ?_, ?_, ?_⟩
  · rw [← hW1, hrec]; exact run_enterLoop_outer _ _ _ _ _
  · simp only [resolve, hg]
    simp [go_sem]
  · simp [invoke, go_sem, eg]
  refine (hseq (w.heap.size + 1) (fun k W => J k W ∧ W.heap[w.heap.size + 1]? = some (.loop (rec .ready)) ∧ W.heap[w.heap.size]? = some (.deferred (some [])))
    (fun ch W => Pn ch W ∧ W.heap[w.heap.size]? = some (.deferred (some []))) W1 hE1.below (fun k A B h hE => ⟨hJ k A B h.1 hE.chg (hkb hE), hE.blk h.2.1, hE.blk h.2.2⟩) ?_ ⟨h0 W1 hE1 (by have := lt_of_heap hL1; omega), hL1, hK1⟩).mono ?_
  · rintro k W ⟨hi, hl, hk⟩ hlen
    have hy := run_yield (P := P) (args := encs k) hl (by rw [hrec]; exact hps k)
    rw [hrec] at hy
    refine ⟨f0, _, assign, body, hy, roundIn_panic hf (hassign _ k W _ ?_)⟩
    clear hy
    intro a' Wa hE hax
    have hlA := hE.blk hl
    have hkA := hE.blk hk
    have hltA := lt_of_heap hlA
    have hiA := hJ k W Wa hi hE.chg (hkb hE)
    refine ⟨_, run_beginRound hlA (by rw [hrec]), ?_⟩
    have hl2 : (Wa.putObj (w.heap.size + 1) (.loop { rec .ready with state := .busy })).heap[w.heap.size + 1]? = some (.loop { rec .ready with state := .busy }) := World.putObj_heap_same hltA
    have hk2 : (Wa.putObj (w.heap.size + 1) (.loop { rec .ready with state := .busy })).heap[w.heap.size]? = some (.deferred (some [])) := (World.putObj_heap_other (by omega)).trans hkA
    have hi2 := hJ k _ _ hiA (chg_put Wa (n0 := w.heap.size) (l := w.heap.size + 1) (.inr rfl) (.loop { rec .ready with state := .busy })) (keepB_put hlA rfl)
    refine wpIn_mono (hbody _ k a' _ hi2 hax hlen) ?_
    rintro e a3 W3 hp
    cases e with
    | normal =>
      obtain ⟨hi3, hkp3, hk3⟩ := hp
      have hl3 := hk3 _ _ (by omega) hl2 rfl
      have hd3 := hk3 _ _ (Nat.le_refl _) hk2 rfl
      have hr := run_endRound (P := P) none hl3
      refine ⟨_, _, hr, .inl ⟨rfl, ⟨hJ _ _ _ hi3 (chg_put W3 (.inr rfl) _) (keepB_put hl3 rfl), ?_, (World.putObj_heap_other (by omega)).trans hd3⟩, ?_⟩⟩
      · rw [World.putObj_heap_same (lt_of_heap hl3), hrec]; rfl
      · intro b hb hn
        rw [World.putObj_heap_other (by omega), hkp3 b hb hn, World.putObj_heap_other (by omega)]
        exact hE.block b (by have := hE1.size'; have := lt_of_heap hl; omega) (fun h => h)
    | panic ch =>
      obtain ⟨hd, hpn, hk3⟩ := hp
      exact ⟨hd, .inr ⟨ch, rfl, hpn, hk3 _ _ (Nat.le_refl _) hk2 rfl⟩⟩
    | _ => exact hp.elim
  · rintro e W2 (⟨⟨v, rfl⟩, hi, hl, hk⟩ | ⟨ch, rfl, hpn, hk⟩)
    · have he := run_endLoop (P := P) hl (by rw [hrec]; simp)
      refine ⟨_, ?_, hdone w.heap.size (W2.putObj (w.heap.size + 1) (.loop { rec .ready with state := .exhausted })) (hJ _ _ _ hi (chg_put W2 (.inr rfl) _) (keepB_put hl rfl)) ((World.putObj_heap_other (by omega)).trans hk) rfl⟩
      rw [he, hrec]
    · exact hpan w.heap.size ch W2 hpn hk rfl
end
end Go.Proofs.YtoefmncdloffaaaDoor
