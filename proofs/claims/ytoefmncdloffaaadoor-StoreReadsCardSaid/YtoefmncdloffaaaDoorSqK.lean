/-
  Several texts in one file: each has its own heading below.
-/
import Derived.Test.YtoefmncdloffaaaDoorSqJ
import Derived.Shelf.Strings.Repeat
import Derived.Shelf.Strings.Prefix
import Derived.Test.YtoefmncdloffaaaDoorSqF
import Derived.Test.YtoefmncdloffaaaDoorProg
import Derived.Test.YtoefmncdloffaaaDoorSqH


namespace Go.Proofs.YtoefmncdloffaaaDoor.Pv
open Go.RowKit
def lenS (L : List UInt8) : Nat := match term 10 L with
  | none => 0
  | some k => k + 1
def lnSt (L : List UInt8) (k : Nat) : St := ⟨[(0, none, rowV L), (3, none, pvI k)], []⟩
set_option maxRecDepth 100000 in
theorem rlength_fun (L : List UInt8) (_ : shortL L) : FunOk Tryd.prog ShaMem 115 true [rowV L] (pvI (lenS L)) := by
  have M := dc2M
  refine funOk_of Tryd.func115 rfl rfl sha_ext (fun A hS hn hI => ?_)
  refine tri_reg M hI hn (outs := ?_) (s' := ?_) ?_ ?_ ?_ ?_
  rotate_left 2
  · rfl
  · kernel_rfl
  · simp
  refine tri_seq ?_
  refine tri_reg M hI hn (outs := ?_) (s' := ?_) ?_ ?_ ?_ ?_
  rotate_left 2
  · rfl
  · kernel_rfl
  · simp
  refine tri_conv (s' := lnSt L 0) (fun a w hg => (hg.reset (kT := [0, 3]) (kO := []) (by rfl) (by simp)).same ?_ ?_) ?_
  · exact .cons rfl (.cons rfl .nil)
  · exact .nil
  refine tri_block ?_
  refine tri_loop (min L.length 10) (fun k s => s = lnSt L k ∧ ∀ i, i < k → 128 ≤ (L.getD i 0).toNat) 0 ⟨rfl, fun i hi => by omega⟩ (by omega) (fun k s hJ hk => ?_)
  obtain ⟨rfl, hbig⟩ := hJ
  refine tri_seq ?_
  refine tri_reg M hI hn (outs := ?_) (s' := ?_) ?_ ?_ ?_ ?_
  rotate_left 2
  · rfl
  · kernel_rfl
  · simp
  refine tri_cond (b := ?_) ?_ (fun hc => ?_) (fun hc => ?_)
  rotate_left 1
  · rfl
  · have hk2 : k < L.length ∧ k < 10 := by
      have h1 : (k : Int) < (L.length : Int) ∧ (k : Int) < 10 := by simpa using hc
      omega
    refine tri_skip ?_
    change Tri _ _ _ _ _
    refine tri_seq ?_
    refine tri_block ?_
    refine tri_reg M hI hn (outs := ?_) (s' := ?_) ?_ ?_ ?_ ?_
    rotate_left 2
    · rfl
    · kernel_rfl
    · simp
      omega
    refine tri_cond (b := ?_) ?_ (fun hc => ?_) (fun hc => ?_)
    rotate_left 1
    · rfl
    · have hlt : (L.getD k 0).toNat < 128 := by
        have : ((L.getD k 0).toNat : Int) < 128 := by simpa using hc
        omega
      have ht := term_some_of 10 L k hbig hk2.1 hk2.2 hlt
      refine tri_reg M hI hn (outs := ?_) (s' := ?_) ?_ ?_ ?_ ?_
      rotate_left 2
      · rfl
      · kernel_rfl
      · simp
      refine tri_ret (fun a w hg => ⟨.inr rfl, _, ?_, hg⟩)
      refine retTo_cold (out := ?_) ?_ ?_ ?_ ?_ ?_
      rotate_left 1
      · rfl
      · simp
      · rfl
      · rfl
      unfold lenS
      rw [ht, wrap_nat k (by omega)]
    · have hge : 128 ≤ (L.getD k 0).toNat := by
        have : ¬ ((L.getD k 0).toNat : Int) < 128 := by simpa using hc
        omega
      refine tri_skip ?_
      change Tri _ _ _ _ _
      refine tri_region M hI hn (outs := ?_) (s' := ?_) ?_ ?_ ?_ ?_
      rotate_left 2
      · rfl
      · kernel_rfl
      · simp
      intro a w hg
      refine ⟨k + 1, _, by omega, by omega, ⟨rfl, fun i hi => ?_⟩, (hg.reset (kT := [0, 3]) (kO := []) (by rfl) (by simp)).same ?_ ?_⟩
      · rcases Nat.lt_or_eq_of_le (Nat.le_of_lt_succ hi) with h | rfl
        · exact hbig i h
        · exact hge
      · exact .cons rfl (.cons (by rw [wrap_nat k (by omega)]) .nil)
      · exact .nil
  · have hkk : k = min L.length 10 := by
      have h1 : ¬ ((k : Int) < (L.length : Int) ∧ (k : Int) < 10) := by simpa using hc
      omega
    have ht := term_none_of 10 L (fun i hi => hbig i (by omega))
    refine tri_exit ?_
    change Tri _ _ _ _ _
    refine tri_reg M hI hn (outs := ?_) (s' := ?_) ?_ ?_ ?_ ?_
    rotate_left 2
    · rfl
    · kernel_rfl
    · simp
    refine tri_ret (fun a w hg => ⟨.inr rfl, _, ?_, hg⟩)
    refine retTo_cold (out := ?_) ?_ ?_ ?_ ?_ ?_
    rotate_left 1
    · rfl
    · simp
    · rfl
    · rfl
    unfold lenS
    rw [ht]
    rfl
def smSt (X Y : List UInt8) (k : Nat) : St := ⟨[(0, none, rowV X), (1, none, rowV Y), (5, none, pvI k)], []⟩
theorem eq_of_getD {X Y : List UInt8} (hl : X.length = Y.length) (h : ∀ i, i < X.length → X.getD i 0 = Y.getD i 0) : X = Y := by
  apply List.ext_getElem hl
  intro i h1 h2
  have := h i h1
  rw [List.getD_eq_getElem?_getD, List.getD_eq_getElem?_getD, List.getElem?_eq_getElem h1, List.getElem?_eq_getElem h2] at this
  exact this
set_option maxRecDepth 100000 in
theorem rsame_fun (X Y : List UInt8) (hX : shortL X) : FunOk Tryd.prog ShaMem 116 true [rowV X, rowV Y] (pvB (X == Y)) := by
  have M := dc2M
  have hX' : X.length < 4611686018427387904 := hX
  refine funOk_of Tryd.func116 rfl rfl sha_ext (fun A hS hn hI => ?_)
  refine tri_reg M hI hn (outs := ?_) (s' := ?_) ?_ ?_ ?_ ?_
  rotate_left 2
  · rfl
  · kernel_rfl
  · simp
  refine tri_seq ?_
  refine tri_reg M hI hn (outs := ?_) (s' := ?_) ?_ ?_ ?_ ?_
  rotate_left 2
  · rfl
  · kernel_rfl
  · simp
  refine tri_cond (b := ?_) ?_ (fun hc => ?_) (fun hc => ?_)
  rotate_left 1
  · rfl
  · have hne : X ≠ Y := by
      have : ¬ (X.length : Int) = Y.length := by simpa using hc
      intro e; subst e; exact this rfl
    refine tri_reg M hI hn (outs := ?_) (s' := ?_) ?_ ?_ ?_ ?_
    rotate_left 2
    · rfl
    · kernel_rfl
    · simp
    refine tri_ret (fun a w hg => ⟨.inr rfl, _, ?_, hg⟩)
    refine retTo_cold (out := ?_) ?_ ?_ ?_ ?_ ?_
    rotate_left 1
    · rfl
    · simp
    · rfl
    · rfl
    rw [beq_eq_false_iff_ne.2 hne]
  · have hl : X.length = Y.length := by
      have : (X.length : Int) = Y.length := by simpa using hc
      omega
    refine tri_skip ?_
    change Tri _ _ _ _ _
    refine tri_seq ?_
    refine tri_reg M hI hn (outs := ?_) (s' := ?_) ?_ ?_ ?_ ?_
    rotate_left 2
    · rfl
    · kernel_rfl
    · simp
    refine tri_conv (s' := smSt X Y 0) (fun a w hg => (hg.reset (kT := [0, 1, 5]) (kO := []) (by rfl) (by simp)).same ?_ ?_) ?_
    · exact .cons rfl (.cons rfl (.cons rfl .nil))
    · exact .nil
    refine tri_block ?_
    refine tri_loop X.length (fun k s => s = smSt X Y k ∧ ∀ i, i < k → X.getD i 0 = Y.getD i 0) 0 ⟨rfl, fun i hi => by omega⟩ (by omega) (fun k s hJ hk => ?_)
    obtain ⟨rfl, heq⟩ := hJ
    refine tri_seq ?_
    refine tri_reg M hI hn (outs := ?_) (s' := ?_) ?_ ?_ ?_ ?_
    rotate_left 2
    · rfl
    · kernel_rfl
    · simp
    refine tri_cond (b := ?_) ?_ (fun hc => ?_) (fun hc => ?_)
    rotate_left 1
    · rfl
    · have hk2 : k < X.length := by simpa using hc
      refine tri_skip ?_
      change Tri _ _ _ _ _
      refine tri_seq ?_
      refine tri_block ?_
      refine tri_reg M hI hn (outs := ?_) (s' := ?_) ?_ ?_ ?_ ?_
      rotate_left 2
      · rfl
      · kernel_rfl
      · simp
        omega
      refine tri_cond (b := ?_) ?_ (fun hc => ?_) (fun hc => ?_)
      rotate_left 1
      · rfl
      · have hne : X ≠ Y := by
          intro e
          subst e
          simp at hc
        refine tri_reg M hI hn (outs := ?_) (s' := ?_) ?_ ?_ ?_ ?_
        rotate_left 2
        · rfl
        · kernel_rfl
        · simp
        refine tri_ret (fun a w hg => ⟨.inr rfl, _, ?_, hg⟩)
        refine retTo_cold (out := ?_) ?_ ?_ ?_ ?_ ?_
        rotate_left 1
        · rfl
        · simp
        · rfl
        · rfl
        rw [beq_eq_false_iff_ne.2 hne]
      · have he : X.getD k 0 = Y.getD k 0 := by
          have : ((X.getD k 0).toNat : Int) = (Y.getD k 0).toNat := by simpa using hc
          exact UInt8.toNat_inj.1 (by omega)
        refine tri_skip ?_
        change Tri _ _ _ _ _
        refine tri_region M hI hn (outs := ?_) (s' := ?_) ?_ ?_ ?_ ?_
        rotate_left 2
        · rfl
        · kernel_rfl
        · simp
        intro a w hg
        refine ⟨k + 1, _, by omega, by omega, ⟨rfl, fun i hi => ?_⟩, (hg.reset (kT := [0, 1, 5]) (kO := []) (by rfl) (by simp)).same ?_ ?_⟩
        · rcases Nat.lt_or_eq_of_le (Nat.le_of_lt_succ hi) with h | rfl
          · exact heq i h
          · exact he
        · exact .cons rfl (.cons rfl (.cons (by rw [wrap_nat k (by omega)]) .nil))
        · exact .nil
    · have hkk : k = X.length := by
        have : ¬ k < X.length := by simpa using hc
        omega
      have he := eq_of_getD hl (fun i hi => heq i (by omega))
      refine tri_exit ?_
      change Tri _ _ _ _ _
      refine tri_reg M hI hn (outs := ?_) (s' := ?_) ?_ ?_ ?_ ?_
      rotate_left 2
      · rfl
      · kernel_rfl
      · simp
      refine tri_ret (fun a w hg => ⟨.inr rfl, _, ?_, hg⟩)
      refine retTo_cold (out := ?_) ?_ ?_ ?_ ?_ ?_
      rotate_left 1
      · rfl
      · simp
      · rfl
      · rfl
      subst he
      simp
def spSame : Spec := funSpec true fun xs => match xs with
  | [v, u] => (match asRow v, asRow u with
    | some (p, l), some (q, m) => some (p ∧ q ∧ shortL l, pvB (l == m))
    | _, _ => none)
  | _ => none
theorem rsame_ok : SpecOk Tryd.prog ShaMem 116 spSame := by
  refine funSpec_ok (call_enters Tryd.func116 (by kernel_rfl) rfl) (fun xs p r hg hp => ?_)
  split at hg
  · rename_i v u
    cases hq : asRow v <;> cases hq2 : asRow u <;> simp only [hq, hq2] at hg <;> try (cases hg; done)
    cases hg
    exact (rsame_fun _ _ hp.2.2).args fun C vs hv => by
      match vs, hv with
      | [x, y], ⟨h1, h2, _⟩ => exact ⟨asRow_ok hq hp.1 h1, asRow_ok hq2 hp.2.1 h2, trivial⟩
  · cases hg
def dcL3 : List (Nat × Spec) := (115, rowSp shortL fun l => pvI (lenS l)) :: (116, spSame) :: dcL2
theorem dc3_ok : ∀ p ∈ dcL3, SpecOk Tryd.prog ShaMem p.1 p.2 := by
  intro p hp
  simp only [dcL3, List.mem_cons] at hp
  rcases hp with rfl | rfl | hp
  · exact rowSp_ok (call_enters Tryd.func115 (by kernel_rfl) rfl) rlength_fun
  · exact rsame_ok
  · exact dc2_ok p hp
theorem dc3M : Mach Tryd.prog ShaMem (find dcL3) := ⟨specs_of dc3_ok, mixed_⟩
theorem lenS_le (L : List UInt8) : lenS L ≤ L.length ∧ lenS L ≤ 10 := by
  unfold lenS
  cases h : term 10 L with
  | none => simp
  | some k => obtain ⟨_, h1, h2⟩ := term_isVar _ _ _ h; dsimp only; omega
theorem getS_ref (L : List UInt8) : getS L = if lenS L = 0 then (0, 0, if L.length < 10 then 6 else 7) else if wInt (unzig (uval (L.take (lenS L)) % 18446744073709551616)) = L.take (lenS L) then (unzig (uval (L.take (lenS L)) % 18446744073709551616), lenS L, 0) else (0, 0, 7) := by
  unfold getS lenS
  cases h : term 10 L with
  | none => rfl
  | some k =>
    obtain ⟨h1, h2, h3⟩ := term_isVar _ _ _ h
    dsimp only
    rw [if_neg (show ¬ k + 1 = 0 by omega)]
    have hl : (L.take (k + 1)).length = k + 1 := by rw [List.length_take]; omega
    have hiff := var_iff h1 hl h2
    rw [getD_take (by omega)] at hiff
    by_cases hc : uval (L.take (k + 1)) < 18446744073709551616 ∧ (k = 0 ∨ L.getD k 0 ≠ 0)
    · rw [if_pos hc, if_pos (hiff.2 hc), Nat.mod_eq_of_lt hc.1]
    · rw [if_neg hc, if_neg (fun e => hc (hiff.1 e))]
theorem u64_step (u c : Nat) : IntKind.u64.wrap (IntKind.u64.wrap (128 * (u : Int)) + IntKind.u64.wrap ((c : Int).tmod 128)) = (((c % 128 + 128 * u) % 18446744073709551616 : Nat) : Int) := by
  have e : (c : Int).tmod 128 = ((c % 128 : Nat) : Int) := by rw [Int.tmod_eq_emod_of_nonneg (by omega)]; omega
  rw [e, show (128 : Int) * (u : Int) = ((128 * u : Nat) : Int) from by omega, u64_wrapN, u64_wrapN, ← Int.natCast_add, u64_wrapN]
  congr 1
  omega
theorem uval_drop {l : List UInt8} {k : Nat} (h : k < l.length) : uval (l.drop k) = (l.getD k 0).toNat % 128 + 128 * uval (l.drop (k + 1)) := by
  rw [List.drop_eq_getElem_cons h, List.getD_eq_getElem?_getD, List.getElem?_eq_getElem h]
  rfl
def uAt (L : List UInt8) (r : Nat) : Nat := uval ((L.take (lenS L)).drop (lenS L - r)) % 18446744073709551616
def riSt (L : List UInt8) (r : Nat) : St := ⟨[(0, none, rowV L), (5, none, pvI (lenS L)), (6, none, lit1 (.int .u64 (uAt L r : Int))), (7, none, pvI ((lenS L : Int) - 1 - r))], []⟩
set_option maxRecDepth 100000 in
set_option maxHeartbeats 1000000 in
theorem rgetInt_fun (L : List UInt8) (hL : shortL L) : FunOk Tryd.prog ShaMem 73 true [rowV L] (intPV (getS L)) := by
  have M := dc3M
  have hL' : L.length < 4611686018427387904 := hL
  have hle := lenS_le L
  refine funOk_of Tryd.func73 rfl rfl sha_ext (fun A hS hn hI => ?_)
  refine tri_reg M hI hn (outs := ?_) (s' := ?_) ?_ ?_ ?_ ?_
  rotate_left 2
  · rfl
  · kernel_rfl
  · simp
  refine tri_reg M hI hn (outs := ?_) (s' := ?_) ?_ ?_ ?_ ?_
  rotate_left 2
  · rfl
  · kernel_rfl
  · simp [hL]
  refine tri_conv (s' := ⟨[(0, none, rowV L), (5, none, pvI (lenS L))], []⟩) (fun a w hg => (hg.reset (kT := [0, 5]) (kO := []) (by rfl) (by simp)).same ?_ ?_) ?_
  · rw [rowB_byF]
    exact .cons rfl (.cons rfl .nil)
  · exact .nil
  refine tri_seq ?_
  refine tri_reg M hI hn (outs := ?_) (s' := ?_) ?_ ?_ ?_ ?_
  rotate_left 2
  · rfl
  · kernel_rfl
  · simp
  refine tri_cond (b := ?_) ?_ (fun hc => ?_) (fun hc => ?_)
  rotate_left 1
  · rfl
  · have h0 : lenS L = 0 ∧ L.length < 10 := by
      have : ((lenS L : Nat) : Int) = 0 ∧ (L.length : Int) < 10 := by simpa using hc
      omega
    refine tri_reg M hI hn (outs := ?_) (s' := ?_) ?_ ?_ ?_ ?_
    rotate_left 2
    · rfl
    · kernel_rfl
    · simp
    refine tri_ret (fun a w hg => ⟨.inr rfl, _, ?_, hg⟩)
    refine retTo_cold (out := ?_) ?_ ?_ ?_ ?_ ?_
    rotate_left 1
    · rfl
    · simp
    · rfl
    · rfl
    rw [getS_ref, if_pos h0.1, if_pos h0.2]
    rfl
  · have h0 : ¬ (lenS L = 0 ∧ L.length < 10) := by
      intro h
      simp [h.1] at hc
      omega
    refine tri_skip ?_
    change Tri _ _ _ _ _
    refine tri_reg M hI hn (outs := ?_) (s' := ?_) ?_ ?_ ?_ ?_
    rotate_left 2
    · rfl
    · kernel_rfl
    · simp
    refine tri_seq ?_
    refine tri_reg M hI hn (outs := ?_) (s' := ?_) ?_ ?_ ?_ ?_
    rotate_left 2
    · rfl
    · kernel_rfl
    · simp
    refine tri_conv (s' := riSt L 0) (fun a w hg => (hg.reset (kT := [0, 5, 6, 7]) (kO := []) (by rfl) (by simp)).same ?_ ?_) ?_
    · refine .cons rfl (.cons rfl (.cons ?_ (.cons ?_ .nil)))
      · unfold uAt
        rw [Nat.sub_zero, List.drop_of_length_le (by rw [List.length_take]; omega)]
        rfl
      · exact congrArg pvI (by rw [wrap_i64_id (by omega) (by omega)]; omega)
    · exact .nil
    refine tri_block ?_
    refine tri_loop (lenS L) (fun k s => s = riSt L k) 0 rfl (by omega) (fun k s hJ hk => ?_)
    subst hJ
    refine tri_seq ?_
    refine tri_reg M hI hn (outs := ?_) (s' := ?_) ?_ ?_ ?_ ?_
    rotate_left 2
    · rfl
    · kernel_rfl
    · simp
    refine tri_cond (b := ?_) ?_ (fun hc => ?_) (fun hc => ?_)
    rotate_left 1
    · rfl
    · have hk2 : k < lenS L := by
        have : ((lenS L : Nat) : Int) - 1 - k ≥ 0 := by simpa using hc
        omega
      refine tri_skip ?_
      change Tri _ _ _ _ _
      refine tri_seq ?_
      refine tri_block ?_
      refine tri_region M hI hn (outs := ?_) (s' := ?_) ?_ ?_ ?_ ?_
      rotate_left 2
      · rfl
      · kernel_rfl
      · simp
        omega
      change Tri _ _ _ _ _
      refine tri_region M hI hn (outs := ?_) (s' := ?_) ?_ ?_ ?_ ?_
      rotate_left 2
      · rfl
      · kernel_rfl
      · simp
      intro a w hg
      refine ⟨k + 1, _, by omega, by omega, rfl, (hg.reset (kT := [0, 5, 6, 7]) (kO := []) (by rfl) (by simp)).same ?_ ?_⟩
      · refine .cons rfl (.cons rfl (.cons ?_ (.cons ?_ .nil)))
        · refine congrArg (fun n => lit1 (.int .u64 n)) ?_
          rw [show ((lenS L : Nat) : Int) - 1 - k = ((lenS L - 1 - k : Nat) : Int) from by omega, Int.toNat_natCast, u64_step]
          unfold uAt
          have h1 := uval_drop (l := L.take (lenS L)) (k := lenS L - 1 - k) (by rw [List.length_take]; omega)
          rw [getD_take (by omega), show lenS L - 1 - k + 1 = lenS L - k from by omega] at h1
          rw [show lenS L - (k + 1) = lenS L - 1 - k from by omega, h1]
          congr 1
          omega
        · exact congrArg pvI (by rw [wrap_i64_id (by omega) (by omega)]; omega)
      · exact .nil
    · have hkk : k = lenS L := by
        have : ¬ ((lenS L : Nat) : Int) - 1 - k ≥ 0 := by simpa using hc
        omega
      subst hkk
      have hu : uAt L (lenS L) = uval (L.take (lenS L)) % 18446744073709551616 := by unfold uAt; rw [Nat.sub_self, List.drop_zero]
      have hu2 : uAt L (lenS L) < 18446744073709551616 := Nat.mod_lt _ (by omega)
      have hsrg := unzig_range hu2
      refine tri_exit ?_
      change Tri _ _ _ _ _
      refine tri_reg M hI hn (outs := ?_) (s' := ?_) ?_ ?_ ?_ ?_
      rotate_left 2
      · rfl
      · kernel_rfl
      · simp
      have hh : IntKind.i64.wrap (IntKind.u64.wrap (((uAt L (lenS L) : Nat) : Int).tdiv 2)) = ((uAt L (lenS L) / 2 : Nat) : Int) := by
        have e : ((uAt L (lenS L) : Nat) : Int).tdiv 2 = ((uAt L (lenS L) / 2 : Nat) : Int) := by rw [Int.tdiv_eq_ediv_of_nonneg (by omega)]; omega
        rw [e, u64_wrapN, Nat.mod_eq_of_lt (by omega), wrap_i64_id (by omega) (by omega)]
      refine tri_conv (s' := ⟨[(0, none, rowV L), (5, none, pvI (lenS L)), (6, none, lit1 (.int .u64 (uAt L (lenS L) : Int))), (8, none, pvI ((uAt L (lenS L) / 2 : Nat) : Int))], []⟩) (fun a w hg => (hg.reset (kT := [0, 5, 6, 8]) (kO := []) (by rfl) (by simp)).same ?_ ?_) ?_
      · exact .cons rfl (.cons rfl (.cons rfl (.cons (congrArg pvI hh) .nil)))
      · exact .nil
      have hm2 : ((uAt L (lenS L) : Nat) : Int).tmod 2 = ((uAt L (lenS L) % 2 : Nat) : Int) := by rw [Int.tmod_eq_emod_of_nonneg (by omega)]; omega
      have hgs := getS_ref L
      rw [← hu] at hgs
      generalize hU : uAt L (lenS L) = U at *
      have hbI : i64P (unzig U) := hsrg
      have hbl := wInt_length (unzig U)
      have hr1 : (rowB (wInt (unzig U)).length fun i => byF (wInt (unzig U)) (0 + i)) = wInt (unzig U) := by
        rw [rowB_drop (by omega), List.drop_zero, List.take_length]
      have hr2 : (rowB (((lenS L : Nat) : Int) - 0).toNat fun i => byF L (Int.toNat 0 + i)) = L.take (lenS L) := by
        rw [show (((lenS L : Nat) : Int) - 0).toNat = lenS L from by omega]
        exact (rowB_drop (L := L) (k := 0) (m := lenS L) (by omega)).trans (by rw [List.drop_zero])
      refine tri_seq ?_
      refine tri_reg M hI hn (outs := ?_) (s' := ?_) ?_ ?_ ?_ ?_
      rotate_left 2
      · rfl
      · kernel_rfl
      · simp
      refine tri_cond (b := ?_) ?_ (fun hc => ?_) (fun hc => ?_)
      rotate_left 1
      · rfl
      · have huz : IntKind.i64.wrap (IntKind.i64.wrap (0 - ((U / 2 : Nat) : Int)) - 1) = unzig U := by
          rw [hm2] at hc
          have hodd : ((U % 2 : Nat) : Int) = 1 := by simpa using hc
          have e : IntKind.i64.wrap (0 - ((U / 2 : Nat) : Int)) = 0 - ((U / 2 : Nat) : Int) := wrap_i64_id (by omega) (by omega)
          rw [e, wrap_i64_id (by omega) (by omega)]
          unfold unzig
          rw [if_neg (by omega)]
          omega
        refine tri_region M hI hn (outs := ?_) (s' := ?_) ?_ ?_ ?_ ?_
        rotate_left 2
        · rfl
        · kernel_rfl
        · simp
        change Tri _ _ _ _ _
        refine tri_conv (s' := ⟨[(0, none, rowV L), (5, none, pvI (lenS L)), (8, none, pvI (unzig U))], []⟩) (fun a w hg => (hg.reset (kT := [0, 5, 8]) (kO := []) (by rfl) (by simp)).same ?_ ?_) ?_
        · exact .cons rfl (.cons rfl (.cons (congrArg pvI huz) .nil))
        · exact .nil
        refine tri_seq ?_
        refine tri_reg M hI hn (outs := ?_) (s' := ?_) ?_ ?_ ?_ ?_
        rotate_left 2
        · rfl
        · kernel_rfl
        · simp [hbI]
          exact ⟨fun _ => by omega, fun _ i hi x hx => all_cold (show (byF _ i).all (coldPC false) = true from rfl) x hx, fun _ => by unfold shortL; omega⟩
        refine tri_cond (b := ?_) ?_ (fun hc => ?_) (fun hc => ?_)
        rotate_left 1
        · rfl
        · rw [hr1, hr2] at hc
          have h7 : getS L = (0, 0, 7) := by
            rw [hgs]
            by_cases h1 : lenS L = 0
            · rw [if_pos h1, if_neg (fun h => h0 ⟨h1, h⟩)]
            · rw [if_neg h1, if_neg]
              intro e
              rw [e] at hc
              simp [h1] at hc
          refine tri_reg M hI hn (outs := ?_) (s' := ?_) ?_ ?_ ?_ ?_
          rotate_left 2
          · rfl
          · kernel_rfl
          · simp
          refine tri_ret (fun a w hg => ⟨.inr rfl, _, ?_, hg⟩)
          refine retTo_cold (out := ?_) ?_ ?_ ?_ ?_ ?_
          rotate_left 1
          · rfl
          · simp
          · rfl
          · rfl
          rw [h7]
          rfl
        · rw [hr1, hr2] at hc
          have h7 : lenS L ≠ 0 ∧ wInt (unzig U) = L.take (lenS L) := by
            by_cases h1 : lenS L = 0
            · simp [h1] at hc
            · refine ⟨h1, ?_⟩
              simp [h1] at hc
              exact hc
          refine tri_skip ?_
          change Tri _ _ _ _ _
          refine tri_reg M hI hn (outs := ?_) (s' := ?_) ?_ ?_ ?_ ?_
          rotate_left 2
          · rfl
          · kernel_rfl
          · simp
          refine tri_ret (fun a w hg => ⟨.inr rfl, _, ?_, hg⟩)
          refine retTo_cold (out := ?_) ?_ ?_ ?_ ?_ ?_
          rotate_left 1
          · rfl
          · simp
          · rfl
          · rfl
          rw [hgs, if_neg h7.1, if_pos h7.2]
          rfl
      · have huz : ((U / 2 : Nat) : Int) = unzig U := by
          rw [hm2] at hc
          have hev : ¬ ((U % 2 : Nat) : Int) = 1 := by simpa using hc
          unfold unzig
          rw [if_pos (by omega)]
        refine tri_skip ?_
        change Tri _ _ _ _ _
        refine tri_conv (s' := ⟨[(0, none, rowV L), (5, none, pvI (lenS L)), (8, none, pvI (unzig U))], []⟩) (fun a w hg => (hg.reset (kT := [0, 5, 8]) (kO := []) (by rfl) (by simp)).same ?_ ?_) ?_
        · exact .cons rfl (.cons rfl (.cons (congrArg pvI huz) .nil))
        · exact .nil
        refine tri_seq ?_
        refine tri_reg M hI hn (outs := ?_) (s' := ?_) ?_ ?_ ?_ ?_
        rotate_left 2
        · rfl
        · kernel_rfl
        · simp [hbI]
          exact ⟨fun _ => by omega, fun _ i hi x hx => all_cold (show (byF _ i).all (coldPC false) = true from rfl) x hx, fun _ => by unfold shortL; omega⟩
        refine tri_cond (b := ?_) ?_ (fun hc => ?_) (fun hc => ?_)
        rotate_left 1
        · rfl
        · rw [hr1, hr2] at hc
          have h7 : getS L = (0, 0, 7) := by
            rw [hgs]
            by_cases h1 : lenS L = 0
            · rw [if_pos h1, if_neg (fun h => h0 ⟨h1, h⟩)]
            · rw [if_neg h1, if_neg]
              intro e
              rw [e] at hc
              simp [h1] at hc
          refine tri_reg M hI hn (outs := ?_) (s' := ?_) ?_ ?_ ?_ ?_
          rotate_left 2
          · rfl
          · kernel_rfl
          · simp
          refine tri_ret (fun a w hg => ⟨.inr rfl, _, ?_, hg⟩)
          refine retTo_cold (out := ?_) ?_ ?_ ?_ ?_ ?_
          rotate_left 1
          · rfl
          · simp
          · rfl
          · rfl
          rw [h7]
          rfl
        · rw [hr1, hr2] at hc
          have h7 : lenS L ≠ 0 ∧ wInt (unzig U) = L.take (lenS L) := by
            by_cases h1 : lenS L = 0
            · simp [h1] at hc
            · refine ⟨h1, ?_⟩
              simp [h1] at hc
              exact hc
          refine tri_skip ?_
          change Tri _ _ _ _ _
          refine tri_reg M hI hn (outs := ?_) (s' := ?_) ?_ ?_ ?_ ?_
          rotate_left 2
          · rfl
          · kernel_rfl
          · simp
          refine tri_ret (fun a w hg => ⟨.inr rfl, _, ?_, hg⟩)
          refine retTo_cold (out := ?_) ?_ ?_ ?_ ?_ ?_
          rotate_left 1
          · rfl
          · simp
          · rfl
          · rfl
          rw [hgs, if_neg h7.1, if_pos h7.2]
          rfl
end Go.Proofs.YtoefmncdloffaaaDoor.Pv


namespace Go.Proofs.YtoefmncdloffaaaDoor.Pv
open Go.RowKit
def dcL4 : List (Nat × Spec) := (73, rowSp shortL fun l => intPV (getS l)) :: (66, rowSp shortL fun l => bsPV (getBS l)) :: dcL3
theorem dc4_ok : ∀ p ∈ dcL4, SpecOk Tryd.prog ShaMem p.1 p.2 := by
  intro p hp
  simp only [dcL4, List.mem_cons] at hp
  rcases hp with rfl | rfl | hp
  · exact rowSp_ok (call_enters Tryd.func73 (by kernel_rfl) rfl) rgetInt_fun
  · exact rowSp_ok (call_enters Tryd.func66 (by kernel_rfl) rfl) getBytes_fun
  · exact dc3_ok p hp
theorem dc4M : Mach Tryd.prog ShaMem (find dcL4) := ⟨specs_of dc4_ok, mixed_⟩
def rcntS (L : List UInt8) : Int × Nat × Int := if (cntS L).2.2 = 0 then ((getS L).1, (getS L).2.1, 0) else (0, 0, (cntS L).2.2)
set_option maxRecDepth 100000 in
theorem rcount_fun (L : List UInt8) (hL : shortL L) : FunOk Tryd.prog ShaMem 114 true [rowV L, pvI 1] (intPV (rcntS L)) := by
  have M := dc4M
  have hle := getS_le L
  have hrg := getS_range L
  have hL' : L.length < 4611686018427387904 := hL
  refine funOk_of Tryd.func114 rfl rfl sha_ext (fun A hS hn hI => ?_)
  refine tri_reg M hI hn (outs := ?_) (s' := ?_) ?_ ?_ ?_ ?_
  rotate_left 2
  · rfl
  · kernel_rfl
  · simp
  refine tri_reg M hI hn (outs := ?_) (s' := ?_) ?_ ?_ ?_ ?_
  rotate_left 2
  · rfl
  · kernel_rfl
  · simp [hL]
  refine tri_conv (s' := ⟨[(0, none, rowV L), (1, none, pvI 1), (7, none, pvI (getS L).1), (8, none, pvI ((getS L).2.1 : Int)), (9, none, pvI (getS L).2.2)], []⟩) (fun a w hg => (hg.reset (kT := [0, 1, 7, 8, 9]) (kO := []) (by rfl) (by simp)).same ?_ ?_) ?_
  · rw [rowB_byF]
    exact .cons rfl (.cons rfl (.cons rfl (.cons rfl (.cons rfl .nil))))
  · exact .nil
  unfold rcntS cntS
  generalize getS L = g at *
  obtain ⟨n, k, e⟩ := g
  dsimp only at *
  refine tri_seq ?_
  refine tri_reg M hI hn (outs := ?_) (s' := ?_) ?_ ?_ ?_ ?_
  rotate_left 2
  · rfl
  · kernel_rfl
  · simp
  refine tri_cond (b := ?_) ?_ (fun hc => ?_) (fun hc => ?_)
  rotate_left 1
  · rfl
  · have he : e ≠ 0 := by simpa using hc
    refine tri_reg M hI hn (outs := ?_) (s' := ?_) ?_ ?_ ?_ ?_
    rotate_left 2
    · rfl
    · kernel_rfl
    · simp
    refine tri_ret (fun a w hg => ⟨.inr rfl, _, ?_, hg⟩)
    refine retTo_cold (out := ?_) ?_ ?_ ?_ ?_ ?_
    rotate_left 1
    · rfl
    · simp
    · rfl
    · rfl
    rw [if_pos he, if_neg he]
    rfl
  · have he : e = 0 := by simpa using hc
    subst he
    refine tri_skip ?_
    change Tri _ _ _ _ _
    refine tri_seq ?_
    refine tri_reg M hI hn (outs := ?_) (s' := ?_) ?_ ?_ ?_ ?_
    rotate_left 2
    · rfl
    · kernel_rfl
    · simp
    refine tri_cond (b := ?_) ?_ (fun hc => ?_) (fun hc => ?_)
    rotate_left 1
    · rfl
    · have hn0 : n < 0 := by simpa using hc
      refine tri_reg M hI hn (outs := ?_) (s' := ?_) ?_ ?_ ?_ ?_
      rotate_left 2
      · rfl
      · kernel_rfl
      · simp
      refine tri_ret (fun a w hg => ⟨.inr rfl, _, ?_, hg⟩)
      refine retTo_cold (out := ?_) ?_ ?_ ?_ ?_ ?_
      rotate_left 1
      · rfl
      · simp
      · rfl
      · rfl
      have ec : (if (0 : Int) ≠ 0 then (0 : Int) else if n < 0 then (7 : Int) else if n > (L.length : Int) - k then 6 else 0) = 7 := by rw [if_neg (by simp), if_pos hn0]
      rw [ec]
      rfl
    · have hn0 : ¬ n < 0 := by simpa using hc
      refine tri_skip ?_
      change Tri _ _ _ _ _
      refine tri_seq ?_
      refine tri_reg M hI hn (outs := ?_) (s' := ?_) ?_ ?_ ?_ ?_
      rotate_left 2
      · rfl
      · kernel_rfl
      · simp
      have e1 : IntKind.i64.wrap ((L.length : Int) - k) = (L.length : Int) - k := wrap_i64_id (by omega) (by omega)
      have e2 : IntKind.i64.wrap (n * 1) = n := by rw [Int.mul_one]; exact wrap_i64_id (by omega) (by omega)
      refine tri_cond (b := ?_) ?_ (fun hc => ?_) (fun hc => ?_)
      rotate_left 1
      · rfl
      · rw [e1, e2] at hc
        have hn1 : n > (L.length : Int) - k := by
          by_cases h1 : (L.length : Int) < n
          · omega
          · simp [h1] at hc
            exact hc
        refine tri_reg M hI hn (outs := ?_) (s' := ?_) ?_ ?_ ?_ ?_
        rotate_left 2
        · rfl
        · kernel_rfl
        · simp
        refine tri_ret (fun a w hg => ⟨.inr rfl, _, ?_, hg⟩)
        refine retTo_cold (out := ?_) ?_ ?_ ?_ ?_ ?_
        rotate_left 1
        · rfl
        · simp
        · rfl
        · rfl
        have ec : (if (0 : Int) ≠ 0 then (0 : Int) else if n < 0 then (7 : Int) else if n > (L.length : Int) - k then 6 else 0) = 6 := by rw [if_neg (by simp), if_neg hn0, if_pos hn1]
        rw [ec]
        rfl
      · rw [e1, e2] at hc
        have hn1 : ¬ n > (L.length : Int) - k := by
          by_cases h1 : (L.length : Int) < n
          · simp [h1] at hc
          · simp [h1] at hc
            omega
        refine tri_skip ?_
        change Tri _ _ _ _ _
        refine tri_reg M hI hn (outs := ?_) (s' := ?_) ?_ ?_ ?_ ?_
        rotate_left 2
        · rfl
        · kernel_rfl
        · simp
        refine tri_ret (fun a w hg => ⟨.inr rfl, _, ?_, hg⟩)
        refine retTo_cold (out := ?_) ?_ ?_ ?_ ?_ ?_
        rotate_left 1
        · rfl
        · simp
        · rfl
        · rfl
        have ec : (if (0 : Int) ≠ 0 then (0 : Int) else if n < 0 then (7 : Int) else if n > (L.length : Int) - k then 6 else 0) = 0 := by rw [if_neg (by simp), if_neg hn0, if_neg hn1]
        rw [ec]
        rfl
def spRcount : Spec := funSpec true fun xs => match xs with
  | [v, .w (.one (.lit (.int .i64 1)))] => (match asRow v with
    | some (p, l) => some (p ∧ shortL l, intPV (rcntS l))
    | none => none)
  | _ => none
theorem rcount_ok : SpecOk Tryd.prog ShaMem 114 spRcount := by
  refine funSpec_ok (call_enters Tryd.func114 (by kernel_rfl) rfl) (fun xs p r hg hp => ?_)
  split at hg
  · rename_i v
    cases hq : asRow v with
    | none => rw [hq] at hg; cases hg
    | some q =>
      obtain ⟨p0, l⟩ := q
      rw [hq] at hg
      cases hg
      exact (rcount_fun l hp.2).args fun C vs hv => by
        match vs, hv with
        | [x, y], ⟨h1, h2, _⟩ => exact ⟨asRow_ok hq hp.1 h1, h2, trivial⟩
  · cases hg
def dcL5 : List (Nat × Spec) := (114, spRcount) :: dcL4
theorem dc5_ok : ∀ p ∈ dcL5, SpecOk Tryd.prog ShaMem p.1 p.2 := by
  intro p hp
  rcases List.mem_cons.1 hp with rfl | hp
  · exact rcount_ok
  · exact dc4_ok p hp
theorem dc5M : Mach Tryd.prog ShaMem (find dcL5) := ⟨specs_of dc5_ok, mixed_⟩
set_option maxRecDepth 100000 in
theorem rgetBytes_fun (L : List UInt8) (hL : shortL L) : FunOk Tryd.prog ShaMem 72 true [rowV L] (bsPV (getBS L)) := by
  have M := dc5M
  have hle := getS_le L
  have hrg := getS_range L
  have hL' : L.length < 4611686018427387904 := hL
  refine funOk_of Tryd.func72 rfl rfl sha_ext (fun A hS hn hI => ?_)
  refine tri_reg M hI hn (outs := ?_) (s' := ?_) ?_ ?_ ?_ ?_
  rotate_left 2
  · rfl
  · kernel_rfl
  · simp
  refine tri_reg M hI hn (outs := ?_) (s' := ?_) ?_ ?_ ?_ ?_
  rotate_left 2
  · rfl
  · kernel_rfl
  · simp [hL]
  refine tri_conv (s' := ⟨[(0, none, rowV L), (5, none, pvI (rcntS L).1), (6, none, pvI ((rcntS L).2.1 : Int)), (7, none, pvI (rcntS L).2.2)], []⟩) (fun a w hg => (hg.reset (kT := [0, 5, 6, 7]) (kO := []) (by rfl) (by simp)).same ?_ ?_) ?_
  · rw [rowB_byF]
    exact .cons rfl (.cons rfl (.cons rfl (.cons rfl .nil)))
  · exact .nil
  have hcc := cntS_code L
  rw [getBS_cnt L]
  unfold rcntS
  generalize (cntS L).2.2 = e at *
  generalize getS L = g at *
  obtain ⟨n, k, e'⟩ := g
  dsimp only at *
  refine tri_seq ?_
  refine tri_reg M hI hn (outs := ?_) (s' := ?_) ?_ ?_ ?_ ?_
  rotate_left 2
  · rfl
  · kernel_rfl
  · simp
  refine tri_cond (b := ?_) ?_ (fun hc => ?_) (fun hc => ?_)
  rotate_left 1
  · rfl
  · have he : e ≠ 0 := by
      intro h
      rw [if_pos h] at hc
      simp at hc
    refine tri_reg M hI hn (outs := ?_) (s' := ?_) ?_ ?_ ?_ ?_
    rotate_left 2
    · rfl
    · kernel_rfl
    · simp
    refine tri_ret (fun a w hg => ⟨.inr rfl, _, ?_, hg⟩)
    refine retTo_cold (out := ?_) ?_ ?_ ?_ ?_ ?_
    rotate_left 1
    · rfl
    · simp
    · rfl
    · rfl
    rw [if_pos he, if_neg he]
    rfl
  · have he : e = 0 := by
      rcases Decidable.em (e = 0) with h | h
      · exact h
      · rw [if_neg h] at hc
        exact absurd (by simpa using hc) h
    subst he
    obtain ⟨_, hn0, hn1⟩ := hcc rfl
    have e1 : IntKind.i64.wrap ((k : Int) + n) = ((k + n.toNat : Nat) : Int) := by rw [wrap_i64_id (by omega) (by omega)]; omega
    refine tri_skip ?_
    change Tri _ _ _ _ _
    simp only [if_pos]
    refine tri_reg M hI hn (outs := ?_) (s' := ?_) ?_ ?_ ?_ ?_
    rotate_left 2
    · rfl
    · kernel_rfl
    · simp
      rw [e1]
      omega
    refine tri_ret (fun a w hg => ⟨.inr rfl, _, ?_, hg⟩)
    refine retTo_cold (out := ?_) ?_ ?_ ?_ ?_ ?_
    rotate_left 1
    · rfl
    · simp
    · rfl
    · rfl
    rw [if_neg (by simp), e1]
    have e2 : (((k + n.toNat : Nat) : Int) - (k : Int)).toNat = n.toNat := by omega
    unfold bsPV
    rw [e2, Int.toNat_natCast, rowB_drop (by omega)]
    rfl
def dcL6 : List (Nat × Spec) := (72, rowSp shortL fun l => bsPV (getBS l)) :: dcL5
theorem dc6_ok : ∀ p ∈ dcL6, SpecOk Tryd.prog ShaMem p.1 p.2 := by
  intro p hp
  rcases List.mem_cons.1 hp with rfl | hp
  · exact rowSp_ok (call_enters Tryd.func72 (by kernel_rfl) rfl) rgetBytes_fun
  · exact dc5_ok p hp
end Go.Proofs.YtoefmncdloffaaaDoor.Pv


namespace Go.Proofs.YtoefmncdloffaaaDoor
open Go.RowKit Go.Shelf
def laysRepeat_ren : Ren :=
{
  f := fun x =>
    match x with
    | 105 => 89
    | 212 => 127
    | 99 => 128
    | 165 => 129
    | 166 => 130
    | 170 => 131
    | 169 => 132
    | 263 => 156
    | 264 => 157
    | 206 => 158
    | 240 => 159
    | 241 => 160
    | 276 => 170
    | 277 => 137
    | n => n,
  t := fun x =>
    match x with
    | 9 => 9
    | 3 => 3
    | 4 => 4
    | 20 => 20
    | 0 => 0
    | 46 => 94
    | 109 => 174
    | 5 => 5
    | 72 => 179
    | 76 => 183
    | 51 => 189
    | 146 => 208
    | 53 => 93
    | 148 => 210
    | 70 => 177
    | 37 => 29
    | 75 => 182
    | 127 => 212
    | 164 => 221
    | 80 => 186
    | n => n,
  g := fun x =>
    have n := x;
    n }
theorem laysRepeat : Lays.n105 Tryd.prog laysRepeat_ren :=
{ mixed := Eq.refl true, f99 := Eq.trans Tryd.func128 (congrArg some (Eq.refl (Body.n99 laysRepeat_ren))),
  f105 := Eq.trans Tryd.func89 (congrArg some (Eq.refl (Body.n105 laysRepeat_ren))),
  f165 := Eq.trans Tryd.func129 (congrArg some (Eq.refl (Body.n165 laysRepeat_ren))),
  f166 := Eq.trans Tryd.func130 (congrArg some (Eq.refl (Body.n166 laysRepeat_ren))),
  f169 := Eq.trans Tryd.func132 (congrArg some (Eq.refl (Body.n169 laysRepeat_ren))),
  f170 := Eq.trans Tryd.func131 (congrArg some (Eq.refl (Body.n170 laysRepeat_ren))),
  f206 := Eq.trans Tryd.func158 (congrArg some (Eq.refl (Body.n206 laysRepeat_ren))),
  f212 := Eq.trans Tryd.func127 (congrArg some (Eq.refl (Body.n212 laysRepeat_ren))),
  f240 := Eq.trans Tryd.func159 (congrArg some (Eq.refl (Body.n240 laysRepeat_ren))),
  f241 := Eq.trans Tryd.func160 (congrArg some (Eq.refl (Body.n241 laysRepeat_ren))),
  f263 := Eq.trans Tryd.func156 (congrArg some (Eq.refl (Body.n263 laysRepeat_ren))),
  f264 := Eq.trans Tryd.func157 (congrArg some (Eq.refl (Body.n264 laysRepeat_ren))),
  f276 := Eq.trans Tryd.func170 (congrArg some (Eq.refl (Body.n276 laysRepeat_ren))),
  f277 := Eq.trans Tryd.func137 (congrArg some (Eq.refl (Body.n277 laysRepeat_ren))), t0 := Tryd.underlying0,
  a0 := Tryd.isAgg0, z0 := Tryd.sizeOf0, v0 := Tryd.zeroValue0, t3 := Tryd.underlying3, a3 := Tryd.isAgg3,
  z3 := Tryd.sizeOf3, v3 := Tryd.zeroValue3, t4 := Tryd.underlying4, a4 := Tryd.isAgg4, z4 := Tryd.sizeOf4,
  v4 := Tryd.zeroValue4, t5 := Tryd.underlying5, a5 := Tryd.isAgg5, z5 := Tryd.sizeOf5, v5 := Tryd.zeroValue5,
  t9 := Tryd.underlying9, a9 := Tryd.isAgg9, z9 := Tryd.sizeOf9, v9 := Tryd.zeroValue9, t20 := Tryd.underlying20,
  a20 := Tryd.isAgg20, z20 := Tryd.sizeOf20, v20 := Tryd.zeroValue20, t37 := Tryd.underlying29, a37 := Tryd.isAgg29,
  z37 := Tryd.sizeOf29, v37 := Tryd.zeroValue29, t46 := Tryd.underlying94, a46 := Tryd.isAgg94, z46 := Tryd.sizeOf94,
  v46 := Tryd.zeroValue94, t51 := Tryd.underlying189, a51 := Tryd.isAgg189, z51 := Tryd.sizeOf189,
  v51 := Tryd.zeroValue189, t53 := Tryd.underlying93, a53 := Tryd.isAgg93, z53 := Tryd.sizeOf93,
  v53 := Tryd.zeroValue93, t70 := Tryd.underlying177, a70 := Tryd.isAgg177, z70 := Tryd.sizeOf177,
  v70 := Tryd.zeroValue177, t72 := Tryd.underlying179, a72 := Tryd.isAgg179, z72 := Tryd.sizeOf179,
  v72 := Tryd.zeroValue179, t75 := Tryd.underlying182, a75 := Tryd.isAgg182, z75 := Tryd.sizeOf182,
  v75 := Tryd.zeroValue182, t76 := Tryd.underlying183, a76 := Tryd.isAgg183, z76 := Tryd.sizeOf183,
  v76 := Tryd.zeroValue183, t109 := Tryd.underlying174, a109 := Tryd.isAgg174, z109 := Tryd.sizeOf174,
  v109 := Tryd.zeroValue174, t127 := Tryd.underlying212, a127 := Tryd.isAgg212, z127 := Tryd.sizeOf212,
  v127 := Tryd.zeroValue212, t146 := Tryd.underlying208, a146 := Tryd.isAgg208, z146 := Tryd.sizeOf208,
  v146 := Tryd.zeroValue208, t148 := Tryd.underlying210, a148 := Tryd.isAgg210, z148 := Tryd.sizeOf210,
  v148 := Tryd.zeroValue210, t164 := Tryd.underlying221, a164 := Tryd.isAgg221, z164 := Tryd.sizeOf221,
  v164 := Tryd.zeroValue221 }
theorem extraRepeat : Builder.Extra Tryd.prog laysRepeat_ren where
  sizeBuilder := by kernel_rfl
  liesBuilder := by kernel_rfl
  t5 := laysRepeat.t5
  a5 := laysRepeat.a5
  z5 := laysRepeat.z5
  v5 := laysRepeat.v5
  infoByte := by kernel_rfl
  cellsByte := by kernel_rfl
  sizeByte := by kernel_rfl
  neB5 := by decide
theorem repeatS_any (s : ByteArray) (c : Nat) (w : World) (hc : c ≤ 9223372036854775807) (hlen : s.size * c ≤ 140737488355328) :
    Calls Tryd.prog 89 #[.string s, .int .i64 c] w fun e w' => e = .returned (.string ⟨(Lib.repeatL s.data.toList c).toArray⟩) ∧ Below w.heap.size w w' :=
  Any.strings_Repeat laysRepeat extraRepeat s c w hc hlen
theorem hasPrefix_any (s p : ByteArray) (w : World) : Calls Tryd.prog 128 #[.string s, .string p] w fun e w' => e = .returned (.bool (Lib.hasPrefix s.data.toList p.data.toList)) ∧ w' = w :=
  Any.strings_HasPrefix { laysRepeat with } s p w
end Go.Proofs.YtoefmncdloffaaaDoor


namespace Go.Proofs.YtoefmncdloffaaaDoor
open Go.RowKit
def firstS (rec area : Int) : Int := if rec < 0 ∨ 3 < rec ∨ area < 0 ∨ 1 < area then -1 else 8 * (2 * rec + area)
def encB (seq : Int) (c : List UInt8) : List UInt8 := wInt seq ++ wBytes c
def encS (rec seq : Int) (c : List UInt8) : List UInt8 := encB seq c ++ digestS 5 [wInt rec, encB seq c]
def conS (b : List UInt8) : List UInt8 × Nat × Int := getBS (b.drop (getS b).2.1)
def decS (rec : Int) (b : List UInt8) : Int × List UInt8 :=
  if (getS b).2.2 ≠ 0 ∨ (getS b).1 < 1 ∨ 1099511627776 < (getS b).1 then (0, []) else
  if (conS b).2.2 ≠ 0 ∨ 2000 < (conS b).1.length ∨ b.take (encS rec (getS b).1 (conS b).1).length ≠ encS rec (getS b).1 (conS b).1 then (0, []) else ((getS b).1, (conS b).1)
def curS (x y : Int × List UInt8) : (Int × List UInt8) × Nat := if x.1 = 0 ∨ x.1 < y.1 then (y, 1) else (x, 0)
structure StO where
  content : ByteArray
  seq : Int
  err : Int
def loadO (x : Int × List UInt8) : StO := if x.1 = 0 then ⟨noBytes, 0, 13⟩ else ⟨strOf x.2, x.1, 0⟩
def Prg.rd (s : Int) : Prg ByteArray := .ask ⟨3, 0, s, noBytes⟩ fun r => .ret r.bytes
def Prg.wr (s : Int) (b : ByteArray) : Prg Unit := .ask ⟨4, 0, s, b⟩ fun _ => .ret ()
def Prg.sects (f : Int) : Nat → List UInt8 → Prg (List UInt8)
  | 0, b => .ret b
  | n + 1, b => (Prg.rd (f + ((7 - n : Nat) : Int))).bind fun s => Prg.sects f n (b ++ s.data.toList)
def Prg.cur (rec : Int) : Prg ((Int × List UInt8) × Nat) := (Prg.sects (firstS rec 0) 8 []).bind fun a => (Prg.sects (firstS rec 1) 8 []).bind fun b => .ret (curS (decS rec a) (decS rec b))
def Prg.load (rec : Int) : Prg StO := if firstS rec 0 < 0 then .ret ⟨noBytes, 0, 1⟩ else (Prg.cur rec).bind fun p => .ret (loadO p.1)
def secS (b : List UInt8) (k : Nat) : List UInt8 := (b.drop (256 * k)).take 256 ++ List.replicate (256 - ((b.drop (256 * k)).take 256).length) 0
def zeroSec : List UInt8 := List.replicate 256 0
def nsec (b : List UInt8) : Nat := (b.length + 255) / 256
def Prg.wrs (f : Int) (b : List UInt8) : Nat → Nat → Prg Unit
  | 0, _ => .ret ()
  | n + 1, i => (Prg.wr (f + (i : Int)) (strOf (secS b i))).bind fun _ => Prg.wrs f b n (i + 1)
def Prg.write (f : Int) (b : List UInt8) : Prg Unit := (Prg.wr f (strOf zeroSec)).bind fun _ => (Prg.wrs f b (nsec b - 1) 1).bind fun _ => Prg.wr f (strOf (secS b 0))
def Prg.save (rec : Int) (c : ByteArray) : Prg StO := if firstS rec 0 < 0 then .ret ⟨noBytes, 0, 1⟩ else if 2000 < c.size then .ret ⟨noBytes, 0, 19⟩ else
  (Prg.cur rec).bind fun p => if 1099511627776 < p.1.1 + 1 then .ret ⟨noBytes, 0, 19⟩ else (Prg.write (firstS rec (1 - (p.2 : Int))) (encS rec (p.1.1 + 1) c.data.toList)).bind fun _ => .ret ⟨c, p.1.1 + 1, 0⟩
theorem encB_length (seq : Int) (c : List UInt8) : (encB seq c).length = (wInt seq).length + ((wInt (c.length : Int)).length + c.length) := by unfold encB wBytes; simp
theorem encS_length (rec seq : Int) (c : List UInt8) : (encS rec seq c).length = (encB seq c).length + 16 := by unfold encS; rw [List.length_append, digestS_length]
theorem decS_range (rec : Int) (b : List UInt8) : 0 ≤ (decS rec b).1 ∧ (decS rec b).1 ≤ 1099511627776 := by
  unfold decS
  split
  · exact ⟨Int.le_refl _, by decide⟩
  · split
    · exact ⟨Int.le_refl _, by decide⟩
    · rename_i h _
      dsimp only
      omega
theorem decS_len (rec : Int) (b : List UInt8) : (decS rec b).2.length ≤ 2000 := by
  unfold decS
  split
  · simp
  · split
    · simp
    · dsimp only; omega
theorem varint_mono : ∀ (f u v : Nat), u ≤ v → (varint f u).length ≤ (varint f v).length
  | 0, _, _, _ => by simp [varint]
  | f + 1, u, v, h => by
    by_cases hv : v < 128
    · rw [varint_small hv, varint_small (by omega)]; simp
    · rw [varint_big hv]
      by_cases hu : u < 128
      · rw [varint_small hu]; simp
      · rw [varint_big hu, List.length_cons, List.length_cons]
        exact Nat.succ_le_succ (varint_mono f _ _ (Nat.div_le_div_right h))
theorem encS_mono (rec seq : Int) {s c : List UInt8} (h : s.length ≤ c.length) : (encS rec seq s).length ≤ (encS rec seq c).length := by
  have h1 : (wInt (s.length : Int)).length ≤ (wInt (c.length : Int)).length := varint_mono 9 _ _ (by unfold zig; rw [if_pos (by omega), if_pos (by omega)]; omega)
  rw [encS_length, encS_length, encB_length, encB_length]
  omega
theorem decS_enc (rec seq : Int) (c r : List UInt8) (h1 : 1 ≤ seq) (h2 : seq ≤ 1099511627776) (hc : c.length ≤ 2000) : decS rec (encS rec seq c ++ r) = (seq, c) := by
  obtain ⟨d, hd⟩ : ∃ d, digestS 5 [wInt rec, encB seq c] = d := ⟨_, rfl⟩
  have e1 : encS rec seq c ++ r = wInt seq ++ (wBytes c ++ (d ++ r)) := by unfold encS; rw [hd]; unfold encB; simp
  have g : getS (encS rec seq c ++ r) = (seq, (wInt seq).length, 0) := by rw [e1]; exact getS_wInt _ (by omega) (by omega)
  have k : conS (encS rec seq c ++ r) = (c, (wBytes c).length, 0) := by
    unfold conS
    rw [g]
    dsimp only
    rw [e1, List.drop_left]
    exact getBS_wBytes _ _ (by omega)
  unfold decS
  rw [g, k]
  dsimp only
  rw [if_neg (by omega), List.take_left, if_neg (by simp; omega)]
theorem decS_zero (rec : Int) (b : List UInt8) : decS rec (0 :: b) = (0, []) := by
  have h : getS (0 :: b) = (0, 1, 0) := getS_wInt (n := 0) b (by decide) (by decide)
  unfold decS
  rw [h]
  rfl
theorem wInt_last {n : Int} (h1 : -9223372036854775808 ≤ n) (h2 : n < 9223372036854775808) (h0 : n ≠ 0) : (wInt n).getD ((wInt n).length - 1) 0 ≠ 0 := by
  have hp := wInt_pos n h1 h2
  have hz : zig n ≠ 0 := by unfold zig; split <;> omega
  have hn : NzLast (wInt n) := nz_varint 9 _ (by have := zig_lt h1 h2; omega) hz
  exact (nzLast_getD (wInt n) ((wInt n).length - 1) (by omega)).1 hn
theorem getS_torn {v : Int} {r W : List UInt8} {cut n k : Nat} {q : Int} (h1 : -9223372036854775808 ≤ v) (h2 : v < 9223372036854775808) (hp : ∀ i, i < cut → W[i]? = (wInt v ++ r)[i]?) (hz : ∀ i, cut ≤ i → i < n → W[i]? = some 0) (hn : 10 ≤ n) (hg : getS W = (q, k, 0)) :
    (q = v ∧ k = (wInt v).length) ∨ (q = 0 ∧ k = 1) := by
  obtain ⟨g1, g2, g3, g4, g5, g6⟩ := getS_ok hg
  by_cases hk : k ≤ cut
  · left
    have e : (wInt v ++ r).take k = wInt q := by
      rw [← g1]
      apply List.ext_getElem?
      intro i
      rw [List.getElem?_take, List.getElem?_take]
      split
      · exact (hp i (by omega)).symm
      · rfl
    have e2 : wInt v ++ r = wInt q ++ (wInt v ++ r).drop k := by rw [← e, List.take_append_drop]
    have a1 := getS_wInt r h1 h2
    rw [e2, getS_wInt _ g5 g6] at a1
    simp only [Prod.mk.injEq, and_true] at a1
    refine ⟨a1.1, ?_⟩
    have : (W.take k).length = k := by rw [List.length_take]; omega
    rw [g1] at this
    rw [← this, a1.2]
  · right
    have hl : (wInt q).length = k := by rw [← g1, List.length_take]; omega
    have hlast : (wInt q).getD (k - 1) 0 = 0 := by
      rw [← g1, List.getD_eq_getElem?_getD, List.getElem?_take, if_pos (by omega), hz (k - 1) (by omega) (by omega)]
      rfl
    by_cases h0 : q = 0
    · subst h0
      exact ⟨rfl, by rw [← hl]; rfl⟩
    · exact absurd (hl ▸ hlast) (by rw [hl]; have := wInt_last g5 g6 h0; rw [hl] at this; exact this)
theorem decS_torn {rec seq : Int} {c W : List UInt8} {cut : Nat} (h1 : 1 ≤ seq) (h2 : seq ≤ 1099511627776) (hc : c.length ≤ 2000) (hcb : cut ≤ (encS rec seq c).length) (hp : ∀ i, i < cut → W[i]? = (encS rec seq c)[i]?) (hz : ∀ i, cut ≤ i → i < 256 → W[i]? = some 0) :
    decS rec W = (0, []) ∨ ∃ s, decS rec W = (seq, s) ∧ s.length ≤ c.length ∧ W.take (encS rec seq s).length = encS rec seq s := by
  obtain ⟨d, hd⟩ : ∃ d, digestS 5 [wInt rec, encB seq c] = d := ⟨_, rfl⟩
  have e1 : encS rec seq c = wInt seq ++ (wInt (c.length : Int) ++ (c ++ d)) := by unfold encS; rw [hd]; unfold encB wBytes; simp
  have hw1 := wInt_length seq
  have hw2 := wInt_length (c.length : Int)
  by_cases hq : decS rec W = (0, [])
  · exact .inl hq
  right
  unfold decS at hq
  split at hq
  · exact absurd rfl hq
  · rename_i q1
    split at hq
    · exact absurd rfl hq
    · rename_i q2
      obtain ⟨q, k, e, hg⟩ : ∃ q k e, getS W = (q, k, e) := ⟨_, _, _, rfl⟩
      have hq1 := q1
      rw [hg] at q1
      dsimp only at q1
      obtain rfl : e = 0 := by omega
      have hsq : q = seq ∧ k = (wInt seq).length := by
        rcases getS_torn (v := seq) (r := wInt (c.length : Int) ++ (c ++ d)) (W := W) (cut := cut) (n := 256) (by omega) (by omega) (fun i hi => by rw [hp i hi, e1]) hz (by omega) hg with h | h
        · exact h
        · omega
      obtain ⟨rfl, rfl⟩ := hsq
      have hcon : conS W = getBS (W.drop (wInt q).length) := by unfold conS; rw [hg]
      have hle : (conS W).1.length ≤ c.length := by
        by_cases hz2 : (getS (W.drop (wInt q).length)).2.2 = 0
        · obtain ⟨m, j, e, hm⟩ : ∃ m j e, getS (W.drop (wInt q).length) = (m, j, e) := ⟨_, _, _, rfl⟩
          rw [hm] at hz2
          obtain rfl : e = 0 := hz2
          have hmc : m = (c.length : Int) ∨ m = 0 := by
            have hpp : ∀ i, i < cut - (wInt q).length → (W.drop (wInt q).length)[i]? = (wInt (c.length : Int) ++ (c ++ d))[i]? := fun i hi => by
              rw [List.getElem?_drop, hp _ (by omega), e1, List.getElem?_append_right (by omega), show (wInt q).length + i - (wInt q).length = i from by omega]
            rcases getS_torn (v := (c.length : Int)) (r := c ++ d) (W := W.drop (wInt q).length) (cut := cut - (wInt q).length) (n := 256 - (wInt q).length) (by omega) (by omega) hpp (fun i hi hj => by rw [List.getElem?_drop]; exact hz _ (by omega) (by omega)) (by omega) hm with h | h
            · exact .inl h.1
            · exact .inr h.1
          rw [hcon]
          unfold getBS
          rw [hm]
          dsimp only
          rw [if_neg (by simp)]
          split
          · simp
          · split
            · simp
            · rw [List.length_take]; rcases hmc with rfl | rfl <;> omega
        · rw [hcon]
          unfold getBS
          rw [if_pos hz2]
          simp
      refine ⟨(conS W).1, ?_, hle, ?_⟩
      · unfold decS
        rw [if_neg hq1, if_neg q2, hg]
      · rw [hg] at q2
        dsimp only at q2
        by_cases h : W.take (encS rec q (conS W).1).length = encS rec q (conS W).1
        · exact h
        · exact absurd (.inr (.inr h)) q2
end Go.Proofs.YtoefmncdloffaaaDoor


namespace Go.Proofs.YtoefmncdloffaaaDoor
open Go.RowKit
abbrev Fl := List ByteArray
def sec (f : Fl) (s : Int) : List UInt8 := if 0 ≤ s ∧ s < f.length then (f.getD s.toNat noBytes).data.toList else []
def torn (cut : Int) (b old : List UInt8) : List UInt8 := if cut < 0 ∨ (b.length : Int) ≤ cut then b else b.take cut.toNat ++ old.drop cut.toNat
def fwrite (f : Fl) (s : Int) (b : ByteArray) (cut : Int) : Fl := if 0 ≤ s ∧ s < f.length ∧ b.size = 256 then f.set s.toNat (strOf (torn cut b.data.toList (sec f s))) else f
def stepF (cut : Int) (a : Acc) (f : Fl) : Fl := if a.kind = 3 then f else fwrite f a.cell a.bytes cut
def ansF (a : Acc) (f : Fl) : Res := ⟨0, if a.kind = 3 then strOf (sec f a.cell) else noBytes⟩
section
variable {α β : Type}
def outP : Prg α → Fl → α
  | .ret a, _ => a
  | .ask a k, f => outP (k (ansF a f)) (stepF (-1) a f)
def accP : Prg α → Fl → List Acc
  | .ret _, _ => []
  | .ask a k, f => a :: accP (k (ansF a f)) (stepF (-1) a f)
def flP (L : List Acc) (f : Fl) : Fl := L.foldl (fun f a => stepF (-1) a f) f
theorem flP_app (L M : List Acc) (f : Fl) : flP (L ++ M) f = flP M (flP L f) := List.foldl_append ..
theorem accP_bind (p : Prg α) (g : α → Prg β) : ∀ f, accP (p.bind g) f = accP p f ++ accP (g (outP p f)) (flP (accP p f) f) := by
  induction p with
  | ret a => intro f; rfl
  | ask a k ih =>
    intro f
    show a :: accP ((k (ansF a f)).bind g) (stepF (-1) a f) = _
    rw [ih]
    rfl
theorem outP_bind (p : Prg α) (g : α → Prg β) : ∀ f, outP (p.bind g) f = outP (g (outP p f)) (flP (accP p f) f) := by
  induction p with
  | ret a => intro f; rfl
  | ask a k ih =>
    intro f
    show outP ((k (ansF a f)).bind g) (stepF (-1) a f) = _
    rw [ih]
    rfl
def execP (cut bytes : Int) : Prg α → Fl → List Acc → Fl × Option α × List Acc
  | .ret o, f, l => (f, some o, l)
  | .ask a k, f, l => if (l.length : Int) = cut then (stepF (max 0 bytes) a f, none, l ++ [a]) else execP cut bytes (k (ansF a f)) (stepF (-1) a f) (l ++ [a])
theorem execP_eq (cut bytes : Int) (p : Prg α) : ∀ (f : Fl) (l : List Acc), execP cut bytes p f l =
    if h : (l.length : Int) ≤ cut ∧ (cut - l.length).toNat < (accP p f).length then
      (stepF (max 0 bytes) ((accP p f)[(cut - l.length).toNat]'h.2) (flP ((accP p f).take (cut - l.length).toNat) f), none, l ++ (accP p f).take ((cut - l.length).toNat + 1))
    else (flP (accP p f) f, some (outP p f), l ++ accP p f) := by
  induction p with
  | ret a => intro f l; rw [dif_neg (by simp [accP])]; simp [execP, accP, flP, outP]
  | ask a k ih =>
    intro f l
    rw [execP]
    by_cases hc : (l.length : Int) = cut
    · rw [if_pos hc]
      have e0 : (cut - (l.length : Int)).toNat = 0 := by omega
      rw [dif_pos ⟨by omega, by rw [e0]; simp [accP]⟩]
      simp [e0, accP, flP]
    · rw [if_neg hc, ih]
      have hl : ((l ++ [a]).length : Int) = l.length + 1 := by simp
      by_cases h : (((l ++ [a]).length : Nat) : Int) ≤ cut ∧ (cut - ((l ++ [a]).length : Nat)).toNat < (accP (k (ansF a f)) (stepF (-1) a f)).length
      · have e1 : (cut - (l.length : Int)).toNat = (cut - ((l ++ [a]).length : Nat)).toNat + 1 := by omega
        rw [dif_pos h, dif_pos ⟨by omega, by rw [e1]; simp only [accP, List.length_cons]; omega⟩]
        simp only [e1, accP, List.getElem_cons_succ, List.take_succ_cons, flP, List.foldl_cons, List.append_assoc, List.singleton_append]
      · rw [dif_neg h, dif_neg (by
          simp only [accP, List.length_cons]
          omega)]
        simp only [accP, flP, List.foldl_cons, List.append_assoc, List.singleton_append, outP]
end
def restB (f : Fl) (s : Int) : Nat → List UInt8
  | 0 => []
  | n + 1 => sec f (s + ((7 - n : Nat) : Int)) ++ restB f s n
def areaB (f : Fl) (s : Int) : List UInt8 := restB f s 8
def readsL (s : Int) : Nat → List Acc
  | 0 => []
  | n + 1 => ⟨3, 0, s + ((7 - n : Nat) : Int), noBytes⟩ :: readsL s n
theorem readsL_flP (s : Int) : ∀ (n : Nat) (f : Fl), flP (readsL s n) f = f
  | 0, _ => rfl
  | n + 1, f => readsL_flP s n f
theorem sects_P (s : Int) : ∀ (n : Nat) (b : List UInt8) (f : Fl), accP (Prg.sects s n b) f = readsL s n ∧ outP (Prg.sects s n b) f = b ++ restB f s n
  | 0, b, f => ⟨rfl, by simp [Prg.sects, outP, restB]⟩
  | n + 1, b, f => by
    have ih := sects_P s n (b ++ sec f (s + ((7 - n : Nat) : Int))) f
    have e : Prg.sects s (n + 1) b = .ask ⟨3, 0, s + ((7 - n : Nat) : Int), noBytes⟩ fun r => Prg.sects s n (b ++ r.bytes.data.toList) := rfl
    rw [e]
    simp only [accP, outP, stepF, ansF, if_pos, strOf_list]
    rw [ih.1, ih.2]
    exact ⟨rfl, by rw [restB, List.append_assoc]⟩
def Da (f : Fl) (rec k : Int) : Int × List UInt8 := decS rec (areaB f (firstS rec k))
def curF (f : Fl) (rec : Int) : (Int × List UInt8) × Nat := curS (Da f rec 0) (Da f rec 1)
def rdL (rec : Int) : List Acc := readsL (firstS rec 0) 8 ++ readsL (firstS rec 1) 8
theorem cur_P (rec : Int) (f : Fl) : accP (Prg.cur rec) f = rdL rec ∧ outP (Prg.cur rec) f = curF f rec ∧ flP (accP (Prg.cur rec) f) f = f := by
  have h0 := sects_P (firstS rec 0) 8 [] f
  have h1 := sects_P (firstS rec 1) 8 [] f
  have e : accP (Prg.cur rec) f = rdL rec := by
    unfold Prg.cur
    rw [accP_bind, accP_bind, h0.1, readsL_flP, h1.1]
    simp [accP, rdL]
  refine ⟨e, ?_, ?_⟩
  · unfold Prg.cur
    rw [outP_bind, outP_bind, h0.1, readsL_flP, h0.2, h1.2]
    rfl
  · rw [e]
    unfold rdL
    rw [flP_app, readsL_flP, readsL_flP]
theorem rdL_length (rec : Int) : (rdL rec).length = 16 := rfl
def wrsL (s : Int) (b : List UInt8) : Nat → Nat → List Acc
  | 0, _ => []
  | n + 1, i => ⟨4, 0, s + (i : Int), strOf (secS b i)⟩ :: wrsL s b n (i + 1)
def writeL (s : Int) (b : List UInt8) : List Acc := ⟨4, 0, s, strOf zeroSec⟩ :: (wrsL s b (nsec b - 1) 1 ++ [⟨4, 0, s, strOf (secS b 0)⟩])
theorem wrs_P (s : Int) (b : List UInt8) : ∀ (n i : Nat) (f : Fl), accP (Prg.wrs s b n i) f = wrsL s b n i
  | 0, _, _ => rfl
  | n + 1, i, f => by
    have e : Prg.wrs s b (n + 1) i = .ask ⟨4, 0, s + (i : Int), strOf (secS b i)⟩ fun _ => Prg.wrs s b n (i + 1) := rfl
    rw [e, accP, wrs_P s b n (i + 1)]
    rfl
theorem write_P (s : Int) (b : List UInt8) (f : Fl) : accP (Prg.write s b) f = writeL s b := by
  have e : Prg.write s b = .ask ⟨4, 0, s, strOf zeroSec⟩ fun _ => (Prg.wrs s b (nsec b - 1) 1).bind fun _ => Prg.wr s (strOf (secS b 0)) := rfl
  rw [e, accP, accP_bind, wrs_P]
  rfl
theorem wrsL_length (s : Int) (b : List UInt8) : ∀ n i, (wrsL s b n i).length = n
  | 0, _ => rfl
  | n + 1, i => by rw [wrsL, List.length_cons, wrsL_length]
theorem wrsL_at (s : Int) (b : List UInt8) : ∀ (n i j : Nat), j < n → (wrsL s b n i)[j]? = some ⟨4, 0, s + ((i + j : Nat) : Int), strOf (secS b (i + j))⟩
  | 0, _, _, h => by omega
  | n + 1, i, 0, _ => rfl
  | n + 1, i, j + 1, h => by
    rw [wrsL, List.getElem?_cons_succ, wrsL_at s b n (i + 1) j (by omega), show i + 1 + j = i + (j + 1) from by omega]
theorem firstS_ok {rec k : Int} (h1 : 0 ≤ rec) (h2 : rec ≤ 3) (h3 : 0 ≤ k) (h4 : k ≤ 1) : firstS rec k = 8 * (2 * rec + k) := by unfold firstS; rw [if_neg (by omega)]
theorem curS_k (x y : Int × List UInt8) : (curS x y).2 = 0 ∨ (curS x y).2 = 1 := by unfold curS; split <;> simp
theorem save_P {rec : Int} {c : ByteArray} {f : Fl} (h1 : 0 ≤ rec) (h2 : rec ≤ 3) (hc : c.size ≤ 2000) (hs : (curF f rec).1.1 + 1 ≤ 1099511627776) :
    accP (Prg.save rec c) f = rdL rec ++ writeL (firstS rec (1 - ((curF f rec).2 : Int))) (encS rec ((curF f rec).1.1 + 1) c.data.toList) ∧ outP (Prg.save rec c) f = ⟨c, (curF f rec).1.1 + 1, 0⟩ := by
  obtain ⟨q1, q2, q3⟩ := cur_P rec f
  have h0 : ¬ firstS rec 0 < 0 := by rw [firstS_ok h1 h2 (by omega) (by omega)]; omega
  unfold Prg.save
  rw [if_neg h0, if_neg (by omega), accP_bind, outP_bind, q3, q2, q1, if_neg (by omega), accP_bind, outP_bind, write_P]
  simp [accP, outP]
theorem load_P {rec : Int} {f : Fl} (h1 : 0 ≤ rec) (h2 : rec ≤ 3) : accP (Prg.load rec) f = rdL rec ∧ outP (Prg.load rec) f = loadO (curF f rec).1 := by
  obtain ⟨q1, q2, q3⟩ := cur_P rec f
  have h0 : ¬ firstS rec 0 < 0 := by rw [firstS_ok h1 h2 (by omega) (by omega)]; omega
  unfold Prg.load
  rw [if_neg h0, accP_bind, outP_bind, q3, q2, q1]
  simp [accP, outP]
def Sz (f : Fl) : Prop := f.length = 128 ∧ ∀ x ∈ f, x.size = 256
theorem Sz.sec {f : Fl} (h : Sz f) {s : Int} (h1 : 0 ≤ s) (h2 : s < 128) : (sec f s).length = 256 := by
  obtain ⟨k, rfl⟩ : ∃ k : Nat, s = (k : Int) := ⟨s.toNat, by omega⟩
  have hk : k < f.length := by rw [h.1]; omega
  unfold Go.Proofs.YtoefmncdloffaaaDoor.sec
  rw [if_pos (by omega), Int.toNat_natCast, List.getD_eq_getElem?_getD, List.getElem?_eq_getElem hk, Option.getD_some, Array.length_toList]
  exact h.2 _ (List.getElem_mem hk)
theorem torn_length {cut : Int} {b old : List UInt8} (hb : b.length = 256) (ho : old.length = 256) : (torn cut b old).length = 256 := by
  unfold torn
  split
  · exact hb
  · rw [List.length_append, List.length_take, List.length_drop]; omega
theorem fwrite_sz {f : Fl} (h : Sz f) (s : Int) (b : ByteArray) (cut : Int) : Sz (fwrite f s b cut) := by
  unfold fwrite
  split
  · rename_i q
    refine ⟨by rw [List.length_set]; exact h.1, fun x hx => ?_⟩
    rcases List.mem_or_eq_of_mem_set hx with hx | rfl
    · exact h.2 x hx
    · rw [strOf_size]
      exact torn_length (by rw [Array.length_toList]; exact q.2.2) (h.sec q.1 (by have := h.1; omega))
  · exact h
theorem stepF_sz {f : Fl} (h : Sz f) (cut : Int) (a : Acc) : Sz (stepF cut a f) := by
  unfold stepF
  split
  · exact h
  · exact fwrite_sz h _ _ _
theorem flP_sz : ∀ {L : List Acc} {f : Fl}, Sz f → Sz (flP L f)
  | [], _, h => h
  | a :: L, _, h => flP_sz (L := L) (stepF_sz h (-1) a)
theorem sec_fwrite {f : Fl} (h : Sz f) {s : Int} (h1 : 0 ≤ s) (h2 : s < 128) {b : List UInt8} (hb : b.length = 256) (cut t : Int) : sec (fwrite f s (strOf b) cut) t = if t = s then torn cut b (sec f s) else sec f t := by
  have hl := h.1
  unfold fwrite
  rw [if_pos ⟨h1, by omega, by rw [strOf_size]; exact hb⟩, strOf_list]
  by_cases ht : t = s
  · subst ht
    rw [if_pos rfl]
    have e : ∀ x : ByteArray, sec (f.set t.toNat x) t = x.data.toList := fun x => by
      unfold sec
      rw [if_pos (by rw [List.length_set]; omega), List.getD_eq_getElem?_getD, List.getElem?_set_self (by omega), Option.getD_some]
    rw [e, strOf_list]
  · rw [if_neg ht]
    unfold sec
    rw [List.length_set]
    split
    · rw [List.getD_eq_getElem?_getD, List.getElem?_set_ne (by omega), ← List.getD_eq_getElem?_getD]
    · rfl
theorem secS_length (b : List UInt8) (k : Nat) : (secS b k).length = 256 := by unfold secS; rw [List.length_append, List.length_replicate, List.length_take]; omega
theorem secS_at {b : List UInt8} {k j : Nat} (hj : j < 256) (h : 256 * k + j < b.length) : (secS b k)[j]? = b[256 * k + j]? := by
  unfold secS
  rw [List.getElem?_append_left (by rw [List.length_take, List.length_drop]; omega), List.getElem?_take, if_pos hj, List.getElem?_drop]
theorem zero_length : zeroSec.length = 256 := List.length_replicate
theorem zero_at {j : Nat} (hj : j < 256) : zeroSec[j]? = some 0 := by unfold zeroSec; rw [List.getElem?_replicate, if_pos hj]
theorem sec_step {f : Fl} (h : Sz f) {s : Int} (h1 : 0 ≤ s) (h2 : s < 128) {b : List UInt8} (hb : b.length = 256) (t : Int) : sec (stepF (-1) ⟨4, 0, s, strOf b⟩ f) t = if t = s then b else sec f t := by
  have : stepF (-1) ⟨4, 0, s, strOf b⟩ f = fwrite f s (strOf b) (-1) := rfl
  rw [this, sec_fwrite h h1 h2 hb]
  have e : torn (-1) b (sec f s) = b := if_pos (.inl (by decide))
  rw [e]
theorem restB_congr {f g : Fl} {s : Int} : ∀ n, n ≤ 8 → (∀ t, s + ((8 - n : Nat) : Int) ≤ t → t < s + 8 → sec f t = sec g t) → restB f s n = restB g s n
  | 0, _, _ => rfl
  | n + 1, hn, h => by
    rw [restB, restB, h _ (by omega) (by omega), restB_congr n (by omega) (fun t h3 h4 => h t (by omega) h4)]
theorem areaB_congr {f g : Fl} {s : Int} (h : ∀ t, s ≤ t → t < s + 8 → sec f t = sec g t) : areaB f s = areaB g s := restB_congr 8 (Nat.le_refl _) (fun t h1 h2 => h t (by omega) h2)
theorem restB_at {f : Fl} (h : Sz f) {s : Int} (h1 : 0 ≤ s) (h2 : s + 8 ≤ 128) {j : Nat} (hj : j < 256) : ∀ (n i : Nat), n ≤ 8 → i < n → (restB f s n)[256 * i + j]? = (sec f (s + ((8 - n + i : Nat) : Int)))[j]?
  | 0, _, _, hi => by omega
  | n + 1, 0, hn, _ => by
    rw [restB, List.getElem?_append_left (by rw [h.sec (by omega) (by omega)]; omega)]
    rw [show 8 - (n + 1) + 0 = 7 - n from by omega]
    congr 1
    omega
  | n + 1, i + 1, hn, hi => by
    have hl := h.sec (s := s + ((7 - n : Nat) : Int)) (by omega) (by omega)
    rw [restB, List.getElem?_append_right (by rw [hl]; omega), hl, show 256 * (i + 1) + j - 256 = 256 * i + j from by omega, restB_at h h1 h2 hj n i (by omega) (by omega)]
    rw [show 8 - (n + 1) + (i + 1) = 8 - n + i from by omega]
theorem areaB_at {f : Fl} (h : Sz f) {s : Int} (h1 : 0 ≤ s) (h2 : s + 8 ≤ 128) {i j : Nat} (hi : i < 8) (hj : j < 256) : (areaB f s)[256 * i + j]? = (sec f (s + (i : Int)))[j]? := by
  have := restB_at h h1 h2 hj 8 i (Nat.le_refl _) hi
  rw [show 8 - 8 + i = i from by omega] at this
  exact this
theorem wrsL_sec {s : Int} {b : List UInt8} : ∀ (n i : Nat) {f : Fl}, Sz f → 0 ≤ s → s + ((i + n : Nat) : Int) ≤ 128 → ∀ t : Int, sec (flP (wrsL s b n i) f) t = if s + (i : Int) ≤ t ∧ t < s + ((i + n : Nat) : Int) then secS b (t - s).toNat else sec f t
  | 0, i, f, _, _, _, t => by rw [if_neg (by omega)]; rfl
  | n + 1, i, f, h, h1, h2, t => by
    have h3 := wrsL_sec (b := b) n (i + 1) (stepF_sz h (-1) ⟨4, 0, s + (i : Int), strOf (secS b i)⟩) h1 (by omega) t
    rw [wrsL]
    show sec (flP (wrsL s b n (i + 1)) (stepF (-1) ⟨4, 0, s + (i : Int), strOf (secS b i)⟩ f)) t = _
    rw [h3, sec_step h (by omega) (by omega) (secS_length _ _)]
    by_cases ht : t = s + (i : Int)
    · subst ht
      rw [if_neg (by omega), if_pos rfl, if_pos (by omega), show (s + (i : Int) - s).toNat = i from by omega]
    · rw [if_neg ht]
      by_cases h4 : s + (i : Int) ≤ t ∧ t < s + ((i + (n + 1) : Nat) : Int)
      · rw [if_pos h4, if_pos (by omega)]
      · rw [if_neg h4, if_neg (by omega)]
theorem write_take {s : Int} {b : List UInt8} {f : Fl} (h : Sz f) (h1 : 0 ≤ s) (h2 : s + (nsec b : Int) ≤ 128) (hb : 0 < b.length) {m : Nat} (hm : 1 ≤ m) (hm2 : m ≤ nsec b) (t : Int) :
    sec (flP ((writeL s b).take m) f) t = if t = s then zeroSec else if s < t ∧ t < s + (m : Int) then secS b (t - s).toNat else sec f t := by
  have hn : 1 ≤ nsec b := by unfold nsec; omega
  obtain ⟨m, rfl⟩ : ∃ k, m = k + 1 := ⟨m - 1, by omega⟩
  have e1 : (wrsL s b (nsec b - 1) 1 ++ [(⟨4, 0, s, strOf (secS b 0)⟩ : Acc)]).take m = wrsL s b m 1 := by
    apply List.ext_getElem?
    intro j
    rw [List.getElem?_take]
    by_cases hj : j < m
    · rw [if_pos hj, List.getElem?_append_left (by rw [wrsL_length]; omega), wrsL_at _ _ _ _ _ (by omega), wrsL_at _ _ _ _ _ hj]
    · rw [if_neg hj, List.getElem?_eq_none (by rw [wrsL_length]; omega)]
  rw [writeL, List.take_succ_cons, e1]
  show sec (flP (wrsL s b m 1) (stepF (-1) ⟨4, 0, s, strOf zeroSec⟩ f)) t = _
  rw [wrsL_sec m 1 (stepF_sz h _ _) h1 (by omega), sec_step h h1 (by omega) zero_length]
  by_cases ht : t = s
  · subst ht
    rw [if_neg (by omega), if_pos rfl, if_pos rfl]
  · rw [if_neg ht, if_neg ht]
    by_cases h4 : s < t ∧ t < s + ((m + 1 : Nat) : Int)
    · rw [if_pos h4, if_pos (by omega)]
    · rw [if_neg h4, if_neg (by omega)]
theorem writeL_length (s : Int) (b : List UInt8) (hb : 0 < b.length) : (writeL s b).length = nsec b + 1 := by
  have hn : 1 ≤ nsec b := by unfold nsec; omega
  rw [writeL, List.length_cons, List.length_append, wrsL_length, List.length_singleton]
  omega
theorem writeL_last (s : Int) (b : List UInt8) (hb : 0 < b.length) : (writeL s b)[nsec b]? = some ⟨4, 0, s, strOf (secS b 0)⟩ := by
  have hn : 1 ≤ nsec b := by unfold nsec; omega
  obtain ⟨k, hk⟩ : ∃ k, nsec b = k + 1 := ⟨nsec b - 1, by omega⟩
  rw [writeL, hk, List.getElem?_cons_succ, List.getElem?_append_right (by rw [wrsL_length]; omega), wrsL_length]
  simp
theorem writeL_at {s : Int} {b : List UInt8} {m : Nat} (hm : 1 ≤ m) (hm2 : m < nsec b) : (writeL s b)[m]? = some ⟨4, 0, s + (m : Int), strOf (secS b m)⟩ := by
  obtain ⟨k, rfl⟩ : ∃ k, m = k + 1 := ⟨m - 1, by omega⟩
  rw [writeL, List.getElem?_cons_succ, List.getElem?_append_left (by rw [wrsL_length]; omega), wrsL_at _ _ _ _ _ (by omega), show 1 + k = k + 1 from by omega]
end Go.Proofs.YtoefmncdloffaaaDoor


namespace Go.Proofs.YtoefmncdloffaaaDoor
open Go.RowKit
structure Upd where
  rec_ : Int
  content : ByteArray
  cut : Int
  bytes : Int
def zeroO : StO := ⟨noBytes, 0, 0⟩
def putF (f : Fl) (u : Upd) : Fl × StO × Bool × List Acc := match execP u.cut u.bytes (Prg.save u.rec_ u.content) f [] with
  | (f', some o, l) => (f', o, true, l)
  | (f', none, l) => (f', zeroO, false, l)
def getF (f : Fl) (rec : Int) : StO := loadO (curF f rec).1
theorem cur_facts (f : Fl) (rec : Int) : Da f rec ((curF f rec).2 : Int) = (curF f rec).1 ∧ (Da f rec (1 - ((curF f rec).2 : Int))).1 ≤ (curF f rec).1.1 := by
  have r0 := (decS_range rec (areaB f (firstS rec 0))).1
  have r1 := (decS_range rec (areaB f (firstS rec 1))).1
  change 0 ≤ (Da f rec 0).1 at r0
  change 0 ≤ (Da f rec 1).1 at r1
  unfold curF curS
  by_cases h : (Da f rec 0).1 = 0 ∨ (Da f rec 0).1 < (Da f rec 1).1
  · rw [if_pos h]; exact ⟨rfl, by show (Da f rec 0).1 ≤ (Da f rec 1).1; omega⟩
  · rw [if_neg h]; exact ⟨rfl, by show (Da f rec 1).1 ≤ (Da f rec 0).1; omega⟩
theorem cur_range (f : Fl) (rec : Int) : 0 ≤ (curF f rec).1.1 ∧ (curF f rec).1.1 ≤ 1099511627776 := by
  have := decS_range rec (areaB f (firstS rec ((curF f rec).2 : Int)))
  change 0 ≤ (Da f rec _).1 ∧ (Da f rec _).1 ≤ _ at this
  rwa [(cur_facts f rec).1] at this
theorem cur_pos {f : Fl} {rec : Int} (h : (curF f rec).2 = 0) : 0 < (curF f rec).1.1 := by
  have r0 := (decS_range rec (areaB f (firstS rec 0))).1
  change 0 ≤ (Da f rec 0).1 at r0
  unfold curF curS at h ⊢
  by_cases h2 : (Da f rec 0).1 = 0 ∨ (Da f rec 0).1 < (Da f rec 1).1
  · rw [if_pos h2] at h; cases h
  · rw [if_neg h2]; dsimp only; omega
theorem cur_same {f g : Fl} {rec : Int} (h : ∀ k : Int, 0 ≤ k → k ≤ 1 → Da g rec k = Da f rec k) : curF g rec = curF f rec := by unfold curF; rw [h 0 (by omega) (by omega), h 1 (by omega) (by omega)]
theorem cur_bad {f g : Fl} {rec : Int} (h : Da g rec ((curF f rec).2 : Int) = (curF f rec).1) (hb : Da g rec (1 - ((curF f rec).2 : Int)) = (0, [])) : (curF g rec).1 = (curF f rec).1 := by
  rcases curS_k (Da f rec 0) (Da f rec 1) with hk | hk
  · have hk' : (curF f rec).2 = 0 := hk
    have hp := cur_pos hk'
    rw [hk'] at h hb
    have e0 : Da g rec 0 = (curF f rec).1 := h
    have e1 : Da g rec 1 = (0, []) := hb
    conv => lhs; unfold curF
    rw [e0, e1]
    unfold curS
    rw [if_neg (by dsimp only; omega)]
  · have hk' : (curF f rec).2 = 1 := hk
    rw [hk'] at h hb
    have e1 : Da g rec 1 = (curF f rec).1 := h
    have e0 : Da g rec 0 = (0, []) := hb
    conv => lhs; unfold curF
    rw [e0, e1]
    unfold curS
    rw [if_pos (.inl rfl)]
theorem cur_new {f g : Fl} {rec : Int} {x : List UInt8} (h : Da g rec ((curF f rec).2 : Int) = (curF f rec).1) (hb : Da g rec (1 - ((curF f rec).2 : Int)) = ((curF f rec).1.1 + 1, x)) : (curF g rec).1 = ((curF f rec).1.1 + 1, x) := by
  have hr := cur_range f rec
  rcases curS_k (Da f rec 0) (Da f rec 1) with hk | hk
  · have hk' : (curF f rec).2 = 0 := hk
    rw [hk'] at h hb
    have e0 : Da g rec 0 = (curF f rec).1 := h
    have e1 : Da g rec 1 = _ := hb
    conv => lhs; unfold curF
    rw [e0, e1]
    unfold curS
    rw [if_pos (.inr (by dsimp only; omega))]
  · have hk' : (curF f rec).2 = 1 := hk
    rw [hk'] at h hb
    have e1 : Da g rec 1 = (curF f rec).1 := h
    have e0 : Da g rec 0 = _ := hb
    conv => lhs; unfold curF
    rw [e0, e1]
    unfold curS
    rw [if_neg (by dsimp only; omega)]
def newB (f : Fl) (u : Upd) : List UInt8 := encS u.rec_ ((curF f u.rec_).1.1 + 1) u.content.data.toList
def newF (f : Fl) (u : Upd) : Int := firstS u.rec_ (1 - ((curF f u.rec_).2 : Int))
structure Fine (f : Fl) (u : Upd) : Prop where
  sz : Sz f
  r0 : 0 ≤ u.rec_
  r3 : u.rec_ ≤ 3
  c : u.content.size ≤ 2000
  s : (curF f u.rec_).1.1 + 1 ≤ 1099511627776
section
variable {f : Fl} {u : Upd}
theorem Fine.len (h : Fine f u) : 0 < (newB f u).length ∧ (newB f u).length ≤ 2048 := by
  have h1 := wInt_length ((curF f u.rec_).1.1 + 1)
  have h2 := wInt_length (u.content.data.toList.length : Int)
  have h3 : u.content.data.toList.length = u.content.size := Array.length_toList
  have h4 := h.c
  unfold newB
  rw [encS_length, encB_length]
  omega
theorem Fine.first (h : Fine f u) : 0 ≤ newF f u ∧ newF f u + 8 ≤ 64 ∧ newF f u = 16 * u.rec_ + 8 * (1 - ((curF f u.rec_).2 : Int)) := by
  have h1 := h.r0
  have h2 := h.r3
  have hk : (curF f u.rec_).2 = 0 ∨ (curF f u.rec_).2 = 1 := curS_k _ _
  unfold newF
  rw [firstS_ok h1 h2 (by omega) (by omega)]
  omega
theorem Fine.nsec (h : Fine f u) : 1 ≤ nsec (newB f u) ∧ nsec (newB f u) ≤ 8 := by
  have := h.len
  unfold Go.Proofs.YtoefmncdloffaaaDoor.nsec
  omega
theorem put_whole (h : Fine f u) (hc : u.cut < 0 ∨ 17 + (nsec (newB f u) : Int) ≤ u.cut) : putF f u = (flP (writeL (newF f u) (newB f u)) f, ⟨u.content, (curF f u.rec_).1.1 + 1, 0⟩, true, rdL u.rec_ ++ writeL (newF f u) (newB f u)) := by
  obtain ⟨q1, q2⟩ := save_P (c := u.content) h.r0 h.r3 h.c h.s
  have q3 := (cur_P u.rec_ f).2.2
  rw [(cur_P u.rec_ f).1] at q3
  unfold putF
  rw [execP_eq, dif_neg (by
    rw [q1, List.length_append, rdL_length]
    change ¬ (_ ∧ _ < 16 + (writeL (newF f u) (newB f u)).length)
    rw [writeL_length _ _ h.len.1, List.length_nil]
    omega)]
  dsimp only
  rw [q1, q2, flP_app, q3]
  rfl
theorem put_read (h : Fine f u) (h0 : 0 ≤ u.cut) (h1 : u.cut < 16) : putF f u = (f, zeroO, false, (rdL u.rec_).take (u.cut.toNat + 1)) := by
  obtain ⟨q1, q2⟩ := save_P (c := u.content) h.r0 h.r3 h.c h.s
  have hrd : ∀ (s : Int) (n : Nat) (a : Acc), a ∈ readsL s n → a.kind = 3 := by
    intro s n
    induction n with
    | zero => intro a ha; cases ha
    | succ n ih =>
      intro a ha
      rcases List.mem_cons.1 ha with rfl | ha
      · rfl
      · exact ih a ha
  have hall : ∀ a ∈ rdL u.rec_, a.kind = 3 := fun a ha => by
    rcases List.mem_append.1 ha with ha | ha
    · exact hrd _ _ a ha
    · exact hrd _ _ a ha
  have hid : ∀ (L : List Acc) (g : Fl), (∀ a ∈ L, a.kind = 3) → flP L g = g := by
    intro L
    induction L with
    | nil => intro g _; rfl
    | cons a L ih =>
      intro g hL
      show flP L (stepF (-1) a g) = g
      rw [show stepF (-1) a g = g from if_pos (hL a List.mem_cons_self)]
      exact ih g fun b hb => hL b (List.mem_cons_of_mem _ hb)
  have hn : (u.cut - (([] : List Acc).length : Int)).toNat = u.cut.toNat := by simp
  have hlt : u.cut.toNat < (rdL u.rec_).length := by rw [rdL_length]; omega
  unfold putF
  rw [execP_eq, dif_pos ⟨by simpa using h0, by rw [q1, hn, List.length_append]; omega⟩]
  dsimp only
  have ht : (accP (Prg.save u.rec_ u.content) f).take u.cut.toNat = (rdL u.rec_).take u.cut.toNat := by rw [q1, List.take_append_of_le_length (by omega)]
  have ht1 : (accP (Prg.save u.rec_ u.content) f).take (u.cut.toNat + 1) = (rdL u.rec_).take (u.cut.toNat + 1) := by rw [q1, List.take_append_of_le_length (by omega)]
  have hg : (accP (Prg.save u.rec_ u.content) f)[(u.cut - (([] : List Acc).length : Int)).toNat]? = (rdL u.rec_)[u.cut.toNat]? := by rw [hn, q1, List.getElem?_append_left hlt]
  rw [List.nil_append]
  rw [List.getElem?_eq_getElem (by rw [hn, q1, List.length_append]; omega), List.getElem?_eq_getElem hlt] at hg
  rw [Option.some.inj hg]
  simp only [hn]
  rw [ht, ht1, hid _ f (fun a ha => hall a (List.mem_of_mem_take ha))]
  rw [show stepF (max 0 u.bytes) (rdL u.rec_)[u.cut.toNat] f = f from if_pos (hall _ (List.getElem_mem hlt))]
theorem put_write (h : Fine f u) {j : Nat} (hc : u.cut = 16 + (j : Int)) (hj : j ≤ nsec (newB f u)) (a : Acc) (ha : (writeL (newF f u) (newB f u))[j]? = some a) :
    putF f u = (stepF (max 0 u.bytes) a (flP ((writeL (newF f u) (newB f u)).take j) f), zeroO, false, rdL u.rec_ ++ (writeL (newF f u) (newB f u)).take (j + 1)) := by
  obtain ⟨q1, q2⟩ := save_P (c := u.content) h.r0 h.r3 h.c h.s
  change accP (Prg.save u.rec_ u.content) f = rdL u.rec_ ++ writeL (newF f u) (newB f u) at q1
  have q3 := (cur_P u.rec_ f).2.2
  rw [(cur_P u.rec_ f).1] at q3
  have hn : (u.cut - (([] : List Acc).length : Int)).toNat = 16 + j := by simp; omega
  have hlen : (accP (Prg.save u.rec_ u.content) f).length = 16 + (nsec (newB f u) + 1) := by rw [q1, List.length_append, rdL_length, writeL_length _ _ h.len.1]
  unfold putF
  rw [execP_eq, dif_pos ⟨by simp; omega, by rw [hn, hlen]; omega⟩]
  dsimp only
  have hg : (accP (Prg.save u.rec_ u.content) f)[(u.cut - (([] : List Acc).length : Int)).toNat]? = some a := by
    rw [hn, q1, List.getElem?_append_right (by rw [rdL_length]; omega), rdL_length, show 16 + j - 16 = j from by omega]
    exact ha
  rw [List.getElem?_eq_getElem (by rw [hn, hlen]; omega)] at hg
  rw [Option.some.inj hg, List.nil_append]
  simp only [hn]
  have ht : ∀ m, (accP (Prg.save u.rec_ u.content) f).take (16 + m) = rdL u.rec_ ++ (writeL (newF f u) (newB f u)).take m := fun m => by
    rw [q1, List.take_append, rdL_length, show 16 + m - 16 = m from by omega, List.take_of_length_le (by rw [rdL_length]; omega)]
  rw [ht j, show 16 + j + 1 = 16 + (j + 1) from by omega, ht (j + 1), flP_app, q3]
theorem write_far (h : Fine f u) {j : Nat} (hj : j ≤ nsec (newB f u)) (a : Acc) (ha : (writeL (newF f u) (newB f u))[j]? = some a) (cut : Int) : Sz (stepF cut a (flP ((writeL (newF f u) (newB f u)).take j) f)) ∧
    ∀ t, (t < newF f u ∨ newF f u + 8 ≤ t) → sec (stepF cut a (flP ((writeL (newF f u) (newB f u)).take j) f)) t = sec f t := by
  have hl := h.len
  have hf := h.first
  have hs := h.nsec
  have hz : Sz (flP ((writeL (newF f u) (newB f u)).take j) f) := flP_sz h.sz
  refine ⟨stepF_sz hz _ _, fun t ht => ?_⟩
  have hb : ∃ (m : Nat) (b : List UInt8), m < 8 ∧ b.length = 256 ∧ a = ⟨4, 0, newF f u + (m : Int), strOf b⟩ := by
    rcases Nat.eq_zero_or_pos j with rfl | hp
    · rw [writeL, List.getElem?_cons_zero] at ha
      cases ha
      exact ⟨0, zeroSec, by omega, zero_length, by simp⟩
    · rcases Nat.lt_or_eq_of_le hj with hlt | rfl
      · rw [writeL_at hp hlt] at ha
        cases ha
        exact ⟨j, _, by omega, secS_length _ _, rfl⟩
      · rw [writeL_last _ _ hl.1] at ha
        cases ha
        exact ⟨0, secS (newB f u) 0, by omega, secS_length _ _, by simp⟩
  obtain ⟨m, b, hm, hbl, rfl⟩ := hb
  have e : stepF cut ⟨4, 0, newF f u + (m : Int), strOf b⟩ (flP ((writeL (newF f u) (newB f u)).take j) f) = fwrite (flP ((writeL (newF f u) (newB f u)).take j) f) (newF f u + (m : Int)) (strOf b) cut := rfl
  rw [e, sec_fwrite hz (by omega) (by omega) hbl, if_neg (by omega)]
  rcases Nat.eq_zero_or_pos j with rfl | hp
  · rfl
  · rw [write_take h.sz hf.1 (by omega) hl.1 hp hj, if_neg (by omega), if_neg (by omega)]
theorem whole_eq (h : Fine f u) : flP (writeL (newF f u) (newB f u)) f = stepF (-1) ⟨4, 0, newF f u, strOf (secS (newB f u) 0)⟩ (flP ((writeL (newF f u) (newB f u)).take (nsec (newB f u))) f) := by
  have hl := h.len
  have e : writeL (newF f u) (newB f u) = (writeL (newF f u) (newB f u)).take (nsec (newB f u)) ++ [⟨4, 0, newF f u, strOf (secS (newB f u) 0)⟩] := by
    apply List.ext_getElem?
    intro i
    rcases Nat.lt_trichotomy i (nsec (newB f u)) with hi | rfl | hi
    · rw [List.getElem?_append_left (by rw [List.length_take, writeL_length _ _ hl.1]; omega), List.getElem?_take, if_pos hi]
    · rw [writeL_last _ _ hl.1, List.getElem?_append_right (by rw [List.length_take]; omega), List.length_take, writeL_length _ _ hl.1, Nat.min_eq_left (by omega), Nat.sub_self]
      rfl
    · rw [List.getElem?_eq_none (by rw [writeL_length _ _ hl.1]; omega), List.getElem?_eq_none (by rw [List.length_append, List.length_take, writeL_length _ _ hl.1, List.length_singleton]; omega)]
  conv => lhs; rw [e, flP_app]
  rfl
theorem last_at (h : Fine f u) (cut : Int) (i : Nat) : let W := areaB (stepF cut ⟨4, 0, newF f u, strOf (secS (newB f u) 0)⟩ (flP ((writeL (newF f u) (newB f u)).take (nsec (newB f u))) f)) (newF f u)
    (i < (newB f u).length → (cut < 0 ∨ 256 ≤ cut ∨ (i : Int) < cut ∨ 256 ≤ i) → W[i]? = (newB f u)[i]?) ∧ (0 ≤ cut → cut < 256 → cut ≤ i → i < 256 → W[i]? = some 0) := by
  intro W
  have hl := h.len
  have hf := h.first
  have hs := h.nsec
  have hz : Sz (flP ((writeL (newF f u) (newB f u)).take (nsec (newB f u))) f) := flP_sz h.sz
  have hz2 := stepF_sz hz cut ⟨4, 0, newF f u, strOf (secS (newB f u) 0)⟩
  have hsec : ∀ t, sec (stepF cut ⟨4, 0, newF f u, strOf (secS (newB f u) 0)⟩ (flP ((writeL (newF f u) (newB f u)).take (nsec (newB f u))) f)) t = if t = newF f u then torn cut (secS (newB f u) 0) zeroSec else if newF f u < t ∧ t < newF f u + (nsec (newB f u) : Int) then secS (newB f u) (t - newF f u).toNat else sec f t := fun t => by
    have e : stepF cut ⟨4, 0, newF f u, strOf (secS (newB f u) 0)⟩ (flP ((writeL (newF f u) (newB f u)).take (nsec (newB f u))) f) = fwrite (flP ((writeL (newF f u) (newB f u)).take (nsec (newB f u))) f) (newF f u) (strOf (secS (newB f u) 0)) cut := rfl
    rw [e, sec_fwrite hz hf.1 (by omega) (secS_length _ _)]
    have w := fun t => write_take h.sz hf.1 (b := newB f u) (by omega) hl.1 hs.1 (Nat.le_refl _) t
    rw [w t, w (newF f u), if_pos rfl]
    split
    · rfl
    · rfl
  have hat : i < 2048 → W[i]? = (sec (stepF cut ⟨4, 0, newF f u, strOf (secS (newB f u) 0)⟩ (flP ((writeL (newF f u) (newB f u)).take (nsec (newB f u))) f)) (newF f u + ((i / 256 : Nat) : Int)))[i % 256]? := fun hi => by
    have := areaB_at hz2 hf.1 (by omega) (i := i / 256) (j := i % 256) (by omega) (by omega)
    rw [show 256 * (i / 256) + i % 256 = i from by omega] at this
    exact this
  refine ⟨fun hi hcut => ?_, fun c0 c1 c2 c3 => ?_⟩
  · rw [hat (by omega), hsec]
    by_cases h0 : i < 256
    · rw [if_pos (by omega), show i % 256 = i from by omega]
      unfold torn
      by_cases hc : cut < 0 ∨ ((secS (newB f u) 0).length : Int) ≤ cut
      · rw [if_pos hc, secS_at h0 (by omega), Nat.mul_zero, Nat.zero_add]
      · rw [if_neg hc]
        rw [secS_length] at hc
        rw [List.getElem?_append_left (by rw [List.length_take, secS_length]; omega), List.getElem?_take, if_pos (by omega), secS_at h0 (by omega), Nat.mul_zero, Nat.zero_add]
    · rw [if_neg (by omega), if_pos (by unfold nsec; omega), show (newF f u + ((i / 256 : Nat) : Int) - newF f u).toNat = i / 256 from by omega, secS_at (by omega) (by omega), show 256 * (i / 256) + i % 256 = i from by omega]
  · rw [hat (by omega), hsec, if_pos (by omega), show i % 256 = i from by omega]
    unfold torn
    rw [if_neg (by rw [secS_length]; omega), List.getElem?_append_right (by rw [List.length_take, secS_length]; omega), List.length_take, secS_length, List.getElem?_drop, zero_at (by omega)]
inductive Left8 (f : Fl) (u : Upd) (x : Int × List UInt8) : Prop
  | old (h : x = Da f u.rec_ (1 - ((curF f u.rec_).2 : Int)))
  | bad (h : x = (0, []))
  | new (h : x = ((curF f u.rec_).1.1 + 1, u.content.data.toList))
  | odd (s : List UInt8) (h : x = ((curF f u.rec_).1.1 + 1, s)) (hl : s.length ≤ 2000) (hc : ∀ i, i < (encS u.rec_ ((curF f u.rec_).1.1 + 1) s).length → (encS u.rec_ ((curF f u.rec_).1.1 + 1) s)[i]? = some 0 ∨ (i < (newB f u).length ∧ (encS u.rec_ ((curF f u.rec_).1.1 + 1) s)[i]? = (newB f u)[i]?))
theorem whole_dec (h : Fine f u) {cut : Int} (hc : cut < 0 ∨ 256 ≤ cut) : decS u.rec_ (areaB (stepF cut ⟨4, 0, newF f u, strOf (secS (newB f u) 0)⟩ (flP ((writeL (newF f u) (newB f u)).take (nsec (newB f u))) f)) (newF f u)) = ((curF f u.rec_).1.1 + 1, u.content.data.toList) := by
  have hr := cur_range f u.rec_
  have hb := last_at h cut
  obtain ⟨W, hW⟩ : ∃ W, areaB (stepF cut ⟨4, 0, newF f u, strOf (secS (newB f u) 0)⟩ (flP ((writeL (newF f u) (newB f u)).take (nsec (newB f u))) f)) (newF f u) = W := ⟨_, rfl⟩
  rw [hW] at hb ⊢
  have e : W = newB f u ++ W.drop (newB f u).length := by
    have : W.take (newB f u).length = newB f u := by
      apply List.ext_getElem?
      intro i
      rw [List.getElem?_take]
      split
      · rename_i hi; exact (hb i).1 hi (by omega)
      · rw [List.getElem?_eq_none (by omega)]
    conv => lhs; rw [← List.take_append_drop (newB f u).length W, this]
  rw [e]
  exact decS_enc _ _ _ _ (by omega) h.s (by rw [Array.length_toList]; exact h.c)
theorem zero_dec {g : Fl} (hz : Sz g) {s : Int} (h1 : 0 ≤ s) (h2 : s + 8 ≤ 128) (h : (sec g s)[0]? = some 0) (rec : Int) : decS rec (areaB g s) = (0, []) := by
  have h0 := areaB_at hz h1 h2 (i := 0) (j := 0) (by omega) (by omega)
  rw [show s + ((0 : Nat) : Int) = s from by omega, h] at h0
  cases hw : areaB g s with
  | nil => rw [hw] at h0; cases h0
  | cons b l =>
    rw [hw] at h0
    cases h0
    exact decS_zero _ _
theorem write_left (h : Fine f u) {j : Nat} (hj : j ≤ nsec (newB f u)) (a : Acc) (ha : (writeL (newF f u) (newB f u))[j]? = some a) {cut : Int} (h0 : 0 ≤ cut) : Left8 f u (Da (stepF cut a (flP ((writeL (newF f u) (newB f u)).take j) f)) u.rec_ (1 - ((curF f u.rec_).2 : Int))) := by
  have hl := h.len
  have hf := h.first
  have hs := h.nsec
  have hr := cur_range f u.rec_
  have hz : Sz (flP ((writeL (newF f u) (newB f u)).take j) f) := flP_sz h.sz
  have hD : ∀ g, Da g u.rec_ (1 - ((curF f u.rec_).2 : Int)) = decS u.rec_ (areaB g (newF f u)) := fun g => rfl
  rw [hD]
  rcases Nat.eq_zero_or_pos j with rfl | hp
  · rw [writeL, List.getElem?_cons_zero] at ha
    cases ha
    have e : stepF cut ⟨4, 0, newF f u, strOf zeroSec⟩ (flP ((writeL (newF f u) (newB f u)).take 0) f) = fwrite f (newF f u) (strOf zeroSec) cut := rfl
    have hsec := sec_fwrite h.sz hf.1 (by omega) (b := zeroSec) zero_length cut
    rw [e]
    by_cases hc : cut = 0
    · subst hc
      refine .old ?_
      rw [hD]
      congr 1
      refine areaB_congr fun t h3 h4 => ?_
      rw [hsec]
      split
      · rename_i ht
        subst ht
        unfold torn
        rw [if_neg (by rw [zero_length]; decide)]
        simp
      · rfl
    · refine .bad (zero_dec (fwrite_sz h.sz _ _ _) hf.1 (by omega) ?_ _)
      rw [hsec, if_pos rfl]
      unfold torn
      split
      · exact zero_at (by omega)
      · rename_i hc2
        have : zeroSec.length = 256 := zero_length
        rw [List.getElem?_append_left (by rw [List.length_take]; omega), List.getElem?_take, if_pos (by omega)]
        exact zero_at (by omega)
  · rcases Nat.lt_or_eq_of_le hj with hlt | rfl
    · rw [writeL_at hp hlt] at ha
      cases ha
      refine .bad (zero_dec (stepF_sz hz _ _) hf.1 (by omega) ?_ _)
      have e : stepF cut ⟨4, 0, newF f u + (j : Int), strOf (secS (newB f u) j)⟩ (flP ((writeL (newF f u) (newB f u)).take j) f) = fwrite (flP ((writeL (newF f u) (newB f u)).take j) f) (newF f u + (j : Int)) (strOf (secS (newB f u) j)) cut := rfl
      rw [e, sec_fwrite hz (by omega) (by omega) (secS_length _ _), if_neg (by omega), write_take h.sz hf.1 (by omega) hl.1 hp hj, if_pos rfl]
      exact zero_at (by omega)
    · rw [writeL_last _ _ hl.1] at ha
      cases ha
      by_cases hc : 256 ≤ cut
      · exact .new (whole_dec h (.inr hc))
      · by_cases hcb : cut.toNat ≤ (newB f u).length
        · have hb := last_at h cut
          obtain ⟨W, hW⟩ : ∃ W, areaB (stepF cut ⟨4, 0, newF f u, strOf (secS (newB f u) 0)⟩ (flP ((writeL (newF f u) (newB f u)).take (nsec (newB f u))) f)) (newF f u) = W := ⟨_, rfl⟩
          rw [hW] at hb ⊢
          rcases decS_torn (rec := u.rec_) (seq := (curF f u.rec_).1.1 + 1) (c := u.content.data.toList) (W := W) (cut := cut.toNat) (by omega) h.s (by rw [Array.length_toList]; exact h.c) hcb (fun i hi => (hb i).1 (by omega) (by omega)) (fun i hi hi2 => (hb i).2 h0 (by omega) (by omega) hi2) with hd | ⟨s, hd, hsl, hw⟩
          · exact .bad hd
          · have hle : (encS u.rec_ ((curF f u.rec_).1.1 + 1) s).length ≤ (newB f u).length := encS_mono _ _ hsl
            refine .odd s hd (by have := h.c; rw [Array.length_toList] at hsl; change s.length ≤ u.content.size at hsl; omega) fun i hi => ?_
            have hwi : (encS u.rec_ ((curF f u.rec_).1.1 + 1) s)[i]? = W[i]? := by rw [← hw, List.getElem?_take, if_pos hi]
            rw [hwi]
            by_cases hi2 : (i : Int) < cut ∨ 256 ≤ i
            · exact .inr ⟨by omega, (hb i).1 (by omega) (by omega)⟩
            · exact .inl ((hb i).2 h0 (by omega) (by omega) (by omega))
        · refine .new ?_
          have hb := last_at h cut
          obtain ⟨W, hW⟩ : ∃ W, areaB (stepF cut ⟨4, 0, newF f u, strOf (secS (newB f u) 0)⟩ (flP ((writeL (newF f u) (newB f u)).take (nsec (newB f u))) f)) (newF f u) = W := ⟨_, rfl⟩
          rw [hW] at hb ⊢
          have e : W = newB f u ++ W.drop (newB f u).length := by
            have : W.take (newB f u).length = newB f u := by
              apply List.ext_getElem?
              intro i
              rw [List.getElem?_take]
              split
              · rename_i hi; exact (hb i).1 hi (by omega)
              · rw [List.getElem?_eq_none (by omega)]
            conv => lhs; rw [← List.take_append_drop (newB f u).length W, this]
          rw [e]
          exact decS_enc _ _ _ _ (by omega) h.s (by rw [Array.length_toList]; exact h.c)
end
end Go.Proofs.YtoefmncdloffaaaDoor
