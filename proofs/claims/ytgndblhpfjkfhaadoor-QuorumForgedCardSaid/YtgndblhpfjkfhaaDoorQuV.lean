/-
  The law QuorumForged.
-/
import Derived.Test.YtgndblhpfjkfhaaDoorQbR
namespace Go.Proofs.YtgndblhpfjkfhaaDoor.Pv
open Go.RowKit

def fgK : R4 := ⟨0, 1, 0, keysS 5 0⟩
def fgA (at' : Nat) (what : Bool) (m o : List UInt8) (L : List Sgd) : St := ⟨[(1, none, lit1 (.int .u8 at')), (4, none, pvB what), (7, none, pv1 (.pt 0 0 0)), (8, none, pv1 (.pt 1 0 0)), (11, none, pvB true), (12, none, pv1 (.pt 2002 0 0)), (13, none, pv1 (.ow 3003 0 4 0 L.length))],
  [(0, none, 0, .box 23 [.bs 16 m]), (1, none, 0, .box 23 [.bs 16 o]), (2002, none, 0, .box 54 (r4L fgK)), (3003, none, 0, .arr 75 4 L.length (sgdF L))]⟩
def fgB (k : Nat) (what : Bool) (m o : List UInt8) (L : List Sgd) : St := ⟨[(4, none, pvB what), (7, none, pv1 (.pt 0 0 0)), (8, none, pv1 (.pt 1 0 0)), (11, none, pvB true), (12, none, pv1 (.pt 2002 0 0)), (13, none, pv1 (.ow 3003 0 4 0 L.length)), (14, none, pvI k)],
  [(0, none, 0, .box 23 [.bs 16 m]), (1, none, 0, .box 23 [.bs 16 o]), (2002, none, 0, .box 54 (r4L fgK)), (3003, none, 0, .arr 75 4 L.length (sgdF L))]⟩
def fgC (k : Nat) (m : List UInt8) (L : List Sgd) : St := ⟨[(7, none, pv1 (.pt 0 0 0)), (11, none, pvB true), (12, none, pv1 (.pt 2002 0 0)), (13, none, pv1 (.ow 3003 0 4 0 L.length)), (14, none, pvI k)],
  [(0, none, 0, .box 23 [.bs 16 m]), (2002, none, 0, .box 54 (r4L fgK)), (3003, none, 0, .arr 75 4 L.length (sgdF L))]⟩
theorem getD_set_eq {α : Type} {l : List α} {k : Nat} (hk : k < l.length) (x d : α) : (l.set k x).getD k d = x := by
  rw [List.getD_eq_getElem?_getD, List.getElem?_set_self hk]; rfl
theorem sgdF_set {l : List Sgd} {k : Nat} (hk : k < l.length) (x : Sgd) (i : Nat) : sgdF (l.set k x) i = if i = k then sgdPC x else sgdF l i := by
  unfold sgdF
  by_cases h : i = k
  · subst h
    rw [if_pos rfl, getD_set_eq hk]
  · rw [if_neg h, List.getD_eq_getElem?_getD, List.getElem?_set_ne (Ne.symm h), ← List.getD_eq_getElem?_getD]
theorem check_zero {s : R4} {m : List UInt8} {l : List Sgd} (h : checkS s m l = 0) : ∀ k, k < l.length → sgStep s m l k = true := by
  unfold checkS at h
  split at h
  · split at h
    · split at h
      · rename_i h3
        exact all_range.1 h3
      · cases h
    · cases h
  · cases h
set_option maxRecDepth 100000 in
set_option maxHeartbeats 1000000 in
theorem qforged_law (mask at' : Nat) (m o : List UInt8) (what : Bool) (h1 : mask ≤ 255) (h2 : at' ≤ 255) : FunOk Tryd.prog ShaMem 11 true [lit1 (.int .u8 mask), lit1 (.int .u8 at'), .w (.agg [.bs 16 m]), .w (.agg [.bs 16 o]), pvB what] (pvB true) := by
  have M := qu7M
  have wk := wrap255 mask (by omega)
  have wa := wrap255 at' (by omega)
  refine funOk_of Tryd.func11 rfl rfl sha_ext (fun A hS hn hI => ?_)
  refine tri_reg M hI hn (outs := ?_) (s' := ?_) ?_ ?_ ?_ ?_
  rotate_left 2
  · rfl
  · kernel_rfl
  · simp
  refine tri_reg M hI hn (outs := ?_) (s' := ?_) ?_ ?_ ?_ ?_
  rotate_left 2
  · rfl
  · kernel_rfl
  · simp
  refine tri_reg M hI hn (outs := ?_) (s' := ?_) ?_ ?_ ?_ ?_
  rotate_left 2
  · rfl
  · kernel_rfl
  · simp
  refine tri_reg M hI hn (outs := ?_) (s' := ?_) ?_ ?_ ?_ ?_
  rotate_left 2
  · rfl
  · kernel_rfl
  · simp
  refine tri_conv (s' := fgA at' what m o (sgnsS 5 0 mask 0 m)) (fun a w hg => (hg.resetF (kF := [2000]) (kT := [1, 4, 7, 8, 11, 12, 13]) (kO := [0, 1, 2002, 3003]) (.inr hS) (by rfl) ?_).same ?_ ?_) ?_
  · simp only [All, and_true, List.append_nil, List.nil_append, List.cons_append]
    exact ⟨fun i _ => rfl, fun i _ => rfl⟩
  · refine .cons rfl (.cons rfl (.cons rfl (.cons rfl (.cons rfl (.cons rfl (.cons ?_ .nil))))))
    rw [wk]
    rfl
  · refine .cons (.box rfl) (.cons (.box rfl) (.cons (.box ?_) (.cons (.arr ?_ (fun i hi => ?_)) .nil)))
    · simp only [Nat.zero_add]
      rfl
    · rw [wk]; rfl
    · rw [wk]; rfl
  have hfw := sgns_few (n := 5) (h := 0) (ix := 0) (mask := (mask : Int)) (m := m) (by omega) (by omega) (by omega)
  have hmem : ∀ x ∈ sgnsS 5 0 mask 0 m, 0 ≤ x.maker ∧ x.maker < 5 := fun x hx => by
    obtain ⟨i, h3, _, rfl⟩ := sgns_mem hx
    show 0 ≤ (i : Int) ∧ (i : Int) < 5
    omega
  have hLl := sgnsS_len 5 0 mask 0 m
  have hvK : ksValid fgK = true := by decide
  have hrK : R4Ok fgK := ⟨by unfold fgK i64P; dsimp only; omega, by unfold fgK i64P; dsimp only; omega, by unfold fgK i64P; dsimp only; omega, keysS_16 5 0⟩
  have hKl : fgK.l.length = 5 := keysS_len 5 0
  have hKb : fgK.c = 0 := rfl
  rw [show (((0 : Nat) : Int)) = 0 from rfl] at hfw
  generalize sgnsS 5 0 mask 0 m = L at *
  refine tri_seq ?_
  refine tri_reg M hI hn (outs := ?_) (s' := ?_) ?_ ?_ ?_ ?_
  rotate_left 2
  · rfl
  · kernel_rfl
  · simp
  refine tri_cond (b := ?_) ?_ (fun hc => ?_) (fun hc => ?_)
  rotate_left 1
  · rfl
  · refine tri_reg M hI hn (outs := ?_) (s' := ?_) ?_ ?_ ?_ ?_
    rotate_left 2
    · rfl
    · kernel_rfl
    · simp
    refine tri_ret (fun a w hg => ⟨.inr rfl, _, ?_, hg⟩)
    refine retTo_cold (out := ?_) ?_ ?_ ?_ ?_ ?_
    rotate_left 1
    · rfl
    · simp
    · rfl
    · rfl
    rfl
  · have hL0 : 0 < L.length := by
      rcases Nat.eq_zero_or_pos L.length with h | h
      · rw [h] at hc; simp at hc
      · exact h
    refine tri_skip ?_
    change Tri _ _ _ _ _
    refine tri_reg M hI hn (outs := ?_) (s' := ?_) ?_ ?_ ?_ ?_
    rotate_left 2
    · rfl
    · kernel_rfl
    · simp
      exact List.ne_nil_of_length_pos hL0
    obtain ⟨k, hK⟩ : ∃ k, at' % L.length = k := ⟨_, rfl⟩
    have hk : k < L.length := by rw [← hK]; exact Nat.mod_lt _ hL0
    have hmk := hmem _ (getD_mem hk default)
    have hpk := hfw.2 _ (getD_mem hk default)
    refine tri_conv (s' := fgB k what m o L) (fun a w hg => (hg.reset (kT := [4, 7, 8, 11, 12, 13, 14]) (kO := [0, 1, 2002, 3003]) (by rfl) ?_).same ?_ ?_) ?_
    · simp only [All, and_true, List.append_nil, List.nil_append]
      exact fun i _ => rfl
    · refine .cons rfl (.cons rfl (.cons rfl (.cons rfl (.cons rfl (.cons rfl (.cons ?_ .nil))))))
      rw [wa, ← hK]
      rfl
    · exact .cons (.box rfl) (.cons (.box rfl) (.cons (.box rfl) (.cons (.arr rfl (fun i hi => rfl)) .nil)))
    refine tri_seq ?_
    refine tri_reg M hI hn (outs := ?_) (s' := ?_) ?_ ?_ ?_ ?_
    rotate_left 2
    · rfl
    · kernel_rfl
    · simp
    refine tri_cond (b := ?_) ?_ (fun hc => ?_) (fun hc => ?_)
    rotate_left 1
    · rfl
    · refine tri_reg M hI hn (outs := ?_) (s' := ?_) ?_ ?_ ?_ ?_
      rotate_left 2
      · rfl
      · kernel_rfl
      · simp
        exact hk
      refine tri_seq ?_
      refine tri_reg M hI hn (outs := ?_) (s' := ?_) ?_ ?_ ?_ ?_
      rotate_left 2
      · rfl
      · kernel_rfl
      · simp
      refine tri_cond (b := ?_) ?_ (fun hc => ?_) (fun hc => ?_)
      rotate_left 1
      · rfl
      · exact absurd hc Bool.false_ne_true
      · refine tri_skip ?_
        change Tri _ _ _ _ _
        refine tri_region M hI hn (outs := ?_) (s' := ?_) ?_ ?_ ?_ ?_
        rotate_left 2
        · rfl
        · kernel_rfl
        · simp
          exact hk
        change Tri _ _ _ _ _
        obtain ⟨L', hL'⟩ : ∃ L', L.set k ⟨(L.getD k default).maker, (sgnT (seedS (L.getD k default).maker) 0 0 o).1⟩ = L' := ⟨_, rfl⟩
        have hlen : L'.length = L.length := by rw [← hL', List.length_set]
        have hat : L'.getD k default = ⟨(L.getD k default).maker, (sgnT (seedS (L.getD k default).maker) 0 0 o).1⟩ := by rw [← hL']; exact getD_set_eq hk _ _
        refine tri_conv (s' := fgC k m L') (fun a w hg => (hg.reset (kT := [7, 11, 12, 13, 14]) (kO := [0, 2002, 3003]) (by rfl) ?_).same ?_ ?_) ?_
        · simp only [All, and_true, List.append_nil, List.nil_append]
          intro i hi
          split
          · rfl
          · rfl
        · exact .cons rfl (.cons rfl (.cons rfl (.cons (by rw [hlen]) (.cons rfl .nil))))
        · refine .cons (.box rfl) (.cons (.box rfl) (.cons (.arr hlen.symm (fun i hi => ?_)) .nil))
          rw [← hL', sgdF_set hk]
          simp only [Nat.zero_add, Int.toNat_natCast]
          split
          · rfl
          · rfl
        have hmk' : 0 ≤ (L'.getD k default).maker ∧ (L'.getD k default).maker < 5 := by rw [hat]; exact hmk
        have hf' : fewP L' := ⟨by rw [hlen]; exact hfw.1, fun x hx => by
          rw [← hL'] at hx
          rcases List.mem_or_eq_of_mem_set hx with h | h
          · exact hfw.2 x h
          · rw [h]; exact sgn_path (h := 0) (ix := 0) (by omega) (by omega) _ _⟩
        have hk' : k < L'.length := by omega
        refine tri_reg M hI hn (outs := ?_) (s' := ?_) ?_ ?_ ?_ ?_
        rotate_left 2
        · rfl
        · kernel_rfl
        · simp
          have hp' := hf'.2 _ (getD_mem hk' default)
          simp only [List.getD_eq_getElem?_getD] at hmk' hp'
          rw [hKl]
          exact ⟨hk', hmk', hk', hp'⟩
        refine tri_reg M hI hn (outs := ?_) (s' := ?_) ?_ ?_ ?_ ?_
        rotate_left 2
        · rfl
        · kernel_rfl
        · simp
          exact ⟨fun i _ => all_cold rfl, ⟨hrK.a, hrK.b, hrK.c⟩, hf'⟩
        refine tri_ret (fun a w hg => ⟨.inr rfl, _, ?_, hg⟩)
        refine retTo_cold (out := ?_) ?_ ?_ ?_ ?_ ?_
        rotate_left 1
        · rfl
        · simp
        · rfl
        · rfl
        change pvB _ = pvB true
        rw [rowD_digF]
        simp only [Nat.zero_add, Int.toNat_natCast]
        rw [rowSgd_sgdF, rowD_digF, rowD_digF]
        refine congrArg pvB ?_
        have hz : checkS ⟨fgK.a, fgK.b, fgK.c, fgK.l⟩ m L' = checkS fgK m L' := rfl
        rw [hz]
        by_cases h0 : checkS fgK m L' = 0
        · have hs := check_zero h0 k hk'
          have hs2 : verS (fgK.l.getD (L'.getD k default).maker.toNat []) 0 m ⟨(L'.getD k default).sig.index, (L'.getD k default).sig.chain, (L'.getD k default).sig.path⟩ = true := hs
          rw [h0, hs2]
          rfl
        · have hne : (checkS fgK m L' != 0) = true := by simpa using h0
          rw [hne]
          rfl
    · refine tri_reg M hI hn (outs := ?_) (s' := ?_) ?_ ?_ ?_ ?_
      rotate_left 2
      · rfl
      · kernel_rfl
      · simp
        exact hk
      obtain ⟨L', hL'⟩ : ∃ L', L.set k ⟨(L.getD k default).maker + 1, (L.getD k default).sig⟩ = L' := ⟨_, rfl⟩
      have hlen : L'.length = L.length := by rw [← hL', List.length_set]
      have hat : L'.getD k default = ⟨(L.getD k default).maker + 1, (L.getD k default).sig⟩ := by rw [← hL']; exact getD_set_eq hk _ _
      have hwr : IntKind.i64.wrap ((L.getD k default).maker + 1) = (L.getD k default).maker + 1 := by rw [IntKind.wrap_i64]; omega
      refine tri_conv (s' := fgC k m L') (fun a w hg => (hg.reset (kT := [7, 11, 12, 13, 14]) (kO := [0, 2002, 3003]) (by rfl) ?_).same ?_ ?_) ?_
      · simp only [All, and_true, List.append_nil, List.nil_append]
        intro i hi
        split
        · rfl
        · rfl
      · exact .cons rfl (.cons rfl (.cons rfl (.cons (by rw [hlen]) (.cons rfl .nil))))
      · refine .cons (.box rfl) (.cons (.box rfl) (.cons (.arr hlen.symm (fun i hi => ?_)) .nil))
        rw [← hL', sgdF_set hk]
        simp only [Nat.zero_add, Int.toNat_natCast]
        rw [hwr]
        split
        · rfl
        · rfl
      have hf' : fewP L' := ⟨by rw [hlen]; exact hfw.1, fun x hx => by
        rw [← hL'] at hx
        rcases List.mem_or_eq_of_mem_set hx with h | h
        · exact hfw.2 x h
        · rw [h]; exact hpk⟩
      have hk' : k < L'.length := by omega
      refine tri_reg M hI hn (outs := ?_) (s' := ?_) ?_ ?_ ?_ ?_
      rotate_left 2
      · rfl
      · kernel_rfl
      · simp
        exact hk'
      refine tri_cond (b := ?_) ?_ (fun hc => ?_) (fun hc => ?_)
      rotate_left 1
      · rfl
      · have hbig : (L'.getD k default).maker > 4 := by
          have : decide ((L'.getD k default).maker > 4) = true := by simpa only [Nat.zero_add, Int.toNat_natCast] using hc
          exact of_decide_eq_true this
        have hbad : checkS fgK m L' = 1 := by
          unfold checkS
          rw [if_pos hvK, if_neg (show ¬ mksOk fgK.l.length L' = true from not_all hk' (decide_eq_false (by rw [hKl]; omega)))]
        refine tri_reg M hI hn (outs := ?_) (s' := ?_) ?_ ?_ ?_ ?_
        rotate_left 2
        · rfl
        · kernel_rfl
        · simp
          exact ⟨fun i _ => all_cold rfl, ⟨hrK.a, hrK.b, hrK.c⟩, hf'⟩
        refine tri_ret (fun a w hg => ⟨.inr rfl, _, ?_, hg⟩)
        refine retTo_cold (out := ?_) ?_ ?_ ?_ ?_ ?_
        rotate_left 1
        · rfl
        · simp
        · rfl
        · rfl
        change pvB _ = pvB true
        rw [rowD_digF]
        simp only [Nat.zero_add]
        rw [rowSgd_sgdF]
        have hz : checkS ⟨fgK.a, fgK.b, fgK.c, fgK.l⟩ m L' = 1 := hbad
        rw [hz]
        rfl
      · have hmk' : 0 ≤ (L'.getD k default).maker ∧ (L'.getD k default).maker < 5 := by
          have : decide ((L'.getD k default).maker > 4) = false := by simpa only [Nat.zero_add, Int.toNat_natCast] using hc
          have h5 := of_decide_eq_false this
          have h6 : (L'.getD k default).maker = (L.getD k default).maker + 1 := by rw [hat]
          omega
        refine tri_skip ?_
        change Tri _ _ _ _ _
        have hk' : k < L'.length := by omega
        refine tri_reg M hI hn (outs := ?_) (s' := ?_) ?_ ?_ ?_ ?_
        rotate_left 2
        · rfl
        · kernel_rfl
        · simp
          have hp' := hf'.2 _ (getD_mem hk' default)
          simp only [List.getD_eq_getElem?_getD] at hmk' hp'
          rw [hKl]
          exact ⟨hk', hmk', hk', hp'⟩
        refine tri_reg M hI hn (outs := ?_) (s' := ?_) ?_ ?_ ?_ ?_
        rotate_left 2
        · rfl
        · kernel_rfl
        · simp
          exact ⟨fun i _ => all_cold rfl, ⟨hrK.a, hrK.b, hrK.c⟩, hf'⟩
        refine tri_ret (fun a w hg => ⟨.inr rfl, _, ?_, hg⟩)
        refine retTo_cold (out := ?_) ?_ ?_ ?_ ?_ ?_
        rotate_left 1
        · rfl
        · simp
        · rfl
        · rfl
        change pvB _ = pvB true
        rw [rowD_digF]
        simp only [Nat.zero_add, Int.toNat_natCast]
        rw [rowSgd_sgdF, rowD_digF, rowD_digF]
        refine congrArg pvB ?_
        have hz : checkS ⟨fgK.a, fgK.b, fgK.c, fgK.l⟩ m L' = checkS fgK m L' := rfl
        rw [hz]
        by_cases h0 : checkS fgK m L' = 0
        · have hs := check_zero h0 k hk'
          have hs2 : verS (fgK.l.getD (L'.getD k default).maker.toNat []) 0 m ⟨(L'.getD k default).sig.index, (L'.getD k default).sig.chain, (L'.getD k default).sig.path⟩ = true := hs
          rw [h0, hs2]
          rfl
        · have hne : (checkS fgK m L' != 0) = true := by simpa using h0
          rw [hne]
          rfl

end Go.Proofs.YtgndblhpfjkfhaaDoor.Pv
