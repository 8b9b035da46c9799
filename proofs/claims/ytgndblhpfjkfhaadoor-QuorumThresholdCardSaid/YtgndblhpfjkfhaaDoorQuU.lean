/-
  The laws QuorumCheck and QuorumThreshold.
-/
import Derived.Test.YtgndblhpfjkfhaaDoorQbR
namespace Go.Proofs.YtgndblhpfjkfhaaDoor.Pv
open Go.RowKit

set_option maxRecDepth 100000 in
set_option maxHeartbeats 1000000 in
theorem qcheck_law (s : R4) (hs : R4Ok s) (m : List UInt8) (l : List Sgd) : FunOk Tryd.prog ShaMem 7 true [r4PV s, .w (.agg [.bs 16 m]), pv1 (.sl 4 l.length (sgdF l))] (pvB true) := by
  have M := qu7M
  refine funOk_of Tryd.func7 rfl rfl sha_ext (fun A hS hn hI => ?_)
  refine tri_reg M hI hn (outs := ?_) (s' := ?_) ?_ ?_ ?_ ?_
  rotate_left 2
  · rfl
  · kernel_rfl
  · simp
  refine tri_reg M hI hn (outs := ?_) (s' := ?_) ?_ ?_ ?_ ?_
  rotate_left 2
  · rfl
  · kernel_rfl
  · simp
  refine tri_seq ?_
  refine tri_reg M hI hn (outs := ?_) (s' := ?_) ?_ ?_ ?_ ?_
  rotate_left 2
  · rfl
  · kernel_rfl
  · simp
  refine tri_cond (b := ?_) ?_ (fun hc => ?_) (fun hc => ?_)
  rotate_left 1
  · rfl
  · refine tri_reg M hI hn (outs := ?_) (s' := ?_) ?_ ?_ ?_ ?_
    rotate_left 2
    · rfl
    · kernel_rfl
    · simp
    refine tri_ret (fun a w hg => ⟨.inr rfl, _, ?_, hg⟩)
    refine retTo_cold (out := ?_) ?_ ?_ ?_ ?_ ?_
    rotate_left 1
    · rfl
    · simp
    · rfl
    · rfl
    rfl
  · refine tri_skip ?_
    change Tri _ _ _ _ _
    have hfew : fewS l = true := by
      rw [rowSgd_sgdF] at hc
      cases h : fewS l with
      | true => rfl
      | false => rw [h] at hc; simp at hc
    have hf : fewP l := by
      unfold fewS at hfew
      rw [Bool.and_eq_true] at hfew
      have h8 := of_decide_eq_true hfew.1
      refine ⟨by omega, fun x hx => ?_⟩
      obtain ⟨i, hi, rfl⟩ := List.getElem_of_mem hx
      have := of_decide_eq_true (all_range.1 hfew.2 i hi)
      rw [List.getD_eq_getElem?_getD, List.getElem?_eq_getElem hi] at this
      have := this.2
      simp only [Option.getD_some] at this
      omega
    refine tri_reg M hI hn (outs := ?_) (s' := ?_) ?_ ?_ ?_ ?_
    rotate_left 2
    · rfl
    · kernel_rfl
    · simp
      exact ⟨⟨hs.a, hs.b, hs.c⟩, hf⟩
    refine tri_ret (fun a w hg => ⟨.inr rfl, _, ?_, hg⟩)
    refine retTo_cold (out := ?_) ?_ ?_ ?_ ?_ ?_
    rotate_left 1
    · rfl
    · simp
    · rfl
    · rfl
    change pvB _ = pvB true
    refine congrArg pvB ?_
    simp
def thK (n q h : Nat) : R4 := ⟨0, q, h, keysS n h⟩
def thA (needed mask n h : Nat) (m : List UInt8) : St := ⟨[(1, none, lit1 (.int .u8 needed)), (2, none, lit1 (.int .u8 mask)), (8, none, pv1 (.pt 0 0 0)), (11, none, pvB true), (12, none, pvI n), (13, none, pvI h)], [(0, none, 0, .box 23 [.bs 16 m])]⟩
def thB (mask n h q : Nat) (m : List UInt8) : St := ⟨[(2, none, lit1 (.int .u8 mask)), (8, none, pv1 (.pt 0 0 0)), (11, none, pvB true), (12, none, pvI n), (13, none, pvI h), (14, none, pv1 (.pt 4010 0 0))], [(0, none, 0, .box 23 [.bs 16 m]), (4010, none, 0, .box 54 (r4L (thK n q h)))]⟩
def thC (mask n h q : Nat) (m : List UInt8) : St := ⟨[(2, none, lit1 (.int .u8 mask)), (8, none, pv1 (.pt 0 0 0)), (11, none, pvB true), (12, none, pvI n), (13, none, pvI h), (14, none, pv1 (.pt 4010 0 0)), (15, none, pv1 (.sl 4 (sgnsS n h mask h m).length (sgdF (sgnsS n h mask h m))))], [(0, none, 0, .box 23 [.bs 16 m]), (4010, none, 0, .box 54 (r4L (thK n q h)))]⟩
set_option maxRecDepth 100000 in
set_option maxHeartbeats 1000000 in
theorem qthres_law (makers needed mask height : Nat) (m : List UInt8) (h1 : makers ≤ 255) (h2 : needed ≤ 255) (h3 : mask ≤ 255) (h4 : height ≤ 255) : FunOk Tryd.prog ShaMem 8 true [lit1 (.int .u8 makers), lit1 (.int .u8 needed), lit1 (.int .u8 mask), .w (.agg [.bs 16 m]), lit1 (.int .u8 height)] (pvB true) := by
  have M := qu7M
  have wm := wrap255 makers (by omega)
  have wn := wrap255 needed (by omega)
  have wk := wrap255 mask (by omega)
  have wh := wrap255 height (by omega)
  have e5 : (makers : Int).tmod 5 = ((makers % 5 : Nat) : Int) := rfl
  have e2 : (height : Int).tmod 2 = ((height % 2 : Nat) : Int) := rfl
  have e1 : IntKind.i64.wrap (1 + ((makers % 5 : Nat) : Int)) = ((1 + makers % 5 : Nat) : Int) := by rw [show (1 : Int) + ((makers % 5 : Nat) : Int) = ((1 + makers % 5 : Nat) : Int) by omega]; exact wrap255 _ (by omega)
  obtain ⟨n, hN⟩ : ∃ n, 1 + makers % 5 = n := ⟨_, rfl⟩
  obtain ⟨h, hH⟩ : ∃ h, height % 2 = h := ⟨_, rfl⟩
  have hn1 : 1 ≤ n ∧ n ≤ 5 := by omega
  have hh1 : h ≤ 1 := by omega
  have hih : h < 2 ^ h := by
    have : h = 0 ∨ h = 1 := by omega
    rcases this with rfl | rfl <;> decide
  rw [hN] at e1
  rw [hH] at e2
  obtain ⟨q, hQ⟩ : ∃ q, 1 + needed % n = q := ⟨_, rfl⟩
  have hlq : needed % n < n := Nat.mod_lt _ (by omega)
  have eq1 : IntKind.i64.wrap (1 + (needed : Int).tmod n) = (q : Int) := by
    rw [show (needed : Int).tmod n = ((needed % n : Nat) : Int) from rfl, show (1 : Int) + ((needed % n : Nat) : Int) = (q : Int) by omega]
    exact wrap255 _ (by omega)
  refine funOk_of Tryd.func8 rfl rfl sha_ext (fun A hS hn hI => ?_)
  refine tri_reg M hI hn (outs := ?_) (s' := ?_) ?_ ?_ ?_ ?_
  rotate_left 2
  · rfl
  · kernel_rfl
  · simp
  refine tri_reg M hI hn (outs := ?_) (s' := ?_) ?_ ?_ ?_ ?_
  rotate_left 2
  · rfl
  · kernel_rfl
  · simp
  refine tri_reg M hI hn (outs := ?_) (s' := ?_) ?_ ?_ ?_ ?_
  rotate_left 2
  · rfl
  · kernel_rfl
  · simp
  refine tri_reg M hI hn (outs := ?_) (s' := ?_) ?_ ?_ ?_ ?_
  rotate_left 2
  · rfl
  · kernel_rfl
  · simp
  refine tri_conv (s' := thA needed mask n h m) (fun a w hg => (hg.reset (kT := [1, 2, 8, 11, 12, 13]) (kO := [0]) (by rfl) (by simp)).same ?_ ?_) ?_
  · exact .cons rfl (.cons rfl (.cons rfl (.cons rfl (.cons (by rw [wm, e5, e1]) (.cons (by rw [wh, e2]) .nil)))))
  · exact .cons (.box rfl) .nil
  refine tri_reg M hI hn (outs := ?_) (s' := ?_) ?_ ?_ ?_ ?_
  rotate_left 2
  · rfl
  · kernel_rfl
  · simp
    omega
  refine tri_conv (s' := thB mask n h q m) (fun a w hg => (hg.resetF (kF := [4008]) (kT := [2, 8, 11, 12, 13, 14]) (kO := [0, 4010]) (.inr hS) (by rfl) ?_).same ?_ ?_) ?_
  · simp only [All, and_true, List.append_nil, List.nil_append]
    exact fun i _ => rfl
  · exact .cons rfl (.cons rfl (.cons rfl (.cons rfl (.cons rfl (.cons rfl .nil)))))
  · refine .cons (.box rfl) (.cons (.box ?_) .nil)
    simp only [Nat.zero_add, Int.toNat_natCast]
    rw [wn, eq1]
    unfold thK r4L
    simp only [keysS_len]
  refine tri_reg M hI hn (outs := ?_) (s' := ?_) ?_ ?_ ?_ ?_
  rotate_left 2
  · rfl
  · kernel_rfl
  · simp
    omega
  refine tri_conv (s' := thC mask n h q m) (fun a w hg => (hg.resetF (kF := [5006]) (kT := [2, 8, 11, 12, 13, 14, 15]) (kO := [0, 4010]) (.inr hS) (by rfl) ?_).same ?_ ?_) ?_
  · simp only [All, and_true, List.append_nil, List.nil_append]
    exact fun i _ => rfl
  · refine .cons rfl (.cons rfl (.cons rfl (.cons rfl (.cons rfl (.cons rfl (.cons ?_ .nil))))))
    simp only [Nat.zero_add, Int.toNat_natCast, wk]
  · exact .cons (.box rfl) (.cons (.box rfl) .nil)
  have hvK : ksValid (thK n q h) = true := by
    refine decide_eq_true ?_
    unfold thK
    simp
    omega
  have hrK : R4Ok (thK n q h) := ⟨by unfold thK i64P; dsimp only; omega, by unfold thK i64P; dsimp only; omega, by unfold thK i64P; dsimp only; omega, keysS_16 n h⟩
  have hck := check_signs (s := thK n q h) (n := n) (h := h) (mask := (mask : Int)) (ix := h) (m := m) hvK rfl rfl (by omega) hih
  have hfw := sgns_few (n := n) (h := h) (ix := h) (mask := (mask : Int)) (m := m) (by omega) (by omega) hih
  rw [sgns_count n mask] at hck
  have hbq : (thK n q h).b = (q : Int) := rfl
  rw [hbq] at hck
  refine tri_reg M hI hn (outs := ?_) (s' := ?_) ?_ ?_ ?_ ?_
  rotate_left 2
  · rfl
  · kernel_rfl
  · simp
  refine tri_seq ?_
  refine tri_reg M hI hn (outs := ?_) (s' := ?_) ?_ ?_ ?_ ?_
  rotate_left 2
  · rfl
  · kernel_rfl
  · simp
    rw [wk]
    omega
  refine tri_cond (b := ?_) ?_ (fun hc => ?_) (fun hc => ?_)
  rotate_left 1
  · rfl
  · have hge : (cntP mask n : Int) ≥ q := by
      rw [wk, hbq] at hc
      simpa only [Int.toNat_natCast, decide_eq_true_eq] using hc
    have hz : checkS ⟨(thK n q h).a, (thK n q h).b, (thK n q h).c, (thK n q h).l⟩ m (sgnsS n h mask h m) = 0 := hck.trans (if_neg (by omega))
    refine tri_region M hI hn (outs := ?_) (s' := ?_) ?_ ?_ ?_ ?_
    rotate_left 2
    · rfl
    · kernel_rfl
    · simp
    change Tri _ _ _ _ _
    refine tri_reg M hI hn (outs := ?_) (s' := ?_) ?_ ?_ ?_ ?_
    rotate_left 2
    · rfl
    · kernel_rfl
    · simp
      exact ⟨⟨hrK.a, hrK.b, hrK.c⟩, hfw⟩
    refine tri_ret (fun a w hg => ⟨.inr rfl, _, ?_, hg⟩)
    refine retTo_cold (out := ?_) ?_ ?_ ?_ ?_ ?_
    rotate_left 1
    · rfl
    · simp
    · rfl
    · rfl
    change pvB _ = pvB true
    rw [rowD_digF, rowSgd_sgdF, hz]
    rfl
  · have hlt : ¬ (cntP mask n : Int) ≥ q := by
      rw [wk, hbq] at hc
      simpa only [Int.toNat_natCast, decide_eq_false_iff_not] using hc
    have hz : checkS ⟨(thK n q h).a, (thK n q h).b, (thK n q h).c, (thK n q h).l⟩ m (sgnsS n h mask h m) = 10 := hck.trans (if_pos (by omega))
    refine tri_skip ?_
    change Tri _ _ _ _ _
    refine tri_reg M hI hn (outs := ?_) (s' := ?_) ?_ ?_ ?_ ?_
    rotate_left 2
    · rfl
    · kernel_rfl
    · simp
      exact ⟨⟨hrK.a, hrK.b, hrK.c⟩, hfw⟩
    refine tri_ret (fun a w hg => ⟨.inr rfl, _, ?_, hg⟩)
    refine retTo_cold (out := ?_) ?_ ?_ ?_ ?_ ?_
    rotate_left 1
    · rfl
    · simp
    · rfl
    · rfl
    change pvB _ = pvB true
    rw [rowD_digF, rowSgd_sgdF, hz]
    rfl

end Go.Proofs.YtgndblhpfjkfhaaDoor.Pv
