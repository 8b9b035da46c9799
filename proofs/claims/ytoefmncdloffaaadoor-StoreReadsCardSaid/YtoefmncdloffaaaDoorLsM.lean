
import Derived.Test.YtoefmncdloffaaaDoorLsL
namespace Go.Proofs.YtoefmncdloffaaaDoor.Pv
open Go.RowKit
def lsL7 : List (Nat × Spec) := (39, spLim) :: (32, spSan) :: lsL4
theorem ls7_ok : ∀ p ∈ lsL7, SpecOk Tryd.prog ShaMem p.1 p.2 := by
  intro p hp
  simp only [lsL7, List.mem_cons] at hp
  rcases hp with rfl | rfl | hp
  · exact lim_ok
  · exact san_ok
  · exact ls4_ok p (by simpa only [List.mem_cons] using hp)
theorem ls7M : Mach Tryd.prog ShaMem (find lsL7) := ⟨specs_of ls7_ok, mixed_⟩
def srT (s : Int) (b : List UInt8) (q : Int) : List (Nat × Option Bool × PV) := [(2, none, lit1 (.int .u8 s)), (3, none, pv1 (.sl 1 b.length (byF b))), (9, none, pvI q), (10, none, pv1 (.pt 4004 0 0))]
def srSt (l : List Upd) (s : Int) (b : List UInt8) (q : Int) (f : Fl) (k : Nat) : St := ⟨(38, none, pv1 (.sl 4 l.length (updF l))) :: (39, none, pvI (l.length : Int)) :: (40, none, pvI (k : Int)) :: srT s b q, [(4004, none, 0, .box 72 (flPC f))]⟩
def sr2St (s : Int) (b : List UInt8) (q z : Int) (f : Fl) (o : StO) : St := ⟨(14, none, pv1 (.pt 13006 0 0)) :: (15, none, pvI 16) :: (16, none, pvI z) :: (17, none, pv1 (.pt 15001 0 0)) :: srT s b q, [(4004, none, 0, .box 72 (flPC f)), (13006, none, 0, .box 61 (stoPC o)), (15001, none, 0, .box 72 (flPC f))]⟩
def sr3St (q : Int) (g : Fl) (o : StO) : St := ⟨[(9, none, pvI q), (14, none, pv1 (.pt 13006 0 0)), (15, none, pvI 16), (17, none, pv1 (.pt 15001 0 0))], [(13006, none, 0, .box 61 (stoPC o)), (15001, none, 0, .box 72 (flPC g))]⟩
def catR (b : List UInt8) (m : Int) : List UInt8 := rowB (0 + b.length + (zStr m.toNat).size) (appF (0 + b.length) (appF 0 (fun i => [].getD i []) (byF b)) (byF (zStr m.toNat).data.toList))
theorem catR_length (b : List UInt8) (m : Int) : (catR b m).length = b.length + m.toNat := by
  unfold catR rowB
  rw [List.length_map, List.length_range, zStr_size, Nat.zero_add]
set_option maxRecDepth 100000 in
set_option maxHeartbeats 4000000 in
theorem law_reads (l : List Upd) (hl : l.length ≤ 9223372036854775807) (r s : Int) (hr0 : 0 ≤ r) (hr1 : r ≤ 255) (hs0 : 0 ≤ s) (hs1 : s ≤ 255) (b : List UInt8) : FunOk Tryd.prog ShaMem 11 true [pv1 (.sl 4 l.length (updF l)), lit1 (.int .u8 r), lit1 (.int .u8 s), pv1 (.sl 1 b.length (byF b))] (pvB true) := by
  have M := ls7M
  refine funOk_of Tryd.func11 rfl rfl sha_ext (fun A1 hS hn hI => ?_)
  refine tri_reg M hI hn (outs := ?_) (s' := ?_) ?_ ?_ ?_ ?_
  rotate_left 2
  · rfl
  · kernel_rfl
  · simp
  refine tri_seq ?_
  refine tri_reg M hI hn (outs := ?_) (s' := ?_) ?_ ?_ ?_ ?_
  rotate_left 2
  · rfl
  · kernel_rfl
  · simp
    exact hl
  rw [rowUpd_updF]
  refine tri_cond (b := ?_) ?_ (fun hc => ?_) (fun hc => ?_)
  rotate_left 1
  · rfl
  · refine tri_reg M hI hn (outs := ?_) (s' := ?_) ?_ ?_ ?_ ?_
    rotate_left 2
    · rfl
    · kernel_rfl
    · simp
    refine tri_ret (fun a w hg => ⟨.inr rfl, _, ?_, hg⟩)
    refine retTo_cold (out := ?_) ?_ ?_ ?_ ?_ ?_
    rotate_left 1
    · rfl
    · simp
    · rfl
    · rfl
    rfl
  · have h : limS l = true ∧ b.length ≤ 256 := by
      have hc2 : (bif !limS l then true else decide ((b.length : Int) > 256)) = false := hc
      cases hm : limS l with
      | false => rw [hm] at hc2; cases hc2
      | true =>
        rw [hm] at hc2
        have hc3 : decide ((b.length : Int) > 256) = false := hc2
        have := of_decide_eq_false hc3
        exact ⟨rfl, by omega⟩
    obtain ⟨hlm, hb⟩ := h
    obtain ⟨hcs, hln⟩ := lim_facts hlm
    have hup := fun k (hk : k ≤ l.length) => upto_take hcs hln k hk
    refine tri_skip ?_
    change Tri _ _ _ _ _
    refine tri_reg M hI hn (outs := ?_) (s' := ?_) ?_ ?_ ?_ ?_
    rotate_left 2
    · rfl
    · kernel_rfl
    · simp
    refine tri_reg M hI hn (outs := ?_) (s' := ?_) ?_ ?_ ?_ ?_
    rotate_left 2
    · rfl
    · kernel_rfl
    · simp
    refine tri_seq ?_
    refine tri_reg M hI hn (outs := ?_) (s' := ?_) ?_ ?_ ?_ ?_
    rotate_left 2
    · rfl
    · kernel_rfl
    · simp
    refine tri_cond (b := ?_) ?_ (fun hc => ?_) (fun hc => ?_)
    rotate_left 1
    · rfl
    · cases hc
    refine tri_skip ?_
    change Tri _ _ _ _ _
    refine tri_seq ?_
    refine tri_reg M hI hn (outs := ?_) (s' := ?_) ?_ ?_ ?_ ?_
    rotate_left 2
    · rfl
    · kernel_rfl
    · simp
    refine tri_block ?_
    refine tri_conv (s' := srSt l s b (r.tmod 4) (updsF (l.take 0) zeroFl) 0) (fun a w hg => (hg.reset (kT := [38, 39, 40, 2, 3, 9, 10]) (kO := [4004]) (by rfl) (by simp)).same ?_ ?_) ?_
    · refine .cons rfl (.cons rfl (.cons rfl (.cons rfl (.cons rfl (.cons ?_ (.cons rfl .nil))))))
      change pvI ((IntKind.i64.wrap r).tmod 4) = _
      rw [show IntKind.i64.wrap r = r from by rw [IntKind.wrap_i64]; omega]
    · exact .cons (.box rfl) .nil
    refine tri_loop l.length (fun k t => t = srSt l s b (r.tmod 4) (updsF (l.take k) zeroFl) k) 0 rfl (by omega) (fun k t hJ hk => ?_)
    subst hJ
    refine tri_reg M hI hn (outs := ?_) (s' := ?_) ?_ ?_ ?_ ?_
    rotate_left 2
    · rfl
    · kernel_rfl
    · simp
    refine tri_seq ?_
    refine tri_cond (b := ?_) ?_ (fun hc => ?_) (fun hc => ?_)
    rotate_left 1
    · rfl
    · have hk2 : k < l.length := by have := of_decide_eq_true hc; omega
      have hupk := hup k hk
      have hx : l.getD k ⟨0, noBytes, 0, 0⟩ = l[k] := by rw [List.getD_eq_getElem?_getD, List.getElem?_eq_getElem hk2]; rfl
      have hnx : updsF (l.take (k + 1)) zeroFl = (putF (updsF (l.take k) zeroFl) (nrm l[k])).1 := by
        rw [List.take_add_one, List.getElem?_eq_getElem hk2]
        exact updsF_snoc _ _ _
      have hfine : Fine (updsF (l.take k) zeroFl) (nrm l[k]) := upto_fine hupk (by omega) (hcs _ (List.getElem_mem hk2))
      generalize updsF (l.take k) zeroFl = f at hupk hnx hfine ⊢
      refine tri_skip ?_
      change Tri _ _ _ _ _
      refine tri_seq ?_
      refine tri_block ?_
      refine tri_reg M hI hn (outs := ?_) (s' := ?_) ?_ ?_ ?_ ?_
      rotate_left 2
      · rfl
      · kernel_rfl
      · simp
        omega
      refine tri_reg M hI hn (outs := ?_) (s' := ?_) ?_ ?_ ?_ ?_
      rotate_left 2
      · rfl
      · kernel_rfl
      · simp
      refine tri_region M hI hn (outs := ?_) (s' := ?_) ?_ ?_ ?_ ?_
      rotate_left 2
      · rfl
      · kernel_rfl
      · simp
        rw [show l[k]?.getD ⟨0, noBytes, 0, 0⟩ = l[k] from by rw [List.getElem?_eq_getElem hk2]; rfl]
        exact hfine
      change Tri _ _ _ _ _
      refine tri_region M hI hn (outs := ?_) (s' := ?_) ?_ ?_ ?_ ?_
      rotate_left 2
      · rfl
      · kernel_rfl
      · simp
      intro a w hg
      refine ⟨k + 1, _, by omega, by omega, rfl, (hg.reset (kT := [38, 39, 40, 2, 3, 9, 10]) (kO := [4004]) (by rfl) (by simp)).same ?_ ?_⟩
      · exact .cons rfl (.cons rfl (.cons (by rw [wrap_nat k (by omega)]) (.cons rfl (.cons rfl (.cons rfl (.cons rfl .nil))))))
      · refine .cons (.box ?_) .nil
        rw [hnx]
        change flPC (putF (fsRow f.length (fsF f)) (nrm (l.getD k ⟨0, noBytes, 0, 0⟩))).1 = _
        rw [fsRow_fsF, hx]
    · have hk2 : k = l.length := by have := of_decide_eq_false hc; omega
      subst hk2
      have hupk := (hup _ hk).sz
      generalize updsF (l.take l.length) zeroFl = f at hupk ⊢
      have hq0 : 0 ≤ r.tmod 4 := by rw [Int.tmod_eq_emod_of_nonneg hr0]; omega
      have hq3 : r.tmod 4 ≤ 3 := by rw [Int.tmod_eq_emod_of_nonneg hr0]; omega
      have ht0 : 0 ≤ s.tmod 128 := by rw [Int.tmod_eq_emod_of_nonneg hs0]; omega
      have ht1 : s.tmod 128 < 128 := by rw [Int.tmod_eq_emod_of_nonneg hs0]; omega
      generalize r.tmod 4 = q at hq0 hq3 ⊢
      refine tri_exit ?_
      change Tri _ _ _ _ _
      refine tri_reg M hI hn (outs := ?_) (s' := ?_) ?_ ?_ ?_ ?_
      rotate_left 2
      · rfl
      · kernel_rfl
      · simp
        exact ⟨hupk, hq0, hq3⟩
      refine tri_reg M hI hn (outs := ?_) (s' := ?_) ?_ ?_ ?_ ?_
      rotate_left 2
      · rfl
      · kernel_rfl
      · simp
      refine tri_reg M hI hn (outs := ?_) (s' := ?_) ?_ ?_ ?_ ?_
      rotate_left 2
      · rfl
      · kernel_rfl
      · simp
      refine tri_conv (s' := sr2St s b q (s.tmod 128) f (getF f q)) (fun a w hg => (hg.reset (kT := [14, 15, 16, 17, 2, 3, 9, 10]) (kO := [4004, 13006, 15001]) (by rfl) (by simp)).same ?_ ?_) ?_
      · refine .cons rfl (.cons rfl (.cons ?_ (.cons rfl (.cons rfl (.cons rfl (.cons rfl (.cons rfl .nil)))))))
        change pvI ((IntKind.i64.wrap s).tmod 128) = _
        rw [show IntKind.i64.wrap s = s from by rw [IntKind.wrap_i64]; omega]
      · refine .cons (.box rfl) (.cons (.box ?_) (.cons (.box rfl) .nil))
        change stoPC (getF (fsRow f.length (fsF f)) q) = _
        rw [fsRow_fsF]
      refine tri_seq ?_
      generalize s.tmod 128 = z at ht0 ht1 ⊢
      refine tri_reg M hI hn (outs := ?_) (s' := ?_) ?_ ?_ ?_ ?_
      rotate_left 2
      · rfl
      · kernel_rfl
      · simp
      refine tri_cond (b := ?_) ?_ (fun hc => ?_) (fun hc => ?_)
      rotate_left 1
      · rfl
      · have hout : z < firstS q 0 ∨ firstS q 1 + 8 ≤ z := by
          have hc2 : (bif decide (z < firstS q 0) then true else decide (z ≥ IntKind.i64.wrap (firstS q 1 + 8))) = true := hc
          rw [show IntKind.i64.wrap (firstS q 1 + 8) = firstS q 1 + 8 from by rw [firstS_ok hq0 hq3 (by omega) (by omega), IntKind.wrap_i64]; omega] at hc2
          by_cases h5 : z < firstS q 0
          · exact .inl h5
          · rw [decide_eq_false h5] at hc2
            exact .inr (of_decide_eq_true hc2)
        have hw : IntKind.i64.wrap (256 - (b.length : Int)) = ((256 - b.length : Nat) : Int) := by rw [IntKind.wrap_i64]; omega
        refine tri_region M hI hn (outs := ?_) (s' := ?_) ?_ ?_ ?_ ?_
        rotate_left 2
        · rfl
        · kernel_rfl
        · simp
          rw [hw, zStr_size, show Tryd.prog.types[5].bytes = 1 from by kernel_rfl]
          refine ⟨by omega, by omega, by omega, fun i hi => by unfold appF; rw [if_neg (by omega)]; exact isRow_byF (i - 0 + 1) b (i - 0) (by omega), fun x hx => by rw [hupk.2 x hx]; omega, by rw [hupk.1]; omega⟩
        change Tri _ _ _ _ _
        refine tri_conv (s' := sr3St q (fwrite f z (strOf (catR b (IntKind.i64.wrap (256 - (b.length : Int))))) (-1)) (getF f q)) (fun a w hg => (hg.reset (kT := [9, 14, 15, 17]) (kO := [13006, 15001]) (by rfl) (by simp)).same ?_ ?_) ?_
        · exact .cons rfl (.cons rfl (.cons rfl (.cons rfl .nil)))
        · refine .cons (.box rfl) (.cons (.box ?_) .nil)
          change flPC (fwrite (fsRow f.length (fsF f)) z (strOf (catR b (IntKind.i64.wrap (256 - (b.length : Int))))) (-1)) = _
          rw [fsRow_fsF]
        have hgg : getF (fwrite f z (strOf (catR b (IntKind.i64.wrap (256 - (b.length : Int))))) (-1)) q = getF f q := far_get hupk hq0 hq3 ht0 ht1 hout (by rw [catR_length, hw]; omega)
        have hgs := fwrite_sz hupk z (strOf (catR b (IntKind.i64.wrap (256 - (b.length : Int))))) (-1)
        generalize fwrite f z (strOf (catR b (IntKind.i64.wrap (256 - (b.length : Int))))) (-1) = g at hgg hgs ⊢
        refine tri_reg M hI hn (outs := ?_) (s' := ?_) ?_ ?_ ?_ ?_
        rotate_left 2
        · rfl
        · kernel_rfl
        · simp
          exact ⟨hgs, hq0, hq3⟩
        refine tri_reg M hI hn (outs := ?_) (s' := ?_) ?_ ?_ ?_ ?_
        rotate_left 2
        · rfl
        · kernel_rfl
        · simp
        refine tri_ret (fun a w hg => ⟨.inr rfl, _, ?_, hg⟩)
        refine retTo_cold (out := ?_) ?_ ?_ ?_ ?_ ?_
        rotate_left 1
        · rfl
        · simp
        · rfl
        · rfl
        refine congrArg pvB (?_ : _ = true)
        rw [fsRow_fsF, hgg]
        simp
      · refine tri_skip ?_
        change Tri _ _ _ _ _
        refine tri_conv (s' := sr3St q f (getF f q)) (fun a w hg => (hg.reset (kT := [9, 14, 15, 17]) (kO := [13006, 15001]) (by rfl) (by simp)).same ?_ ?_) ?_
        · exact .cons rfl (.cons rfl (.cons rfl (.cons rfl .nil)))
        · exact .cons (.box rfl) (.cons (.box rfl) .nil)
        have hgg : getF f q = getF f q := rfl
        have hgs := hupk
        refine tri_reg M hI hn (outs := ?_) (s' := ?_) ?_ ?_ ?_ ?_
        rotate_left 2
        · rfl
        · kernel_rfl
        · simp
          exact ⟨hgs, hq0, hq3⟩
        refine tri_reg M hI hn (outs := ?_) (s' := ?_) ?_ ?_ ?_ ?_
        rotate_left 2
        · rfl
        · kernel_rfl
        · simp
        refine tri_ret (fun a w hg => ⟨.inr rfl, _, ?_, hg⟩)
        refine retTo_cold (out := ?_) ?_ ?_ ?_ ?_ ?_
        rotate_left 1
        · rfl
        · simp
        · rfl
        · rfl
        refine congrArg pvB (?_ : _ = true)
        rw [fsRow_fsF, hgg]
        simp
end Go.Proofs.YtoefmncdloffaaaDoor.Pv
