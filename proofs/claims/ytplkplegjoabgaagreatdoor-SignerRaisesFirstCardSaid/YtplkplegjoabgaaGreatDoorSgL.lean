
import Derived.Test.YtplkplegjoabgaaGreatDoorHzO
namespace Go.Proofs.YtplkplegjoabgaaGreatDoor
open Go.RowKit
theorem dev_cell (l : List Int) (s : Bool) (j : Nat) : cell (devCells l s) j = if j < 3 * bitsOf l then cellOf l s j else 0 := by
  unfold cell devCells
  by_cases h : j < 3 * bitsOf l
  · rw [if_pos h, List.getD_eq_getElem?_getD, List.getElem?_append_left (by rw [cellsOf_length]; exact h)]
    unfold cellsOf
    rw [List.getElem?_map, List.getElem?_range h]
    rfl
  · rw [if_neg h, List.getD_eq_getElem?_getD, List.getElem?_append_right (by rw [cellsOf_length]; omega), List.getElem?_replicate]
    split <;> rfl
theorem dev_snd (l : List Int) : Snd (devCells l true) := by
  refine ⟨fun j => ?_, devCells_length l true, fun b hb => ?_⟩
  · rw [dev_cell]
    split
    · unfold cellOf
      split
      · omega
      · omega
    · omega
  · unfold stuckC
    simp only [dev_cell]
    by_cases h : b < bitsOf l
    · have i0 : 3 * b < 3 * bitsOf l := by omega
      have i1 : 3 * b + 1 < 3 * bitsOf l := by omega
      have i2 : 3 * b + 2 < 3 * bitsOf l := by omega
      rw [if_pos i0, if_pos i1, if_pos i2]
      unfold cellOf
      rw [show 3 * b / 3 = b from by omega, show (3 * b + 1) / 3 = b from by omega, show (3 * b + 2) / 3 = b from by omega]
      by_cases hs : 1 < stuckN l b 3
      · simp [hs]
      · simp only [hs, and_false, if_false]
        simp only [stuckN, Nat.add_zero, Nat.zero_add] at hs
        exact Nat.not_lt.1 hs
    · have i0 : ¬ 3 * b < 3 * bitsOf l := by omega
      have i1 : ¬ 3 * b + 1 < 3 * bitsOf l := by omega
      have i2 : ¬ 3 * b + 2 < 3 * bitsOf l := by omega
      rw [if_neg i0, if_neg i1, if_neg i2]
      decide
end Go.Proofs.YtplkplegjoabgaaGreatDoor
namespace Go.Proofs.YtplkplegjoabgaaGreatDoor.Pv
open Go.RowKit
def cutF (n : Nat) : List UInt8 := List.replicate n 0 ++ [1]
theorem cutF_at (n j : Nat) : faultAt (intB (cutF n)) j = (decide (j = n), false) := by
  unfold faultAt intB cutF
  rw [List.getElem?_map]
  rcases Nat.lt_trichotomy j n with h | h | h
  · rw [List.getElem?_append_left (by simpa using h), List.getElem?_replicate, if_pos h, decide_eq_false (by omega)]
    rfl
  · subst h
    rw [List.getElem?_append_right (by simp), decide_eq_true rfl]
    simp
  · rw [List.getElem?_append_right (by simp; omega), List.getElem?_eq_none (by simp; omega), decide_eq_false (by omega)]
    rfl
def f6L : List (Nat × Spec) := [(9, sp26San), (15, funSpec true devG), (16, funSpec false runG), (12, funSpec true out26G)]
theorem f6_ok : ∀ p ∈ f6L, SpecOk Tryz.prog ShaMem p.1 p.2 := by
  intro p hp
  simp only [f6L, List.mem_cons, List.not_mem_nil, or_false] at hp
  rcases hp with rfl | rfl | rfl | rfl
  · exact san26_spec
  · exact dev_spec
  · exact run_spec
  · exact same26_spec
theorem f6M : Mach Tryz.prog ShaMem (find f6L) := ⟨specs_of f6_ok, mixed_⟩
def f6Z (seed : List UInt8) (n cut : Nat) (c : List Int) : St :=
  ⟨[(4, none, pv1 (.pt 2002 0 0)), (6, none, lit1 (.int .u8 (cut : Int))), (7, none, pvB true), (8, none, pvI n), (9, none, pv1 (.pt 9002 0 0))],
   [(2002, none, 0, .box 23 [.bs 16 seed]), (9002, none, 0, .box 53 (hwPC (bk4 c) z16s))]⟩
def f6A (seed : List UInt8) (n cut : Nat) (c : List Int) (r1 : RunO) : St :=
  ⟨(11, none, pv1 (.pt 10012 0 0)) :: (12, none, pvB r1.done) :: (13, none, pvI r1.many) :: (14, none, pvB true) :: (f6Z seed n cut c).t, (10012, none, 0, .box 35 (sgC r1.out)) :: (f6Z seed n cut c).o⟩
def f6B (seed : List UInt8) (n cut N : Nat) (c : List Int) (r1 : RunO) : St :=
  ⟨(15, none, pv1 (.ow 13004 0 1 0 (N + 1))) :: (f6A seed n cut c r1).t, (13004, none, 0, .arr 5 1 (N + 1) (fun _ => [.lit (.int .u8 0)])) :: (f6A seed n cut c r1).o⟩
def f6C (seed : List UInt8) (n cut N : Nat) (c : List Int) (r1 : RunO) : St :=
  ⟨(15, none, pv1 (.sl 1 (N + 1) (byF (cutF N)))) :: (f6A seed n cut c r1).t, (f6A seed n cut c r1).o⟩
def f6D (seed : List UInt8) (n cut N : Nat) (c : List Int) (r1 rx : RunO) : St :=
  ⟨(16, none, pv1 (.pt 15012 0 0)) :: (17, none, pv1 (.pt 15013 0 0)) :: (18, none, pvB rx.done) :: (20, none, pvB true) :: (f6C seed n cut N c r1).t, (15012, none, 0, .box 53 (hwPC (bk4 rx.cells) z16s)) :: (15013, none, 0, .box 35 (sgC rx.out)) :: (f6C seed n cut N c r1).o⟩
def f6E (r1 r2 : RunO) : St :=
  ⟨[(22, none, pv1 (.pt 20012 0 0)), (23, none, pvB r2.done), (25, none, pvB true), (7, none, pvB true), (11, none, pv1 (.pt 10012 0 0))], [(20012, none, 0, .box 35 (sgC r2.out)), (10012, none, 0, .box 35 (sgC r1.out))]⟩
theorem cutF_by (N i : Nat) : byF (cutF N) i = if i = N then [.lit (.int .u8 1)] else [.lit (.int .u8 0)] := by
  unfold byF cutF
  rw [List.getD_eq_getElem?_getD]
  rcases Nat.lt_trichotomy i N with h | h | h
  · rw [List.getElem?_append_left (by simpa using h), List.getElem?_replicate, if_pos h, if_neg (by omega)]
    rfl
  · subst h
    rw [List.getElem?_append_right (by simp), if_pos rfl]
    simp
    rfl
  · rw [List.getElem?_append_right (by simp; omega), List.getElem?_eq_none (by simp; omega), if_neg (by omega)]
    rfl
set_option maxRecDepth 100000 in
set_option maxHeartbeats 2000000 in
theorem raises_law (cells seed : List UInt8) (ht cut : Nat) (hh1 : ht ≤ 255) (hh2 : cut ≤ 255) : FunOk Tryz.prog ShaMem 6 true [.w (.agg [.sl 1 cells.length (byF cells), .bs 16 seed, .lit (.int .u8 (ht : Int)), .lit (.int .u8 (cut : Int))])] (pvB true) := by
  have M := f6M
  have hsnd := dev_snd (intB cells)
  have hrb : ∀ c, (rowBk (bk4 c).length (bankF (bk4 c))).getD 2 [] = c := fun c => by rw [rowBk_bankF]; rfl
  obtain ⟨c, hcc⟩ : ∃ c, devCells (intB cells) true = c := ⟨_, rfl⟩
  rw [hcc] at hsnd
  obtain ⟨n, hnn⟩ : ∃ n, ht % 3 = n := ⟨_, rfl⟩
  have hn2 : n ≤ 2 := by omega
  have htn : (IntKind.i64.wrap (ht : Int)).tmod 3 = (n : Int) := by
    have e : IntKind.i64.wrap (ht : Int) = (ht : Int) := by rw [IntKind.wrap_i64]; omega
    rw [e, ← hnn]
    rfl
  have hi : i64P (n : Int) := ⟨by omega, by omega⟩
  obtain ⟨r1, hr1⟩ : ∃ r, runS seed s1 n [] c = r := ⟨_, rfl⟩
  obtain ⟨rx, hrx⟩ : ∃ r, runS seed s1 n (cutF (cut % 200)) c = r := ⟨_, rfl⟩
  obtain ⟨r2, hr2⟩ : ∃ r, runS seed s1 n [] rx.cells = r := ⟨_, rfl⟩
  obtain ⟨g1, g2, g3, g4, g5, g6⟩ := raises_plain seed s1 n (by omega) c hsnd (cut % 200) (cutF (cut % 200)) (cutF_at _) r1 rx r2 hr1 hrx hr2
  have hsm : r1.out.1.chain.length ≤ 68 ∧ r1.out.1.path.length ≤ 16 := by rw [← hr1]; exact runS_small _ _ _ _ _
  have hsx : rx.out.1.chain.length ≤ 68 ∧ rx.out.1.path.length ≤ 16 := by rw [← hrx]; exact runS_small _ _ _ _ _
  refine funOk_of Tryz.func6 rfl rfl sha_ext (fun A hS hn hI => ?_)
  refine tri_reg M hI hn (outs := ?_) (s' := ?_) ?_ ?_ ?_ ?_
  rotate_left 2
  · rfl
  · kernel_rfl
  · simp
  refine tri_reg M hI hn (outs := ?_) (s' := ?_) ?_ ?_ ?_ ?_
  rotate_left 2
  · rfl
  · kernel_rfl
  · simp
  refine tri_reg M hI hn (outs := ?_) (s' := ?_) ?_ ?_ ?_ ?_
  rotate_left 2
  · rfl
  · kernel_rfl
  · simp
  refine tri_reg M hI hn (outs := ?_) (s' := ?_) ?_ ?_ ?_ ?_
  rotate_left 2
  · rfl
  · kernel_rfl
  · simp
  refine tri_reg M hI hn (outs := ?_) (s' := ?_) ?_ ?_ ?_ ?_
  rotate_left 2
  · rfl
  · kernel_rfl
  · simp
  refine tri_reg M hI hn (outs := ?_) (s' := ?_) ?_ ?_ ?_ ?_
  rotate_left 2
  · rfl
  · kernel_rfl
  · simp
  refine tri_seq ?_
  refine tri_reg M hI hn (outs := ?_) (s' := ?_) ?_ ?_ ?_ ?_
  rotate_left 2
  · rfl
  · kernel_rfl
  · simp
  refine tri_cond (b := ?_) ?_ (fun hc => ?_) (fun hc => ?_)
  rotate_left 1
  · rfl
  · refine tri_reg M hI hn (outs := ?_) (s' := ?_) ?_ ?_ ?_ ?_
    rotate_left 2
    · rfl
    · kernel_rfl
    · simp
    refine tri_ret (fun a w hg => ⟨.inr rfl, _, ?_, hg⟩)
    refine retTo_cold (out := ?_) ?_ ?_ ?_ ?_ ?_
    rotate_left 1
    · rfl
    · simp
    · rfl
    · rfl
    rfl
  refine tri_skip ?_
  change Tri _ _ _ _ _
  refine tri_reg M hI hn (outs := ?_) (s' := ?_) ?_ ?_ ?_ ?_
  rotate_left 2
  · rfl
  · kernel_rfl
  · simp
  refine tri_reg M hI hn (outs := ?_) (s' := ?_) ?_ ?_ ?_ ?_
  rotate_left 2
  · rfl
  · kernel_rfl
  · simp
  refine tri_conv (s' := f6Z seed n cut c) (fun a w hg => (hg.reset (kT := [4, 6, 7, 8, 9]) (kO := [2002, 9002]) (by rfl) (by simp)).same ?_ ?_) ?_
  · refine .cons rfl (.cons rfl (.cons rfl (.cons ?_ (.cons rfl .nil))))
    show pvI ((IntKind.i64.wrap (ht : Int)).tmod 3) = _
    rw [htn]
  · refine .cons (.box rfl) (.cons (.box ?_) .nil)
    show hwPC (bk4 (devCells (intB (rowB cells.length (byF cells))) true)) z16s = _
    rw [rowB_byF, hcc]
  refine tri_reg M hI hn (outs := ?_) (s' := ?_) ?_ ?_ ?_ ?_
  rotate_left 2
  · rfl
  · kernel_rfl
  · simp
    exact ⟨rfl, hsnd.len, hi⟩
  refine tri_conv (s' := f6A seed n cut c r1) (fun a w hg => (hg.reset (kT := [11, 12, 13, 14, 4, 6, 7, 8, 9]) (kO := [10012, 2002, 9002]) (by rfl) (by simp)).same ?_ ?_) ?_
  · refine .cons rfl (.cons ?_ (.cons ?_ (.cons rfl (rest9 rfl))))
    · show pvB (runS seed s1 n [] ((rowBk (bk4 c).length (bankF (bk4 c))).getD 2 [])).done = _
      rw [hrb, hr1]
    · show pvI (runS seed s1 n [] ((rowBk (bk4 c).length (bankF (bk4 c))).getD 2 [])).many = _
      rw [hrb, hr1]
  · refine .cons (.box ?_) (restW rfl)
    show sgC (runS seed s1 n [] ((rowBk (bk4 c).length (bankF (bk4 c))).getD 2 [])).out = _
    rw [hrb, hr1]
  obtain ⟨cl1, ⟨⟨ix1, ch1, pt1⟩, er1⟩, dn1, mn1⟩ := r1
  dsimp only at g1 g2 g3 g6 hsm
  subst g1
  refine tri_seq ?_
  refine tri_reg M hI hn (outs := ?_) (s' := ?_) ?_ ?_ ?_ ?_
  rotate_left 2
  · rfl
  · kernel_rfl
  · simp
  refine tri_cond (b := ?_) ?_ (fun hc => ?_) (fun hc => ?_)
  rotate_left 1
  · rfl
  · cases hc
  refine tri_skip ?_
  change Tri _ _ _ _ _
  have hcw : IntKind.i64.wrap ((IntKind.i64.wrap (cut : Int)).tmod 200 + 1) = ((cut % 200 + 1 : Nat) : Int) := by
    have e : IntKind.i64.wrap (cut : Int) = (cut : Int) := by rw [IntKind.wrap_i64]; omega
    have e2 : ((cut : Int)).tmod 200 = ((cut % 200 : Nat) : Int) := rfl
    rw [e, e2, IntKind.wrap_i64]
    omega
  have hb5 : Tryz.prog.types[5].bytes = 1 := by kernel_rfl
  obtain ⟨N, hN⟩ : ∃ N, cut % 200 = N := ⟨_, rfl⟩
  have hN2 : N < 200 := by omega
  rw [hN] at g2 hrx hcw
  refine tri_reg M hI hn (outs := ?_) (s' := ?_) ?_ ?_ ?_ ?_
  rotate_left 2
  · rfl
  · kernel_rfl
  · simp
    rw [hcw, hb5]
    omega
  refine tri_conv (s' := f6B seed n cut N c ⟨cl1, (⟨ix1, ch1, pt1⟩, er1), true, mn1⟩) (fun a w hg => (hg.reset (kT := [15, 11, 12, 13, 14, 4, 6, 7, 8, 9]) (kO := [13004, 10012, 2002, 9002]) (by rfl) ?_).same ?_ ?_) ?_
  · simp only [All, and_true, List.append_nil]
    exact fun i _ => rfl
  · refine .cons ?_ (rest9 rfl)
    rw [hcw]
    rfl
  · refine .cons (.arr ?_ (fun i _ => rfl)) (restW rfl)
    rw [hcw]
    rfl
  have hwN : IntKind.i64.wrap (N : Int) = (N : Int) := by rw [IntKind.wrap_i64]; omega
  have hwM : (IntKind.i64.wrap (((N + 1 : Nat) : Int) - 1)).toNat = N := by rw [show ((N + 1 : Nat) : Int) - 1 = (N : Int) from by omega, hwN, Int.toNat_natCast]
  refine tri_reg M hI hn (outs := ?_) (s' := ?_) ?_ ?_ ?_ ?_
  rotate_left 2
  · rfl
  · kernel_rfl
  · simp
    rw [hwN]
    omega
  refine tri_conv (s' := f6C seed n cut N c ⟨cl1, (⟨ix1, ch1, pt1⟩, er1), true, mn1⟩) (fun a w hg => (hg.resetF (kF := [13004]) (kT := [15, 11, 12, 13, 14, 4, 6, 7, 8, 9]) (kO := [10012, 2002, 9002]) (.inr hS) (by rfl) ?_).same ?_ ?_) ?_
  · simp only [All, and_true, List.append_nil, List.nil_append]
    intro i hi
    split <;> rfl
  · refine .cons ?_ (rest9 rfl)
    rw [hwM]
    refine congrArg (fun f => pv1 (PC.sl 1 (N + 1) f)) (funext fun i => ?_)
    rw [cutF_by]
    simp only [Nat.zero_add]
    rfl
  · exact restW rfl
  have hlN : (cutF N).length = N + 1 := by simp [cutF]
  refine tri_reg M hI hn (outs := ?_) (s' := ?_) ?_ ?_ ?_ ?_
  rotate_left 2
  · rfl
  · kernel_rfl
  · simp
    exact ⟨rfl, hsnd.len, hi⟩
  have hrN : rowB (N + 1) (byF (cutF N)) = cutF N := rowB_byF' hlN
  refine tri_conv (s' := f6D seed n cut N c ⟨cl1, (⟨ix1, ch1, pt1⟩, er1), true, mn1⟩ rx) (fun a w hg => (hg.reset (kT := [16, 17, 18, 20, 15, 11, 12, 13, 14, 4, 6, 7, 8, 9]) (kO := [15012, 15013, 10012, 2002, 9002]) (by rfl) (by simp)).same ?_ ?_) ?_
  · refine .cons rfl (.cons rfl (.cons ?_ (.cons rfl (rest9 rfl))))
    show pvB (runS seed s1 n (rowB (N + 1) (byF (cutF N))) ((rowBk (bk4 c).length (bankF (bk4 c))).getD 2 [])).done = _
    rw [hrb, hrN, hrx]
  · refine .cons (.box ?_) (.cons (.box ?_) (restW rfl))
    · show hwPC (bk4 (runS seed s1 n (rowB (N + 1) (byF (cutF N))) ((rowBk (bk4 c).length (bankF (bk4 c))).getD 2 [])).cells) z16s = _
      rw [hrb, hrN, hrx]
    · show sgC (runS seed s1 n (rowB (N + 1) (byF (cutF N))) ((rowBk (bk4 c).length (bankF (bk4 c))).getD 2 [])).out = _
      rw [hrb, hrN, hrx]
  obtain ⟨clx, ⟨⟨ixx, chx, ptx⟩, erx⟩, dnx, mnx⟩ := rx
  dsimp only at g2 g3 g4 hsx hr2
  have hgt : decide (((N + 1 : Nat) : Int) > (mn1 : Int)) = dnx := by
    rw [g2]
    by_cases h : mn1 < N + 1
    · rw [decide_eq_true h, decide_eq_true (by omega)]
    · rw [decide_eq_false h, decide_eq_false (by omega)]
  refine tri_seq ?_
  refine tri_reg M hI hn (outs := ?_) (s' := ?_) ?_ ?_ ?_ ?_
  rotate_left 2
  · rfl
  · kernel_rfl
  · simp
  refine tri_cond (b := ?_) ?_ (fun hc => ?_) (fun hc => ?_)
  rotate_left 1
  · rfl
  · have hc2 : (!(dnx == decide (((N + 1 : Nat) : Int) > (mn1 : Int)))) = true := hc
    rw [hgt] at hc2
    simp at hc2
  refine tri_skip ?_
  change Tri _ _ _ _ _
  refine tri_seq ?_
  refine tri_reg M hI hn (outs := ?_) (s' := ?_) ?_ ?_ ?_ ?_
  rotate_left 2
  · rfl
  · kernel_rfl
  · simp
  refine tri_cond (b := ?_) ?_ (fun hc => ?_) (fun hc => ?_)
  rotate_left 1
  · rfl
  · have hdx : dnx = true := hc
    have hox := g3 hdx
    cases hox
    refine tri_reg M hI hn (outs := ?_) (s' := ?_) ?_ ?_ ?_ ?_
    rotate_left 2
    · rfl
    · kernel_rfl
    · simp
      exact ⟨trivial, trivial, trivial, trivial, Nat.lt_of_le_of_lt hsm.1 (by decide), Nat.lt_of_le_of_lt hsm.2 (by decide)⟩
    refine tri_ret (fun a w hg => ⟨.inr rfl, _, ?_, hg⟩)
    refine retTo_cold (out := ?_) ?_ ?_ ?_ ?_ ?_
    rotate_left 1
    · rfl
    · simp
    · rfl
    · rfl
    refine congrArg pvB ?_
    simp [outEqB, sigEqB]
  refine tri_skip ?_
  change Tri _ _ _ _ _
  refine tri_reg M hI hn (outs := ?_) (s' := ?_) ?_ ?_ ?_ ?_
  rotate_left 2
  · rfl
  · kernel_rfl
  · simp
    exact ⟨rfl, g4, hi⟩
  refine tri_conv (s' := f6E ⟨cl1, (⟨ix1, ch1, pt1⟩, er1), true, mn1⟩ r2) (fun a w hg => (hg.reset (kT := [22, 23, 25, 7, 11]) (kO := [20012, 10012]) (by rfl) (by simp)).same ?_ ?_) ?_
  · refine .cons rfl (.cons ?_ (rest9 rfl))
    show pvB (runS seed s1 n [] ((rowBk (bk4 clx).length (bankF (bk4 clx))).getD 2 [])).done = _
    rw [hrb, hr2]
  · refine .cons (.box ?_) (restW rfl)
    show sgC (runS seed s1 n [] ((rowBk (bk4 clx).length (bankF (bk4 clx))).getD 2 [])).out = _
    rw [hrb, hr2]
  obtain ⟨cl2, ⟨⟨ix2, ch2, pt2⟩, er2⟩, dn2, mn2⟩ := r2
  dsimp only at g5 g6
  subst g5
  refine tri_seq ?_
  refine tri_reg M hI hn (outs := ?_) (s' := ?_) ?_ ?_ ?_ ?_
  rotate_left 2
  · rfl
  · kernel_rfl
  · simp
  refine tri_cond (b := ?_) ?_ (fun hc => ?_) (fun hc => ?_)
  rotate_left 1
  · rfl
  · cases hc
  refine tri_skip ?_
  change Tri _ _ _ _ _
  refine tri_reg M hI hn (outs := ?_) (s' := ?_) ?_ ?_ ?_ ?_
  rotate_left 2
  · rfl
  · kernel_rfl
  · simp
    exact fun a b => ⟨a, b⟩
  refine tri_ret (fun a w hg => ⟨.inr rfl, _, ?_, hg⟩)
  refine retTo_cold (out := ?_) ?_ ?_ ?_ ?_ ?_
  rotate_left 1
  · rfl
  · simp
  · rfl
  · rfl
  refine congrArg pvB ?_
  rcases g6 with rfl | ⟨rfl, g6⟩
  · simp
  · simp
    exact g6
end Go.Proofs.YtplkplegjoabgaaGreatDoor.Pv
