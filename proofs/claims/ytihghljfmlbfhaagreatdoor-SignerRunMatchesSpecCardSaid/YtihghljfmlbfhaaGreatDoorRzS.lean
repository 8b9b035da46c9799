/-
  Several texts in one file: each has its own heading below.
-/
import Derived.Test.YtihghljfmlbfhaaGreatDoorRzR
import Derived.Test.YtihghljfmlbfhaaGreatDoorRzQ
import Derived.Test.YtihghljfmlbfhaaGreatDoorRzL
set_option maxRecDepth 100000
set_option maxHeartbeats 4000000
namespace Go.Proofs.YtihghljfmlbfhaaGreatDoor.Pv
open Go.RowKit
def srL : List (Nat × Spec) := [(5, aKm), (10, bD true devG), (9, bD true fauG), (11, bD false aBy), (12, bD false aBy), (13, bD false runG), (8, bD true aSj), (14, bD true sam9N)]
theorem sr_ok : ∀ p ∈ srL, SpecOk Tryz.prog ShaMem p.1 p.2 := by
 intro p hp
 simp only [srL, List.mem_cons, List.not_mem_nil, or_false] at hp
 rcases hp with rfl | rfl | rfl | rfl | rfl | rfl | rfl | rfl
 ·exact aHz
 ·exact aMe
 ·exact aCk
 ·exact aOl
 ·exact aNp
 ·exact aKx
 ·exact aIf
 ·exact aIe
theorem srM : Mach Tryz.prog ShaMem (find srL) := ⟨dD sr_ok, iE⟩
def fltD (p : Bool × Bool) : Flt := ⟨p.1, 0, p.2⟩
def kG (F : List UInt8) (n : Nat) : List Flt := (List.range n).map fun i => fltD (fM (intB F) i)
theorem fltsD_at (F : List UInt8) (i : Nat) : fM ((kG F F.length).map fltI) i = fM (intB F) i := by
 rw [aUe]
 unfold bV kG
 rw [zG, List.getElem?_map]
 by_cases h : i < F.length
 ·rw [List.getElem?_range h]
  rfl
 ·rw [List.getElem?_eq_none (by simpa using h)]
  have : fM (intB F) i = (false, false) := by
   unfold fM
   rw [List.getElem?_eq_none (by simpa [intB] using h)]
  rw [this]
  rfl
theorem rowFlt_F (L : List Flt) : jS L.length (fltF L) = L := by
 unfold jS
 apply List.ext_getElem (by simp)
 intro i h1 h2
 simp only [List.getElem_map, List.getElem_range, fltF]
 rw [zG, zH h2]
 rfl
def srZ (cells seed msg : List UInt8) (h : Int) (F : List UInt8) : St := ⟨[(3, none, pv1 (.sl 1 cells.length (byF cells))), (4, none, pv1 (.pt 2002 0 0)), (5, none, pvI h), (6, none, pv1 (.pt 4002 0 0)), (7, none, pv1 (.sl 1 F.length (byF F))), (8, none, pvB true)],
 [(2002, none, 0, .box 23 [.bs 16 seed]), (4002, none, 0, .box 23 [.bs 16 msg])]⟩
def srI (cells seed msg : List UInt8) (h : Int) (F : List UInt8) (j : Nat) : St := ⟨(srZ cells seed msg h F).t ++ [(9, none, pv1 (.ow 13005 0 3 0 j)), (10, none, pvI (j : Int))], (srZ cells seed msg h F).o ++ [(13005, none, 0, .arr 45 3 j (fltF (kG F j)))]⟩
def srK (cells seed msg : List UInt8) (h : Int) (F : List UInt8) : St := ⟨(srZ cells seed msg h F).t ++ [(9, none, pv1 (.sl 3 F.length (fltF (kG F F.length))))], (srZ cells seed msg h F).o⟩
def srD (seed msg : List UInt8) (h : Int) (F : List UInt8) (c : List Int) : St := ⟨[(4, none, pv1 (.pt 2002 0 0)), (5, none, pvI h), (6, none, pv1 (.pt 4002 0 0)), (7, none, pv1 (.sl 1 F.length (byF F))), (8, none, pvB true), (9, none, pv1 (.sl 3 F.length (fltF (kG F F.length)))), (11, none, pv1 (.pt 14002 0 0))],
 [(2002, none, 0, .box 23 [.bs 16 seed]), (4002, none, 0, .box 23 [.bs 16 msg]), (14002, none, 0, .box 54 (hwPC (bk4 c) z16s))]⟩
def hwR (c : List Int) : List PC := hwL ⟨bk4 c, [], z16s⟩
def srA (seed msg : List UInt8) (h : Int) (F : List UInt8) (c c' : List Int) (x : Sig × Int) (j : Nat) (d : Bool) : St := ⟨(srD seed msg h F c).t ++ [(12, none, pv1 (.pt 15011 0 0)), (13, none, pv1 (.pt 15012 0 0)), (14, none, pvI (j : Int)), (15, none, pvB d)], (srD seed msg h F c).o ++ [(15011, none, 0, .box 54 (hwR c')), (15012, none, 0, .box 35 (sgC x))]⟩
def srB (seed msg : List UInt8) (h : Int) (F : List UInt8) (c c' : List Int) (x : Sig × Int) (j : Nat) (d : Bool) : St := ⟨(srA seed msg h F c c' x j d).t ++ [(16, none, pv1 (.pt 16011 0 0)), (17, none, pv1 (.pt 16012 0 0)), (18, none, pvI (j : Int)), (19, none, pvB d)], (srA seed msg h F c c' x j d).o ++ [(16011, none, 0, .box 54 (hwR c')), (16012, none, 0, .box 35 (sgC x))]⟩
def srC (c' : List Int) (x : Sig × Int) (j : Nat) (d : Bool) (many : Int) : St := ⟨[(8, none, pvB true), (12, none, pv1 (.pt 15011 0 0)), (13, none, pv1 (.pt 15012 0 0)), (14, none, pvI (j : Int)), (15, none, pvB d), (16, none, pv1 (.pt 16011 0 0)), (17, none, pv1 (.pt 16012 0 0)), (18, none, pvI (j : Int)), (19, none, pvB d), (20, none, pv1 (.pt 17012 0 0)), (21, none, pv1 (.pt 17013 0 0)), (22, none, pvB d), (23, none, pvI many), (24, none, pvB true)],
 [(15011, none, 0, .box 54 (hwR c')), (15012, none, 0, .box 35 (sgC x)), (16011, none, 0, .box 54 (hwR c')), (16012, none, 0, .box 35 (sgC x)), (17012, none, 0, .box 54 (hwPC (bk4 c') z16s)), (17013, none, 0, .box 35 (sgC x))]⟩
theorem dim_bk4 {c : List Int} (hc : c.length = 48) (hv : ∀ x ∈ c, 0 ≤ x ∧ x ≤ 3) : Dim ⟨bk4 c, [], z16s⟩ := by
 refine ⟨⟨by show 4 ≤ 1000; omega, fun l hl => ?_, fun l hl x hx => ?_, by show 0 ≤ 1000000; omega, fun x hx => absurd hx (by simp), rfl⟩, by show 2 < 4; omega, hc⟩
 ·simp only [bk4, List.mem_cons, List.not_mem_nil, or_false] at hl
  rcases hl with rfl | rfl | rfl | rfl
  ·exact Nat.zero_le _
  ·exact Nat.zero_le _
  ·omega
  ·exact Nat.zero_le _
 ·simp only [bk4, List.mem_cons, List.not_mem_nil, or_false] at hl
  rcases hl with rfl | rfl | rfl | rfl
  ·cases hx
  ·cases hx
  ·exact hv x hx
  ·cases hx
theorem srun_eq (F : List UInt8) (h : Int) (c : List Int) (hd : Dim ⟨bk4 c, [], z16s⟩) : gV (kG F F.length) (Prg.signI h) ⟨bk4 c, [], z16s⟩ 0 = ((exec (intB F) (Prg.signI h) c 0).1, ⟨bk4 (exec (intB F) (Prg.signI h) c 0).2.1, [], z16s⟩, (exec (intB F) (Prg.signI h) c 0).2.2) := by
 rw [(aPk _ _ (aDd h) _ 0 hd).1, aPj (fltsD_at F)]
 rfl
theorem aEf {α : Type} {F : List Int} (p : Prg α) : ∀ c i, (exec F p c i).1 = none → i < (exec F p c i).2.2 := by
 induction p with
 | ret a => intro c i h; cases h
 | ask a k ih =>
  intro c i h
  simp only [exec] at h ⊢
  split
  ·exact Nat.lt_succ_self i
  ·rename_i hf
   rw [if_neg hf] at h
   exact Nat.lt_of_succ_lt (ih _ _ _ h)
theorem exec_len {α : Type} {F : List Int} (p : Prg α) : ∀ c i, (exec F p c i).2.1.length = c.length := by
 induction p with
 | ret a => intro c i; rfl
 | ask a k ih =>
  intro c i
  simp only [exec]
  split
  ·exact uF _ _ _
  ·rw [ih]
   exact uF _ _ _
theorem srun_law (cells seed msg F : List UInt8) (h : Int) (hi64 : i64P h) : iW Tryz.prog ShaMem 4 true [.w (.agg [.sl 1 cells.length (byF cells), .bs 16 seed, .lit (.int .i64 h), .bs 16 msg, .sl 1 F.length (byF F)])] (pvB true) := by
 have M := srM
 have hbf : Tryz.prog.types[45].bytes = 24 := by kernel_rfl
 obtain ⟨c, hcc⟩ : ∃ c, lJ (intB cells) false = c := ⟨_, rfl⟩
 have hcl : c.length = 48 := by rw [← hcc]; exact mJ _ _
 have hcv : ∀ x ∈ c, 0 ≤ x ∧ x ≤ 3 := by
  intro x hx
  rw [← hcc] at hx
  unfold lJ at hx
  rcases List.mem_append.1 hx with hx | hx
  ·unfold cellsOf at hx
   obtain ⟨j, _, rfl⟩ := List.mem_map.1 hx
   unfold cellOf
   split <;> omega
  ·obtain ⟨_, rfl⟩ := List.mem_replicate.1 hx
   exact ⟨Int.le_refl _, by omega⟩
 have hdim := dim_bk4 hcl hcv
 refine eF Tryz.func4 rfl rfl fJ (fun A hS hn hI => ?_)
 refine aB M hI hn (by rfl) (by kernel_rfl) ?_ ?_
 ·simp
 refine aB M hI hn (by rfl) (by kernel_rfl) ?_ ?_
 ·simp
 refine aB M hI hn (by rfl) (by kernel_rfl) ?_ ?_
 ·simp
 refine aB M hI hn (by rfl) (by kernel_rfl) ?_ ?_
 ·simp
 refine aB M hI hn (by rfl) (by kernel_rfl) ?_ ?_
 ·simp
 refine aB M hI hn (by rfl) (by kernel_rfl) ?_ ?_
 ·simp
 refine aB M hI hn (by rfl) (by kernel_rfl) ?_ ?_
 ·simp
 refine aI ?_
 refine aB M hI hn (by rfl) (by kernel_rfl) ?_ ?_
 ·simp
 refine aJ (by rfl) (fun hc => ?_) (fun hc => ?_)
 ·refine aB M hI hn (by rfl) (by kernel_rfl) ?_ ?_
  ·simp
  refine bC (fun a w hg => ⟨.inr rfl, _, ?_, hg⟩)
  refine aK (by rfl) (by simp) (by rfl) (by rfl) ?_
  all_goals rfl
 have hlim : cells.length ≤ 48 ∧ F.length ≤ 200 := by
  have hc' : (bif decide ((cells.length : Int) > 48) then true else decide ((F.length : Int) > 200)) = false := hc
  by_cases h1 : (cells.length : Int) > 48
  ·rw [decide_eq_true h1] at hc'; cases hc'
  ·rw [decide_eq_false h1] at hc'
   have := of_decide_eq_false hc'
   omega
 refine aN ?_
 change Tri _ _ _ _ _
 refine aB M hI hn (by rfl) (by kernel_rfl) ?_ ?_
 ·simp
 refine aI ?_
 refine aB M hI hn (by rfl) (by kernel_rfl) ?_ ?_
 ·simp
 refine bI ?_
 refine aV (s' := srI cells seed msg h F 0) (fun a w hg => ((hg.nilRow (x := 13005) (t := 9) (e := 45) (n := 3) (by rfl) (by rfl)).reset (kT := [3, 4, 5, 6, 7, 8, 9, 10]) (kO := [2002, 4002, 13005]) (by rfl) (by simp)).same ?_ ?_) ?_
 ·exact vC rfl
 ·exact .cons (.box rfl) (.cons (.box rfl) (.cons (.arr rfl (fun i hi => absurd hi (by simp))) .nil))
 refine fV F.length (fun j t => t = srI cells seed msg h F j) 0 rfl (by omega) (fun j t hJ hj => ?_)
 subst hJ
 refine aI ?_
 refine aB M hI hn (by rfl) (by kernel_rfl) ?_ ?_
 ·simp
 refine aJ (by rfl) (fun hc => ?_) (fun hc => ?_)
 ·have hj2 : j < F.length := by
   have hc' : decide ((j : Int) < (F.length : Int)) = true := hc
   have := of_decide_eq_true hc'
   omega
  refine aN ?_
  change Tri _ _ _ _ _
  refine aI ?_
  refine bI ?_
  refine aS M hI hn (by rfl) (by kernel_rfl) ?_ ?_
  ·simp
   rw [hbf]
   omega
  change Tri _ _ _ _ _
  refine aS M hI hn (by rfl) (by kernel_rfl) ?_ ?_
  ·simp
  intro a w hg
  refine ⟨j + 1, _, by omega, by omega, rfl, (hg.reset (kT := [3, 4, 5, 6, 7, 8, 9, 10]) (kO := [2002, 4002, 13005]) (by rfl) ?_).same ?_ ?_⟩
  ·simp
   exact aWj (fun j _ => aEq (show (fltF (kG F _) j).all (dY false) = true from rfl)) (aEq rfl)
  ·exact .cons rfl (.cons rfl (.cons rfl (.cons rfl (.cons rfl (.cons rfl (.cons rfl (.cons (by rw [bZ j (by omega)]) .nil)))))))
  ·refine .cons (.box rfl) (.cons (.box rfl) (.cons (.arr rfl (aMi (fun i hi => ?_) ?_)) .nil))
   ·unfold fltF kG
    rw [zG, zG, List.getElem?_map, List.getElem?_map, List.getElem?_range hi, List.getElem?_range (by omega)]
   ·unfold fltF kG
    rw [zG, List.getElem?_map, List.getElem?_range (by omega)]
    show _ = aJy (fM (intB F) j)
    rw [xJ]
    rfl
 have hj2 : j = F.length := by
  have hc' : decide ((j : Int) < (F.length : Int)) = false := hc
  have := of_decide_eq_false hc'
  omega
 subst hj2
 refine dZ ?_
 change Tri _ _ _ _ _
 refine aV (s' := srK cells seed msg h F) (fun a w hg => (hg.resetF (kF := [13005]) (kT := [3, 4, 5, 6, 7, 8, 9]) (kO := [2002, 4002]) (.inr hS) (by rfl) ?_).same ?_ ?_) ?_
 ·simp
  exact fun i' _ => aEq (show (fltF (kG F F.length) i').all (dY false) = true from rfl)
 ·refine .cons rfl (.cons rfl (.cons rfl (.cons rfl (.cons rfl (.cons rfl (.cons ?_ .nil))))))
  exact congrArg (fun f => pv1 (.sl 3 F.length f)) (funext fun i' => by rw [Nat.zero_add])
 ·exact uZ rfl
 refine aB M hI hn (by rfl) (by kernel_rfl) ?_ ?_
 ·simp
 refine aV (s' := srD seed msg h F c) (fun a w hg => (hg.reset (kT := [4, 5, 6, 7, 8, 9, 11]) (kO := [2002, 4002, 14002]) (by rfl) (by simp)).same ?_ ?_) ?_
 ·exact vC rfl
 ·refine .cons (.box rfl) (.cons (.box rfl) (.cons (.box ?_) .nil))
  show hwPC (bk4 (lJ (intB (rowB cells.length (byF cells))) false)) z16s = _
  rw [xJ, hcc]
 obtain ⟨E, hE⟩ : ∃ E, exec (intB F) (Prg.signI h) c 0 = E := ⟨_, rfl⟩
 have hrow : jS F.length (fltF (kG F F.length)) = kG F F.length := by
  have := rowFlt_F (kG F F.length)
  rwa [show (kG F F.length).length = F.length from by unfold kG; simp] at this
 have hrun : gV (jS F.length (fltF (kG F F.length))) (Prg.signI h) ⟨bJ (bk4 c).length (bT (bk4 c)), [], z16s⟩ 0 = (E.1, ⟨bk4 E.2.1, [], z16s⟩, E.2.2) := by
  rw [hrow, aT, srun_eq F h c hdim, hE]
 have hjb : E.2.2 ≤ 399 := by
  have := wX (jS F.length (fltF (kG F F.length))) (mZ h) ⟨bJ (bk4 c).length (bT (bk4 c)), [], z16s⟩ 0
  rw [hrun] at this
  simpa using this
 have hel : E.2.1.length = 48 := by rw [← hE, exec_len]; exact hcl
 have hcond : gW (bk4 c).length (bT (bk4 c)) ∧ (∀ i, i < F.length → (aCi (fltF (kG F F.length) i)).isSome = true) ∧ Dim ⟨bJ (bk4 c).length (bT (bk4 c)), [], z16s⟩ ∧ (jS F.length (fltF (kG F F.length))).length ≤ 1000000 := by
  refine ⟨jV _ _, fun i _ => rfl, by rw [aT]; exact hdim, ?_⟩
  unfold jS
  simp
  omega
 refine aB M hI hn (by rfl) (by kernel_rfl) ?_ ?_
 ·simp
  exact ⟨hcond.2.1, hdim, hcond.2.2.2⟩
 refine aV (s' := srA seed msg h F c E.2.1 (outS seed msg h E.1) E.2.2 E.1.isSome) (fun a w hg => (hg.reset (kT := [4, 5, 6, 7, 8, 9, 11, 12, 13, 14, 15]) (kO := [2002, 4002, 14002, 15011, 15012]) (by rfl) (by simp)).same ?_ ?_) ?_
 ·refine .cons rfl (.cons rfl (.cons rfl (.cons rfl (.cons rfl (.cons rfl (.cons rfl (.cons rfl (.cons rfl (.cons ?_ (.cons ?_ .nil))))))))))
  ·show pvI ((gV (jS F.length (fltF (kG F F.length))) (Prg.signI h) ⟨bJ (bk4 c).length (bT (bk4 c)), [], z16s⟩ 0).2.2 : Int) = _
   rw [hrun]
  ·show pvB (gV (jS F.length (fltF (kG F F.length))) (Prg.signI h) ⟨bJ (bk4 c).length (bT (bk4 c)), [], z16s⟩ 0).1.isSome = _
   rw [hrun]
 ·refine .cons (.box rfl) (.cons (.box rfl) (.cons (.box rfl) (.cons (.box ?_) (.cons (.box ?_) .nil))))
  ·show hwL (gV (jS F.length (fltF (kG F F.length))) (Prg.signI h) ⟨bJ (bk4 c).length (bT (bk4 c)), [], z16s⟩ 0).2.1 = _
   rw [hrun]
   rfl
  ·show aSi seed msg h (gV (jS F.length (fltF (kG F F.length))) (Prg.signI h) ⟨bJ (bk4 c).length (bT (bk4 c)), [], z16s⟩ 0).1 = _
   rw [hrun]
   rfl
 refine aB M hI hn (by rfl) (by kernel_rfl) ?_ ?_
 ·simp
  exact ⟨hcond.2.1, hdim, hcond.2.2.2⟩
 refine aV (s' := srB seed msg h F c E.2.1 (outS seed msg h E.1) E.2.2 E.1.isSome) (fun a w hg => (hg.reset (kT := [4, 5, 6, 7, 8, 9, 11, 12, 13, 14, 15, 16, 17, 18, 19]) (kO := [2002, 4002, 14002, 15011, 15012, 16011, 16012]) (by rfl) (by simp)).same ?_ ?_) ?_
 ·refine .cons rfl (.cons rfl (.cons rfl (.cons rfl (.cons rfl (.cons rfl (.cons rfl (.cons rfl (.cons rfl (.cons rfl (.cons rfl (.cons rfl (.cons rfl (.cons ?_ (.cons ?_ .nil))))))))))))))
  ·show pvI ((gV (jS F.length (fltF (kG F F.length))) (Prg.signI h) ⟨bJ (bk4 c).length (bT (bk4 c)), [], z16s⟩ 0).2.2 : Int) = _
   rw [hrun]
  ·show pvB (gV (jS F.length (fltF (kG F F.length))) (Prg.signI h) ⟨bJ (bk4 c).length (bT (bk4 c)), [], z16s⟩ 0).1.isSome = _
   rw [hrun]
 ·refine .cons (.box rfl) (.cons (.box rfl) (.cons (.box rfl) (.cons (.box rfl) (.cons (.box rfl) (.cons (.box ?_) (.cons (.box ?_) .nil))))))
  ·show hwL (gV (jS F.length (fltF (kG F F.length))) (Prg.signI h) ⟨bJ (bk4 c).length (bT (bk4 c)), [], z16s⟩ 0).2.1 = _
   rw [hrun]
   rfl
  ·show aSi seed msg h (gV (jS F.length (fltF (kG F F.length))) (Prg.signI h) ⟨bJ (bk4 c).length (bT (bk4 c)), [], z16s⟩ 0).1 = _
   rw [hrun]
   rfl
 clear hrun
 refine aB M hI hn (by rfl) (by kernel_rfl) ?_ ?_
 ·simp
  exact ⟨rfl, hcl, hi64⟩
 have hrs : runS seed msg h (rowB F.length (byF F)) ((bJ (bk4 c).length (bT (bk4 c))).getD 2 []) = runO seed msg h E := by
  rw [xJ, aT]
  show runO seed msg h (exec (intB F) (Prg.signI h) c 0) = _
  rw [hE]
 have hnp := aEf (F := intB F) (Prg.signI h) c 0
 rw [hE] at hnp
 obtain ⟨o, c', j⟩ := E
 dsimp only at hjb hel hnp ⊢
 have hsm : (outS seed msg h o).1.chain.length ≤ 68 ∧ (outS seed msg h o).1.path.length ≤ 16 := by
  cases o with
  | none => exact ⟨Nat.zero_le _, Nat.zero_le _⟩
  | some p => exact aMq seed msg h p
 have hro : runO seed msg h (o, c', j) = ⟨c', outS seed msg h o, o.isSome, if o.isSome then j else j - 1⟩ := by
  cases o <;> rfl
 rw [hro] at hrs
 generalize outS seed msg h o = x at hsm hrs ⊢
 refine aV (s' := srC c' x j o.isSome ((if o.isSome then j else j - 1 : Nat) : Int)) (fun a w hg => (hg.reset (kT := [8, 12, 13, 14, 15, 16, 17, 18, 19, 20, 21, 22, 23, 24]) (kO := [15011, 15012, 16011, 16012, 17012, 17013]) (by rfl) (by simp)).same ?_ ?_) ?_
 ·refine .cons rfl (.cons rfl (.cons rfl (.cons rfl (.cons rfl (.cons rfl (.cons rfl (.cons rfl (.cons rfl (.cons rfl (.cons rfl (.cons ?_ (.cons ?_ (.cons rfl .nil)))))))))))))
  ·show pvB (runS seed msg h (rowB F.length (byF F)) ((bJ (bk4 c).length (bT (bk4 c))).getD 2 [])).done = _
   rw [hrs]
  ·show pvI ((runS seed msg h (rowB F.length (byF F)) ((bJ (bk4 c).length (bT (bk4 c))).getD 2 [])).many : Int) = _
   rw [hrs]
 ·refine .cons (.box rfl) (.cons (.box rfl) (.cons (.box rfl) (.cons (.box rfl) (.cons (.box ?_) (.cons (.box ?_) .nil)))))
  ·show hwPC (bk4 (runS seed msg h (rowB F.length (byF F)) ((bJ (bk4 c).length (bT (bk4 c))).getD 2 [])).cells) z16s = _
   rw [hrs]
  ·show sgC (runS seed msg h (rowB F.length (byF F)) ((bJ (bk4 c).length (bT (bk4 c))).getD 2 [])).out = _
   rw [hrs]
 have hb4 : (bk4 c').length ≤ 1000 ∧ ∀ l ∈ bk4 c', l.length ≤ 100000 := by
  refine ⟨by show 4 ≤ 1000; omega, fun l hl => ?_⟩
  simp only [bk4, List.mem_cons, List.not_mem_nil, or_false] at hl
  rcases hl with rfl | rfl | rfl | rfl
  ·exact Nat.zero_le _
  ·exact Nat.zero_le _
  ·omega
  ·exact Nat.zero_le _
 refine aI ?_
 refine aB M hI hn (by rfl) (by kernel_rfl) ?_ ?_
 ·simp
 cases o with
 | none =>
  have hj1 : 0 < j := hnp rfl
  refine aJ (by rfl) (fun hc => ?_) (fun hc => ?_)
  ·refine aS M hI hn (by rfl) (by kernel_rfl) ?_ ?_
   ·simp
   change Tri _ _ _ _ _
   refine aV (s' := srC c' x j false (j : Int)) (fun a w hg => (hg.reset (kT := [8, 12, 13, 14, 15, 16, 17, 18, 19, 20, 21, 22, 23, 24]) (kO := [15011, 15012, 16011, 16012, 17012, 17013]) (by rfl) (by simp)).same ?_ ?_) ?_
   ·refine .cons rfl (.cons rfl (.cons rfl (.cons rfl (.cons rfl (.cons rfl (.cons rfl (.cons rfl (.cons rfl (.cons rfl (.cons rfl (.cons rfl (.cons ?_ (.cons rfl .nil)))))))))))))
    exact congrArg pvI ((bZ (j - 1) (by omega)).trans (by rw [show j - 1 + 1 = j by omega]))
   ·exact uZ rfl
   refine aB M hI hn (by rfl) (by kernel_rfl) ?_ ?_
   ·simp
    have hls : lens5 True True True True x.1.chain x.1.path := ⟨trivial, trivial, trivial, trivial, by omega, by omega⟩
    exact ⟨hls, fun _ => hls, fun _ => hb4⟩
   refine bC (fun a w hg => ⟨.inr rfl, _, ?_, hg⟩)
   refine aK (by rfl) (by simp) (by rfl) (by rfl) ?_
   simp [aGm, yP]
  ·cases hc
 | some p =>
  refine aJ (by rfl) (fun hc => ?_) (fun hc => ?_)
  ·cases hc
  ·refine aN ?_
   change Tri _ _ _ _ _
   refine aV (s' := srC c' x j true (j : Int)) (fun a w hg => (hg.reset (kT := [8, 12, 13, 14, 15, 16, 17, 18, 19, 20, 21, 22, 23, 24]) (kO := [15011, 15012, 16011, 16012, 17012, 17013]) (by rfl) (by simp)).same ?_ ?_) ?_
   ·refine .cons rfl (.cons rfl (.cons rfl (.cons rfl (.cons rfl (.cons rfl (.cons rfl (.cons rfl (.cons rfl (.cons rfl (.cons rfl (.cons rfl (.cons ?_ (.cons rfl .nil)))))))))))))
    rfl
   ·exact uZ rfl
   refine aB M hI hn (by rfl) (by kernel_rfl) ?_ ?_
   ·simp
    have hls : lens5 True True True True x.1.chain x.1.path := ⟨trivial, trivial, trivial, trivial, by omega, by omega⟩
    exact ⟨hls, fun _ => hls, fun _ => hb4⟩
   refine bC (fun a w hg => ⟨.inr rfl, _, ?_, hg⟩)
   refine aK (by rfl) (by simp) (by rfl) (by rfl) ?_
   simp [aGm, yP]
end Go.Proofs.YtihghljfmlbfhaaGreatDoor.Pv
namespace Go.Proofs.YtihghljfmlbfhaaGreatDoor.Pv
open Go.ChangeShapes Go.WideShapes Go.ChangeAt Go.RowKit Go.Joins Go.Deep
section
variable {H : Type} {enc : TypeId × Value → H} {w : World} {base : Nat} {spare : Nat → Bool} {held : Bool}
theorem int_in8 {z : Int} (hw : (Lit.int .i64 z).wf = true) : i64P z := by
 have hb := bounds_i64 hw
 exact ⟨hb.1, by have := hb.2; omega⟩
end
section
variable {H : Type} {enc : TypeId × Value → H} {v : Value} {d : DataW H} {p : List MemPlace} {W : World} {base : Nat}
end
end Go.Proofs.YtihghljfmlbfhaaGreatDoor.Pv
