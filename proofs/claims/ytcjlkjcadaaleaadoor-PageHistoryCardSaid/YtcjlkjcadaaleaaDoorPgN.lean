/-
  Package page by the abstract machine: histories.
-/
import Derived.Test.YtcjlkjcadaaleaaDoorQpM
namespace Go.Proofs.YtcjlkjcadaaleaaDoor.Pv
open Go.RowKit

structure WriteS where
  page : Nat
  content : ByteArray
  deriving Inhabited
def writeF (l : List WriteS) : Nat → List PC := fun i => [.lit (.int .u8 ((l.getD i default).page : Int)), .lit (.string (l.getD i default).content)]
structure HistS where
  m : MemS
  r : List UInt8
  cs : List ByteArray
  deriving Inhabited
def hStep (key : List UInt8) (n : Nat) (h : HistS) (w : WriteS) : HistS :=
  ⟨pgSt key h.r h.m ((w.page % n : Nat) : Int) w.content, storeR key h.r h.m ((w.page % n : Nat) : Int) w.content, h.cs.set (w.page % n) w.content⟩
def hist (key : List UInt8) (pages : List ByteArray) (ws : List WriteS) : Nat → HistS
  | 0 => ⟨newM key pages, newR key pages, pages⟩
  | k + 1 => hStep key pages.length (hist key pages ws k) (ws.getD k default)
theorem hist_good (key : List UInt8) (pages : List ByteArray) (ws : List WriteS) (h0 : 0 < pages.length) (h1 : pages.length ≤ 16) : ∀ k, (hist key pages ws k).cs.length = pages.length ∧ Good key (hist key pages ws k).r (hist key pages ws k).m (hist key pages ws k).cs
  | 0 => ⟨rfl, good_new key pages h1⟩
  | k + 1 => by
    obtain ⟨h2, h3⟩ := hist_good key pages ws h0 h1 k
    have h4 := Nat.mod_lt (ws.getD k default).page h0
    refine ⟨?_, (good_store h3 (by rw [h2]; exact h4) _).2.1⟩
    show ((hist key pages ws k).cs.set _ _).length = _
    rw [List.length_set, h2]
theorem hist_memOk (key : List UInt8) (pages : List ByteArray) (ws : List WriteS) (h0 : 0 < pages.length) (h1 : pages.length ≤ 16) (h2 : ∀ c ∈ pages, c.size ≤ 5000) : ∀ k, (∀ j, j < k → (ws.getD j default).content.size ≤ 5000) → MemOk (hist key pages ws k).m
  | 0, _ => new_memOk key pages h1 h2
  | k + 1, h => by
    have h3 := hist_memOk key pages ws h0 h1 h2 k fun j hj => h j (by omega)
    obtain ⟨h4, h5⟩ := hist_good key pages ws h0 h1 k
    have h6 := Nat.mod_lt (ws.getD k default).page h0
    exact good_memOk h3 (ws.getD k default).content (h k (by omega)) (good_store h5 (by rw [h4]; exact h6) (ws.getD k default).content).1
def memF (f : Nat → HistS) : Nat → List PC := fun i => memL (f i).m
def rootF2 (f : Nat → HistS) : Nat → List PC := fun i => [.bs 16 (f i).r]
def histOk (pages : List ByteArray) (ws : List WriteS) : Bool := decide (0 < pages.length ∧ pages.length ≤ 16 ∧ ws.length ≤ 12) && (shortS pages && ws.all fun w => decide (w.content.size ≤ 200))
def histPV (key : List UInt8) (pages : List ByteArray) (ws : List WriteS) : PV := match histOk pages ws with
  | true => .tup [.one (.sl 19 (ws.length + 1) (memF (hist key pages ws))), .one (.sl 16 (ws.length + 1) (rootF2 (hist key pages ws))), .one (.sl 1 pages.length (strF (hist key pages ws ws.length).cs)), .one (.lit (.bool true))]
  | false => .tup [.one (.sl 19 0 (memF (hist key pages ws))), .one (.sl 16 0 (rootF2 (hist key pages ws))), .one (.sl 1 0 (strF [])), .one (.lit (.bool false))]
theorem strF_set (l : List ByteArray) (i : Nat) (b : ByteArray) (hi : i < l.length) (j : Nat) : strF (l.set i b) j = if j = i then [.lit (.string b)] else strF l j := by
  unfold strF
  by_cases h : j = i
  · subst h
    rw [if_pos rfl, List.getD_eq_getElem?_getD, List.getElem?_set_self hi]
    rfl
  · rw [if_neg h, List.getD_eq_getElem?_getD, List.getElem?_set_ne (Ne.symm h), List.getD_eq_getElem?_getD]
def histSt2 (key : List UInt8) (pages : List ByteArray) (ws : List WriteS) (k : Nat) : St := ⟨[(1, none, pv1 (.sl 1 pages.length (strF pages))), (2, none, pv1 (.sl 2 ws.length (writeF ws))), (3, none, pv1 (.pt 0 0 0)), (10, none, pv1 (.pt 3007 0 0)), (11, none, pv1 (.pt 3008 0 0)), (12, none, pvI 0),
   (13, none, pv1 (.ow 4001 0 19 0 (k + 1))), (14, none, pv1 (.ow 5001 0 16 0 (k + 1))), (15, none, pv1 (.ow 6000 0 1 0 pages.length)), (16, none, pvI k), (17, none, pvI (((ws.getD k default).page % pages.length : Nat) : Int))],
  [(0, none, 0, .box 23 [.bs 16 key]), (3007, none, 0, .box 60 (memL (hist key pages ws k).m)), (3008, none, 0, .box 23 [.bs 16 (hist key pages ws k).r]),
   (4001, none, 0, .arr 60 19 (k + 1) (memF (hist key pages ws))), (5001, none, 0, .arr 23 16 (k + 1) (rootF2 (hist key pages ws))), (6000, none, 0, .arr 9 1 pages.length (strF (hist key pages ws k).cs))]⟩
def histSt (key : List UInt8) (pages : List ByteArray) (ws : List WriteS) (k : Nat) : St := ⟨[(1, none, pv1 (.sl 1 pages.length (strF pages))), (2, none, pv1 (.sl 2 ws.length (writeF ws))), (3, none, pv1 (.pt 0 0 0)), (10, none, pv1 (.pt 3007 0 0)), (11, none, pv1 (.pt 3008 0 0)), (12, none, pvI 0),
   (13, none, pv1 (.ow 4001 0 19 0 (k + 1))), (14, none, pv1 (.ow 5001 0 16 0 (k + 1))), (15, none, pv1 (.ow 6000 0 1 0 pages.length)), (16, none, pvI k)],
  [(0, none, 0, .box 23 [.bs 16 key]), (3007, none, 0, .box 60 (memL (hist key pages ws k).m)), (3008, none, 0, .box 23 [.bs 16 (hist key pages ws k).r]),
   (4001, none, 0, .arr 60 19 (k + 1) (memF (hist key pages ws))), (5001, none, 0, .arr 23 16 (k + 1) (rootF2 (hist key pages ws))), (6000, none, 0, .arr 9 1 pages.length (strF (hist key pages ws k).cs))]⟩
set_option maxRecDepth 100000 in
theorem history_fun (key : List UInt8) (pages : List ByteArray) (ws : List WriteS) (_ : key.length = 16) (hw : ∀ w ∈ ws, w.page < 256) : FunOk Tryd.prog ShaMem 39 false [.w (.agg [.bs 16 key]), pv1 (.sl 1 pages.length (strF pages)), pv1 (.sl 2 ws.length (writeF ws))] (histPV key pages ws) := by
  have M := pg9M
  refine funOk_of Tryd.func39 rfl rfl sha_ext (fun A hS hn hI => ?_)
  refine tri_reg M hI hn (outs := ?_) (s' := ?_) ?_ ?_ ?_ ?_
  rotate_left 2
  · rfl
  · kernel_rfl
  · simp
  refine tri_seq ?_
  refine tri_reg M hI hn (outs := ?_) (s' := ?_) ?_ ?_ ?_ ?_
  rotate_left 2
  · rfl
  · kernel_rfl
  · simp
  refine tri_cond (b := ?_) ?_ (fun hc => ?_) (fun hc => ?_)
  rotate_left 1
  · rfl
  · refine tri_reg M hI hn (outs := ?_) (s' := ?_) ?_ ?_ ?_ ?_
    rotate_left 2
    · rfl
    · kernel_rfl
    · simp
    have h0 : histOk pages ws = false := by
      unfold histOk
      simp at hc
      rw [Bool.and_eq_false_iff, decide_eq_false_iff_not]
      by_cases h : 0 < pages.length ∧ pages.length ≤ 16 ∧ ws.length ≤ 12
      · right
        have h2 : shortS pages = false := by
          rcases hc with ((h3 | h3) | h3) | h3
          · subst h3; simp at h
          · omega
          · omega
          · exact h3
        rw [h2]; rfl
      · left; exact h
    refine tri_ret (fun a w hg => ⟨.inr rfl, _, ?_, hg⟩)
    refine retTo_ex (out := ?_) ?_ ?_ ?_ ?_
    rotate_left 1
    · rfl
    · simp
    · rfl
    · unfold histPV
      rw [h0]
      exact .tup (.cons (.one .nil) (.cons (.one .nil) (.cons (.one .nil) (.cons (.one (.cold rfl)) .nil))))
  · have hpre : (0 < pages.length ∧ pages.length ≤ 16 ∧ ws.length ≤ 12) ∧ shortS pages = true := by
      simp at hc
      obtain ⟨⟨⟨h1, h2⟩, h3⟩, h4⟩ := hc
      have h5 : 0 < pages.length := Nat.pos_of_ne_zero (fun h => h1 (List.eq_nil_of_length_eq_zero h))
      exact ⟨⟨h5, by omega, by omega⟩, h4⟩
    obtain ⟨⟨h0, h1, h2⟩, hsh⟩ := hpre
    have hsz := (short_sizes hsh).2
    have hsz5 : ∀ c ∈ pages, c.size ≤ 5000 := fun c hc => by have := hsz c hc; omega
    have hbm : Tryd.prog.types[60].bytes = 72 := by kernel_rfl
    have hbd : Tryd.prog.types[23].bytes = 16 := by kernel_rfl
    have hbs : Tryd.prog.types[9].bytes = 16 := by kernel_rfl
    refine tri_skip ?_
    change Tri _ _ _ _ _
    refine tri_reg M hI hn (outs := ?_) (s' := ?_) ?_ ?_ ?_ ?_
    rotate_left 2
    · rfl
    · kernel_rfl
    · simp
      exact hsz5
    refine tri_reg M hI hn (outs := ?_) (s' := ?_) ?_ ?_ ?_ ?_
    rotate_left 2
    · rfl
    · kernel_rfl
    · simp
    refine tri_reg M hI hn (outs := ?_) (s' := ?_) ?_ ?_ ?_ ?_
    rotate_left 2
    · rfl
    · kernel_rfl
    · simp
    refine tri_reg M hI hn (outs := ?_) (s' := ?_) ?_ ?_ ?_ ?_
    rotate_left 2
    · rfl
    · kernel_rfl
    · simp [hbs]
      omega
    refine tri_seq ?_
    refine tri_reg M hI hn (outs := ?_) (s' := ?_) ?_ ?_ ?_ ?_
    rotate_left 2
    · rfl
    · kernel_rfl
    · simp
    refine tri_conv (s' := histSt key pages ws 0) (fun a w hg => (hg.reset (kT := [1, 2, 3, 10, 11, 12, 13, 14, 15, 16]) (kO := [0, 3007, 3008, 4001, 5001, 6000]) (by rfl) ?_).same ?_ ?_) ?_
    · simp
      refine ⟨all_cold rfl, all_cold rfl, fun j _ => ?_⟩
      unfold appF
      rw [if_neg (by omega)]
      exact all_cold (show (strF pages _).all (coldPC false) = true from rfl)
    · simp only [rowStr_strF]
      refine .cons rfl (.cons rfl (.cons rfl (.cons rfl (.cons rfl (.cons ?_ (.cons rfl (.cons rfl (.cons (congrArg (fun n => pv1 (.ow 6000 0 1 0 n)) (Nat.zero_add _)) (.cons rfl .nil)))))))))
      exact congrArg pvI (show newE pages = 0 by simp [newE, h1])
    · simp only [rowStr_strF]
      refine .cons (.box rfl) (.cons (.box rfl) (.cons (.box rfl) (.cons (.arr rfl (fun i hi => ?_)) (.cons (.arr rfl (fun i hi => ?_)) (.cons (.arr (Nat.zero_add _) (fun i hi => ?_)) .nil)))))
      · obtain rfl : i = 0 := by omega
        rfl
      · obtain rfl : i = 0 := by omega
        rfl
      · unfold appF
        rw [if_neg (by omega)]
        rfl
    refine tri_block ?_
    refine tri_loop ws.length (fun k s => s = histSt key pages ws k ∧ ∀ j, j < k → (ws.getD j default).content.size ≤ 200) 0 ⟨rfl, fun j hj => by omega⟩ (by omega) (fun k s hJ hkl => ?_)
    obtain ⟨rfl, hall⟩ := hJ
    refine tri_seq ?_
    refine tri_reg M hI hn (outs := ?_) (s' := ?_) ?_ ?_ ?_ ?_
    rotate_left 2
    · rfl
    · kernel_rfl
    · simp
    refine tri_cond (b := ?_) ?_ (fun hc => ?_) (fun hc => ?_)
    rotate_left 1
    · rfl
    · have hk2 : k < ws.length := by simpa using hc
      refine tri_skip ?_
      change Tri _ _ _ _ _
      refine tri_seq ?_
      refine tri_block ?_
      refine tri_seq ?_
      refine tri_reg M hI hn (outs := ?_) (s' := ?_) ?_ ?_ ?_ ?_
      rotate_left 2
      · rfl
      · kernel_rfl
      · simp
        exact hk2
      refine tri_cond (b := ?_) ?_ (fun hc => ?_) (fun hc => ?_)
      rotate_left 1
      · rfl
      · refine tri_reg M hI hn (outs := ?_) (s' := ?_) ?_ ?_ ?_ ?_
        rotate_left 2
        · rfl
        · kernel_rfl
        · simp
        have h3 : histOk pages ws = false := by
          have h4 : ¬ (ws.getD k default).content.size ≤ 200 := by
            simp at hc
            simp only [List.getD_eq_getElem?_getD]
            omega
          have h5 : (ws.all fun w => decide (w.content.size ≤ 200)) = false := by
            rw [← Bool.not_eq_true]
            intro h
            exact h4 (of_decide_eq_true (List.all_eq_true.1 h _ (getD_mem hk2 default)))
          unfold histOk
          rw [h5, Bool.and_false, Bool.and_false]
        refine tri_ret (fun a w hg => ⟨.inr rfl, _, ?_, hg⟩)
        refine retTo_ex (out := ?_) ?_ ?_ ?_ ?_
        rotate_left 1
        · rfl
        · simp
        · rfl
        · unfold histPV
          rw [h3]
          exact .tup (.cons (.one .nil) (.cons (.one .nil) (.cons (.one .nil) (.cons (.one (.cold rfl)) .nil))))
      · have hcs : (ws.getD k default).content.size ≤ 200 := by
          simp at hc
          simp only [List.getD_eq_getElem?_getD]
          omega
        have hpg := hw _ (getD_mem hk2 default)
        obtain ⟨hlen, hgood⟩ := hist_good key pages ws h0 h1 k
        have hmod := Nat.mod_lt (ws.getD k default).page h0
        have hmk := hist_memOk key pages ws h0 h1 hsz5 k (fun j hj => by have := hall j hj; omega)
        have hst := (good_store hgood (k := (ws.getD k default).page % pages.length) (by rw [hlen]; exact hmod) (ws.getD k default).content).1
        refine tri_skip ?_
        change Tri _ _ _ _ _
        refine tri_reg M hI hn (outs := ?_) (s' := ?_) ?_ ?_ ?_ ?_
        rotate_left 2
        · rfl
        · kernel_rfl
        · simp
          exact ⟨hk2, fun h => by subst h; simp at h0⟩
        refine tri_conv (s' := histSt2 key pages ws k) (fun a w hg => (hg.reset (kT := [1, 2, 3, 10, 11, 12, 13, 14, 15, 16, 17]) (kO := [0, 3007, 3008, 4001, 5001, 6000]) (by rfl) ?_).same ?_ ?_) ?_
        · simp
          exact ⟨fun j _ => all_cold (show (memF _ j).all (coldPC false) = true from rfl), fun j _ => all_cold (show (rootF2 _ j).all (coldPC false) = true from rfl), fun j _ => all_cold (show (strF _ j).all (coldPC false) = true from rfl)⟩
        · refine .cons rfl (.cons rfl (.cons rfl (.cons rfl (.cons rfl (.cons rfl (.cons rfl (.cons rfl (.cons rfl (.cons rfl (.cons ?_ .nil))))))))))
          refine congrArg pvI ?_
          rw [IntKind.wrap_i64]
          have e : (((ws.getD k default).page : Int) + 9223372036854775808) % 18446744073709551616 - 9223372036854775808 = ((ws.getD k default).page : Int) := by omega
          exact (congrArg (fun z => Int.tmod z (pages.length : Int)) e).trans rfl
        · exact .cons (.box rfl) (.cons (.box rfl) (.cons (.box rfl) (.cons (.arr rfl (fun _ _ => rfl)) (.cons (.arr rfl (fun _ _ => rfl)) (.cons (.arr rfl (fun _ _ => rfl)) .nil)))))
        have hmod2 := hmod
        have hcs2 := hcs
        simp only [List.getD_eq_getElem?_getD] at hmod2 hcs2
        refine tri_reg M hI hn (outs := ?_) (s' := ?_) ?_ ?_ ?_ ?_
        rotate_left 2
        · rfl
        · kernel_rfl
        · simp
          rw [← Int.natCast_emod]
          exact ⟨hk2, hmk, by unfold i64P; omega, by omega⟩
        refine tri_reg M hI hn (outs := ?_) (s' := ?_) ?_ ?_ ?_ ?_
        rotate_left 2
        · rfl
        · kernel_rfl
        · simp [hbm]
          omega
        refine tri_reg M hI hn (outs := ?_) (s' := ?_) ?_ ?_ ?_ ?_
        rotate_left 2
        · rfl
        · kernel_rfl
        · simp [hbd]
          omega
        refine tri_region M hI hn (outs := ?_) (s' := ?_) ?_ ?_ ?_ ?_
        rotate_left 2
        · rfl
        · kernel_rfl
        · simp
          rw [← Int.natCast_emod]
          exact ⟨hk2, ⟨by omega, by omega⟩, by omega⟩
        change Tri _ _ _ _ _
        refine tri_region M hI hn (outs := ?_) (s' := ?_) ?_ ?_ ?_ ?_
        rotate_left 2
        · rfl
        · kernel_rfl
        · simp
        intro a w hg
        refine ⟨k + 1, _, by omega, by omega, ⟨rfl, fun i hi => ?_⟩, (hg.reset (kT := [1, 2, 3, 10, 11, 12, 13, 14, 15, 16]) (kO := [0, 3007, 3008, 4001, 5001, 6000]) (by rfl) ?_).same ?_ ?_⟩
        · rcases Nat.lt_or_ge i k with h | h
          · exact hall i h
          · obtain rfl : i = k := by omega
            exact hcs
        · simp
          refine ⟨appF_cold (fun j _ => all_cold (show (memF _ j).all (coldPC false) = true from rfl)) (all_cold rfl), appF_cold (fun j _ => all_cold (show (rootF2 _ j).all (coldPC false) = true from rfl)) (all_cold rfl), fun j _ x hx => ?_⟩
          split at hx
          · exact all_cold (show List.all _ _ = true from rfl) x hx
          · exact all_cold (show (strF _ j).all (coldPC false) = true from rfl) x hx
        · simp only [rowBox_boxF, rowInt_intF]
          refine .cons rfl (.cons rfl (.cons rfl (.cons rfl (.cons rfl (.cons (congrArg pvI hst) (.cons rfl (.cons rfl (.cons rfl (.cons (by rw [wrap_nat k (by omega)]) .nil)))))))))
        · simp only [rowBox_boxF, rowInt_intF]
          refine .cons (.box rfl) (.cons (.box rfl) (.cons (.box rfl) (.cons (.arr rfl (appF_ext (fun i _ => rfl) rfl)) (.cons (.arr rfl (appF_ext (fun i _ => rfl) rfl)) (.cons (.arr rfl (fun i hi => ?_)) .nil)))))
          have e : strF (hist key pages ws (k + 1)).cs i = strF ((hist key pages ws k).cs.set ((ws.getD k default).page % pages.length) (ws.getD k default).content) i := rfl
          rw [e, strF_set _ _ _ (by rw [hlen]; exact hmod), Nat.zero_add, Int.toNat_natCast]
          rfl
    · refine tri_exit ?_
      change Tri _ _ _ _ _
      have hk3 : k = ws.length := by
        have : ¬ k < ws.length := by simpa using hc
        omega
      subst hk3
      refine tri_reg M hI hn (outs := ?_) (s' := ?_) ?_ ?_ ?_ ?_
      rotate_left 2
      · rfl
      · kernel_rfl
      · simp
      have h3 : histOk pages ws = true := by
        unfold histOk
        rw [hsh, Bool.true_and, Bool.and_eq_true, decide_eq_true_eq]
        refine ⟨⟨h0, h1, h2⟩, List.all_eq_true.2 fun b hb => ?_⟩
        obtain ⟨i, hi, rfl⟩ := List.getElem_of_mem hb
        have := hall i hi
        rw [List.getD_eq_getElem?_getD, List.getElem?_eq_getElem hi] at this
        exact decide_eq_true this
      refine tri_ret (fun a w hg => ⟨.inr rfl, _, ?_, hg⟩)
      refine retTo_ex (out := ?_) ?_ ?_ ?_ ?_
      rotate_left 1
      · rfl
      · simp
      · rfl
      · unfold histPV
        rw [h3]
        exact .tup (.cons (.one (.row rfl trivial (by omega) (fun j hj => by rw [Nat.zero_add]) (fun j hj => rfl))) (.cons (.one (.row rfl trivial (by omega) (fun j hj => by rw [Nat.zero_add]) (fun j hj => rfl))) (.cons (.one (.row rfl trivial (by omega) (fun j hj => by rw [Nat.zero_add]) (fun j hj => rfl))) (.cons (.one (.cold rfl)) .nil))))

end Go.Proofs.YtcjlkjcadaaleaaDoor.Pv
