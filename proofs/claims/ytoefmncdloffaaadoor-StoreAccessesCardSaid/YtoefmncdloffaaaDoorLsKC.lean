
import Derived.Test.YtoefmncdloffaaaDoorLsK
namespace Go.Proofs.YtoefmncdloffaaaDoor.Pv
open Go.RowKit
theorem zs_get (j : Nat) : zeroSec.getD j 0 = 0 := by
  unfold zeroSec
  rw [List.getD_eq_getElem?_getD, List.getElem?_replicate]
  split <;> rfl
theorem zero_row {e : Nat → List PC} (h : ∀ i, e i = [.lit (.int .u8 0)]) : strOf (rowB 256 e) = strOf zeroSec := by
  have h2 : rowB 256 e = zeroSec := by
    have e2 : e = fun _ => [.lit (.int .u8 0)] := funext h
    rw [e2]
    exact List.eq_replicate_iff.2 ⟨by unfold rowB; rw [List.length_map, List.length_range], fun x hx => by
      obtain ⟨i, _, rfl⟩ := List.mem_map.1 hx
      rfl⟩
  rw [h2]
theorem acc_cell {rec : Int} (h0 : 0 ≤ rec) (h3 : rec ≤ 3) {k : Nat} (hk : k < 16) : IntKind.i64.wrap (firstS rec (IntKind.i64.wrap ((k : Int).tdiv 8)) + (k : Int).tmod 8) = firstS rec ((k / 8 : Nat) : Int) + ((k % 8 : Nat) : Int) := by
  have e1 : (k : Int).tdiv 8 = ((k / 8 : Nat) : Int) := rfl
  have e2 : (k : Int).tmod 8 = ((k % 8 : Nat) : Int) := rfl
  rw [e1, e2, show IntKind.i64.wrap ((k / 8 : Nat) : Int) = ((k / 8 : Nat) : Int) from by rw [IntKind.wrap_i64]; omega, firstS_ok h0 h3 (by omega) (by omega), IntKind.wrap_i64]
  omega
def fst16 (s : Int) (k : Nat) : Int := if k ≤ 16 then -1 else s
def lst16 (A : List Acc) (k : Nat) : Int := if k ≤ 16 then -1 else (A.getD (k - 1) zeroAcc).cell
def acO (f : Fl) (u : Upd) (g : Fl) : Wr := [(0, none, 0, .box 72 (flPC f)), (1, none, 0, .box 74 (updPC u)), (2, none, 0, .box 72 (flPC g))]
def acT (wh : Bool) (A : List Acc) (x y : Int) (k : Nat) : List (Nat × Option Bool × PV) := [(4, none, pvB wh), (6, none, pv1 (.pt 0 0 0)), (7, none, pv1 (.pt 1 0 0)), (8, none, pv1 (.pt 2 0 0)), (13, none, pvI x), (14, none, pvI y), (25, none, pv1 (.sl 4 A.length (accF A))), (26, none, pvI (A.length : Int)), (27, none, pvI (k : Int))]
def acSt (f : Fl) (u : Upd) (g : Fl) (wh : Bool) (A : List Acc) (s : Int) (k : Nat) : St := ⟨acT wh A (fst16 s k) (lst16 A k) k, acO f u g⟩
def ac2St (f : Fl) (u : Upd) (g : Fl) (wh : Bool) (A : List Acc) (x y : Int) (k : Nat) (a : Acc) : St := ⟨(15, none, pvI (k : Int)) :: (16, none, pv1 (.pt 4003 0 0)) :: acT wh A x y k, (4003, none, 0, .box 59 (accPC a)) :: acO f u g⟩
def ac3St (f : Fl) (u : Upd) (g : Fl) (wh : Bool) (A : List Acc) (x y : Int) (k : Nat) (a : Acc) (j : Nat) : St := ⟨(15, none, pvI (k : Int)) :: (16, none, pv1 (.pt 4003 0 0)) :: (65, none, pv1 (.sl 1 256 (byF zeroSec))) :: (66, none, pvI 256) :: (67, none, pvI (j : Int)) :: acT wh A x y k, (4003, none, 0, .box 59 (accPC a)) :: acO f u g⟩
def ac4St (f : Fl) (u : Upd) (_ : Fl) (h : Fl) (s : Int) (j : Nat) : St := ⟨[(6, none, pv1 (.pt 0 0 0)), (7, none, pv1 (.pt 1 0 0)), (13, none, pvI s), (19, none, pv1 (.pt 26001 0 0)), (113, none, pvI (j : Int))], [(0, none, 0, .box 72 (flPC f)), (1, none, 0, .box 74 (updPC u)), (26001, none, 0, .box 72 (flPC h))]⟩
structure AccOk (rec s : Int) (wh : Bool) (A : List Acc) : Prop where
  len : A.length ≤ 25
  s0 : 0 ≤ s
  s1 : s ≤ 120
  two : s = firstS rec 0 ∨ s = firstS rec 1
  rd : ∀ k, k < A.length → k < 16 → A.getD k zeroAcc = ⟨3, 0, firstS rec ((k / 8 : Nat) : Int) + ((k % 8 : Nat) : Int), noBytes⟩
  wr : ∀ k, k < A.length → 16 ≤ k → ∃ (c : Int) (b : List UInt8), A.getD k zeroAcc = ⟨4, 0, c, strOf b⟩ ∧ b.length = 256 ∧ s ≤ c ∧ c < s + 8 ∧ (k = 16 → c = s ∧ b = zeroSec)
  short : A.length ≤ 16 → wh = false
  whole : wh = true → (A.getD (A.length - 1) zeroAcc).cell = s
theorem accOk {f : Fl} {u : Upd} {g : Fl} {o : StO} {wh : Bool} {A : List Acc} (h : ChkPre f u g o wh A) : AccOk u.rec_ (newF f u) wh A := by
  obtain ⟨hf, hput⟩ := h
  obtain ⟨m, hA, h1, h2, h3⟩ := acc_take hf
  have hl := full_length hf
  have hs := hf.nsec
  have hfi := hf.first
  rw [hput] at hA h3
  dsimp only at hA h3
  have hAl : A.length = m := by rw [hA, List.length_take]; omega
  have hget : ∀ k, k < A.length → A.getD k zeroAcc = ((fullL f u)[k]?).getD zeroAcc := fun k hk => by
    rw [hA, List.getD_eq_getElem?_getD, List.getElem?_take, if_pos (by omega)]
  refine ⟨by omega, hfi.1, by omega, newF_two f u, fun k hk hk2 => ?_, fun k hk hk2 => ?_, fun hle => ?_, fun hw => ?_⟩
  · rw [hget k hk, full_read f u hk2]; rfl
  · obtain ⟨c, b, e, e1, e2, e3, e4, _⟩ := full_write hf hk2 (by omega)
    exact ⟨c, b, by rw [hget k hk, e]; rfl, e1, e2, e3, e4⟩
  · cases wh with
    | false => rfl
    | true => have := h3 rfl; omega
  · have hm := h3 hw
    obtain ⟨c, b, e, e1, e2, e3, _, e4⟩ := full_write hf (k := A.length - 1) (by omega) (by omega)
    rw [hget _ (by omega), e]
    exact e4 (by omega)
set_option maxRecDepth 100000 in
set_option maxHeartbeats 4000000 in
theorem acc_fun (f : Fl) (u : Upd) (g : Fl) (o : StO) (wh : Bool) (A : List Acc) (h : ChkPre f u g o wh A) : FunOk Tryd.prog ShaMem 45 true (chkArgs f u g o wh A) (pvB true) := by
  have M := ls6M
  have hok := accOk h
  obtain ⟨hf, hput⟩ := h
  have hsf := hf.sz
  have hsg : Sz g := by have := (put_ok hf).sz; rw [hput] at this; exact this
  have h0 := hf.r0
  have h3 := hf.r3
  have hclr := clr_get hf
  rw [hput] at hclr
  dsimp only at hclr
  clear hput hf
  generalize newF f u = s at hok hclr
  have hs0 := hok.s0
  have hs1 := hok.s1
  refine funOk_of Tryd.func45 rfl rfl sha_ext (fun A1 hS hn hI => ?_)
  unfold chkArgs
  refine tri_reg M hI hn (outs := ?_) (s' := ?_) ?_ ?_ ?_ ?_
  rotate_left 2
  · rfl
  · kernel_rfl
  · simp
  refine tri_reg M hI hn (outs := ?_) (s' := ?_) ?_ ?_ ?_ ?_
  rotate_left 2
  · rfl
  · kernel_rfl
  · simp
  refine tri_seq ?_
  refine tri_reg M hI hn (outs := ?_) (s' := ?_) ?_ ?_ ?_ ?_
  rotate_left 2
  · rfl
  · kernel_rfl
  · simp
  refine tri_block ?_
  refine tri_conv (s' := acSt f u g wh A s 0) (fun a w hg => (hg.reset (kT := [4, 6, 7, 8, 13, 14, 25, 26, 27]) (kO := [0, 1, 2]) (by rfl) (by simp)).same ?_ ?_) ?_
  · exact .cons rfl (.cons rfl (.cons rfl (.cons rfl (.cons rfl (.cons rfl (.cons rfl (.cons rfl (.cons rfl .nil))))))))
  · exact .cons (.box rfl) (.cons (.box rfl) (.cons (.box rfl) .nil))
  have hAl := hok.len
  refine tri_loop A.length (fun k t => t = acSt f u g wh A s k) 0 rfl (by omega) (fun k t hJ hk => ?_)
  subst hJ
  refine tri_reg M hI hn (outs := ?_) (s' := ?_) ?_ ?_ ?_ ?_
  rotate_left 2
  · rfl
  · kernel_rfl
  · simp
  refine tri_seq ?_
  refine tri_cond (b := ?_) ?_ (fun hc => ?_) (fun hc => ?_)
  rotate_left 1
  · rfl
  · have hk2 : k < A.length := by have := of_decide_eq_true hc; omega
    refine tri_skip ?_
    change Tri _ _ _ _ _
    refine tri_seq ?_
    refine tri_block ?_
    refine tri_reg M hI hn (outs := ?_) (s' := ?_) ?_ ?_ ?_ ?_
    rotate_left 2
    · rfl
    · kernel_rfl
    · simp
      omega
    refine tri_conv (s' := ac2St f u g wh A (fst16 s k) (lst16 A k) k (A.getD k zeroAcc)) (fun a w hg => (hg.reset (kT := [15, 16, 4, 6, 7, 8, 13, 14, 25, 26, 27]) (kO := [4003, 0, 1, 2]) (by rfl) (by simp)).same ?_ ?_) ?_
    · exact .cons rfl (.cons rfl (.cons rfl (.cons rfl (.cons rfl (.cons rfl (.cons rfl (.cons rfl (.cons rfl (.cons rfl (.cons rfl .nil))))))))))
    · exact .cons (.box rfl) (.cons (.box rfl) (.cons (.box rfl) (.cons (.box rfl) .nil)))
    refine tri_seq ?_
    refine tri_reg M hI hn (outs := ?_) (s' := ?_) ?_ ?_ ?_ ?_
    rotate_left 2
    · rfl
    · kernel_rfl
    · simp
    refine tri_cond (b := ?_) ?_ (fun hc => ?_) (fun hc => ?_)
    rotate_left 1
    · rfl
    · have hk3 : k < 16 := by have := of_decide_eq_true hc; omega
      rw [hok.rd k hk2 hk3]
      refine tri_seq ?_
      refine tri_reg M hI hn (outs := ?_) (s' := ?_) ?_ ?_ ?_ ?_
      rotate_left 2
      · rfl
      · kernel_rfl
      · simp
      refine tri_cond (b := ?_) ?_ (fun hc => ?_) (fun hc => ?_)
      rotate_left 1
      · rfl
      · exfalso
        have hc5 : (bif (3 : Int) != 3 then true else firstS u.rec_ ((k / 8 : Nat) : Int) + ((k % 8 : Nat) : Int) != IntKind.i64.wrap (firstS u.rec_ (IntKind.i64.wrap ((k : Int).tdiv 8)) + (k : Int).tmod 8)) = true := hc
        rw [acc_cell h0 h3 hk3] at hc5
        simp at hc5
      · refine tri_skip ?_
        change Tri _ _ _ _ _
        refine tri_exit ?_
        change Tri _ _ _ _ _
        refine tri_region M hI hn (outs := ?_) (s' := ?_) ?_ ?_ ?_ ?_
        rotate_left 2
        · rfl
        · kernel_rfl
        · simp
        intro a w hg
        refine ⟨k + 1, _, by omega, by omega, rfl, (hg.reset (kT := [4, 6, 7, 8, 13, 14, 25, 26, 27]) (kO := [0, 1, 2]) (by rfl) (by simp)).same ?_ ?_⟩
        · have e1 : fst16 s k = fst16 s (k + 1) := by unfold fst16; rw [if_pos (by omega), if_pos (by omega)]
          have e2 : lst16 A k = lst16 A (k + 1) := by unfold lst16; rw [if_pos (by omega), if_pos (by omega)]
          exact .cons rfl (.cons rfl (.cons rfl (.cons rfl (.cons (congrArg pvI e1) (.cons (congrArg pvI e2) (.cons rfl (.cons rfl (.cons (by rw [wrap_nat k (by omega)]) .nil))))))))
        · exact .cons (.box rfl) (.cons (.box rfl) (.cons (.box rfl) .nil))
    · have hk3 : ¬ k < 16 := by have := of_decide_eq_false hc; omega
      obtain ⟨c, b, ea, hbl, hc1, hc2, h16⟩ := hok.wr k hk2 (by omega)
      rw [ea]
      refine tri_skip ?_
      change Tri _ _ _ _ _
      refine tri_seq ?_
      refine tri_reg M hI hn (outs := ?_) (s' := ?_) ?_ ?_ ?_ ?_
      rotate_left 2
      · rfl
      · kernel_rfl
      · simp
      refine tri_cond (b := ?_) ?_ (fun hc => ?_) (fun hc => ?_)
      rotate_left 1
      · rfl
      · exfalso
        have hbs : (strOf b).size = 256 := by rw [strOf_size, hbl]
        have hc5 : (bif (4 : Int) != 4 then true else ((strOf b).size : Int) != 256) = true := hc
        rw [hbs] at hc5
        simp at hc5
      · refine tri_skip ?_
        change Tri _ _ _ _ _
        refine tri_seq ?_
        refine tri_reg M hI hn (outs := ?_) (s' := ?_) ?_ ?_ ?_ ?_
        rotate_left 2
        · rfl
        · kernel_rfl
        · simp
        refine tri_cond (b := ?_) ?_ (fun hc => ?_) (fun hc => ?_)
        rotate_left 1
        · rfl
        · have hk16 : k = 16 := by
            have h5 := of_decide_eq_true hc
            unfold fst16 at h5
            split at h5
            · omega
            · have := hok.s0; omega
          obtain ⟨hX, rfl⟩ := h16 hk16
          refine tri_reg M hI hn (outs := ?_) (s' := ?_) ?_ ?_ ?_ ?_
          rotate_left 2
          · rfl
          · kernel_rfl
          · simp
          refine tri_reg M hI hn (outs := ?_) (s' := ?_) ?_ ?_ ?_ ?_
          rotate_left 2
          · rfl
          · kernel_rfl
          · simp
            rw [strOf_size, zero_length]
            omega
          refine tri_conv (s' := ac3St f u g wh A c (lst16 A k) k ⟨4, 0, c, strOf zeroSec⟩ 0) (fun a w hg => (hg.reset (kT := [15, 16, 65, 66, 67, 4, 6, 7, 8, 13, 14, 25, 26, 27]) (kO := [4003, 0, 1, 2]) (by rfl) (by simp)).same ?_ ?_) ?_
          · have e1 : (strOf zeroSec).size = 256 := by rw [strOf_size, zero_length]
            refine .cons rfl (.cons rfl (.cons ?_ (.cons ?_ (.cons rfl (.cons rfl (.cons rfl (.cons rfl (.cons rfl (.cons rfl (.cons rfl (.cons rfl (.cons rfl (.cons rfl .nil)))))))))))))
            · change pv1 (.sl 1 (strOf zeroSec).size (byF (strOf zeroSec).data.toList)) = _
              rw [e1, strOf_list]
            · change pvI ((strOf zeroSec).size : Int) = _
              rw [e1]
              rfl
          · exact .cons (.box rfl) (.cons (.box rfl) (.cons (.box rfl) (.cons (.box rfl) .nil)))
          refine tri_block ?_
          refine tri_loop 256 (fun j t => t = ac3St f u g wh A c (lst16 A k) k ⟨4, 0, c, strOf zeroSec⟩ j) 0 rfl (by omega) (fun j t hJ hj => ?_)
          subst hJ
          refine tri_reg M hI hn (outs := ?_) (s' := ?_) ?_ ?_ ?_ ?_
          rotate_left 2
          · rfl
          · kernel_rfl
          · simp
          refine tri_seq ?_
          refine tri_cond (b := ?_) ?_ (fun hc => ?_) (fun hc => ?_)
          rotate_left 1
          · rfl
          · have hj2 : j < 256 := by have := of_decide_eq_true hc; omega
            refine tri_skip ?_
            change Tri _ _ _ _ _
            refine tri_seq ?_
            refine tri_block ?_
            refine tri_reg M hI hn (outs := ?_) (s' := ?_) ?_ ?_ ?_ ?_
            rotate_left 2
            · rfl
            · kernel_rfl
            · simp
              omega
            rw [zs_get]
            refine tri_reg M hI hn (outs := ?_) (s' := ?_) ?_ ?_ ?_ ?_
            rotate_left 2
            · rfl
            · kernel_rfl
            · simp
            refine tri_cond (b := ?_) ?_ (fun hc => ?_) (fun hc => ?_)
            rotate_left 1
            · rfl
            · cases hc
            · refine tri_skip ?_
              change Tri _ _ _ _ _
              refine tri_region M hI hn (outs := ?_) (s' := ?_) ?_ ?_ ?_ ?_
              rotate_left 2
              · rfl
              · kernel_rfl
              · simp
              intro a w hg
              refine ⟨j + 1, _, by omega, by omega, rfl, (hg.reset (kT := [15, 16, 65, 66, 67, 4, 6, 7, 8, 13, 14, 25, 26, 27]) (kO := [4003, 0, 1, 2]) (by rfl) (by simp)).same ?_ ?_⟩
              · exact .cons rfl (.cons rfl (.cons rfl (.cons rfl (.cons (by rw [wrap_nat j (by omega)]) (.cons rfl (.cons rfl (.cons rfl (.cons rfl (.cons rfl (.cons rfl (.cons rfl (.cons rfl (.cons rfl .nil)))))))))))))
              · exact .cons (.box rfl) (.cons (.box rfl) (.cons (.box rfl) (.cons (.box rfl) .nil)))
          · refine tri_exit ?_
            change Tri _ _ _ _ _
            refine tri_seq ?_
            refine tri_reg M hI hn (outs := ?_) (s' := ?_) ?_ ?_ ?_ ?_
            rotate_left 2
            · rfl
            · kernel_rfl
            · simp
            refine tri_cond (b := ?_) ?_ (fun hc => ?_) (fun hc => ?_)
            rotate_left 1
            · rfl
            · exfalso
              have hc5 : (bif decide (c < c) then true else decide (c ≥ IntKind.i64.wrap (c + 8))) = true := hc
              rw [hX, show IntKind.i64.wrap (s + 8) = s + 8 from by rw [IntKind.wrap_i64]; omega, decide_eq_false (by omega), decide_eq_false (by omega)] at hc5
              cases hc5
            · refine tri_skip ?_
              change Tri _ _ _ _ _
              refine tri_region M hI hn (outs := ?_) (s' := ?_) ?_ ?_ ?_ ?_
              rotate_left 2
              · rfl
              · kernel_rfl
              · simp
              change Tri _ _ _ _ _
              refine tri_region M hI hn (outs := ?_) (s' := ?_) ?_ ?_ ?_ ?_
              rotate_left 2
              · rfl
              · kernel_rfl
              · simp
              intro a w hg
              refine ⟨k + 1, _, by omega, by omega, rfl, (hg.reset (kT := [4, 6, 7, 8, 13, 14, 25, 26, 27]) (kO := [0, 1, 2]) (by rfl) (by simp)).same ?_ ?_⟩
              · have e1 : c = fst16 s (k + 1) := by rw [hX]; unfold fst16; rw [if_neg (by omega)]
                have e2 : c = lst16 A (k + 1) := by unfold lst16; rw [if_neg (by omega), Nat.add_sub_cancel, ea]
                exact .cons rfl (.cons rfl (.cons rfl (.cons rfl (.cons (congrArg pvI e1) (.cons (congrArg pvI e2) (.cons rfl (.cons rfl (.cons (by rw [wrap_nat k (by omega)]) .nil))))))))
              · exact .cons (.box rfl) (.cons (.box rfl) (.cons (.box rfl) .nil))
        · have hX : fst16 s k = s := by
            have h5 := of_decide_eq_false hc
            unfold fst16 at h5 ⊢
            split
            · rename_i h6
              rw [if_pos h6] at h5
              omega
            · rfl
          have hk17 : 16 < k := by
            unfold fst16 at hX
            split at hX
            · have := hok.s0; omega
            · omega
          refine tri_skip ?_
          change Tri _ _ _ _ _
          refine tri_seq ?_
          refine tri_reg M hI hn (outs := ?_) (s' := ?_) ?_ ?_ ?_ ?_
          rotate_left 2
          · rfl
          · kernel_rfl
          · simp
          refine tri_cond (b := ?_) ?_ (fun hc => ?_) (fun hc => ?_)
          rotate_left 1
          · rfl
          · exfalso
            have hc5 : (bif decide (c < (fst16 s k)) then true else decide (c ≥ IntKind.i64.wrap ((fst16 s k) + 8))) = true := hc
            rw [hX, show IntKind.i64.wrap (s + 8) = s + 8 from by rw [IntKind.wrap_i64]; omega, decide_eq_false (by omega), decide_eq_false (by omega)] at hc5
            cases hc5
          · refine tri_skip ?_
            change Tri _ _ _ _ _
            refine tri_region M hI hn (outs := ?_) (s' := ?_) ?_ ?_ ?_ ?_
            rotate_left 2
            · rfl
            · kernel_rfl
            · simp
            change Tri _ _ _ _ _
            refine tri_region M hI hn (outs := ?_) (s' := ?_) ?_ ?_ ?_ ?_
            rotate_left 2
            · rfl
            · kernel_rfl
            · simp
            intro a w hg
            refine ⟨k + 1, _, by omega, by omega, rfl, (hg.reset (kT := [4, 6, 7, 8, 13, 14, 25, 26, 27]) (kO := [0, 1, 2]) (by rfl) (by simp)).same ?_ ?_⟩
            · have e1 : (fst16 s k) = fst16 s (k + 1) := by rw [hX]; unfold fst16; rw [if_neg (by omega)]
              have e2 : c = lst16 A (k + 1) := by unfold lst16; rw [if_neg (by omega), Nat.add_sub_cancel, ea]
              exact .cons rfl (.cons rfl (.cons rfl (.cons rfl (.cons (congrArg pvI e1) (.cons (congrArg pvI e2) (.cons rfl (.cons rfl (.cons (by rw [wrap_nat k (by omega)]) .nil))))))))
            · exact .cons (.box rfl) (.cons (.box rfl) (.cons (.box rfl) .nil))
  · refine tri_exit ?_
    change Tri _ _ _ _ _
    have hk2 : k = A.length := by have := of_decide_eq_false hc; omega
    subst hk2
    refine tri_seq ?_
    refine tri_reg M hI hn (outs := ?_) (s' := ?_) ?_ ?_ ?_ ?_
    rotate_left 2
    · rfl
    · kernel_rfl
    · simp
    refine tri_cond (b := ?_) ?_ (fun hc => ?_) (fun hc => ?_)
    rotate_left 1
    · rfl
    · have hle : A.length ≤ 16 := by
        have h5 := of_decide_eq_true hc
        unfold fst16 at h5
        split at h5
        · assumption
        · have := hok.s0; omega
      refine tri_reg M hI hn (outs := ?_) (s' := ?_) ?_ ?_ ?_ ?_
      rotate_left 2
      · rfl
      · kernel_rfl
      · simp
      rw [hok.short hle]
      refine tri_ret (fun a w hg => ⟨.inr rfl, _, ?_, hg⟩)
      refine retTo_cold (out := ?_) ?_ ?_ ?_ ?_ ?_
      rotate_left 1
      · rfl
      · simp
      · rfl
      · rfl
      rfl
    · have hgt : ¬ A.length ≤ 16 := fun h6 => by
        have h5 := of_decide_eq_false hc
        unfold fst16 at h5
        rw [if_pos h6] at h5
        omega
      have e1 : fst16 s A.length = s := if_neg hgt
      have e2 : lst16 A A.length = (A.getD (A.length - 1) zeroAcc).cell := if_neg hgt
      have hwh := hok.whole
      refine tri_skip ?_
      change Tri _ _ _ _ _
      refine tri_seq ?_
      refine tri_reg M hI hn (outs := ?_) (s' := ?_) ?_ ?_ ?_ ?_
      rotate_left 2
      · rfl
      · kernel_rfl
      · simp
        refine ⟨fun k1 k2 => ⟨k1, k2⟩, fun k1 => ?_⟩
        by_cases k2 : fst16 s A.length = firstS u.rec_ 0
        · exact .inl k2
        · exact .inr (k1 k2)
      refine tri_cond (b := ?_) ?_ (fun hc => ?_) (fun hc => ?_)
      rotate_left 1
      · rfl
      · exfalso
        have h6 : (bif bif s != firstS u.rec_ 0 then s != firstS u.rec_ 1 else false then true else bif wh then (A.getD (A.length - 1) zeroAcc).cell != s else false) = false := by
          cases wh with
          | false => rcases hok.two with e | e <;> simp [e]
          | true =>
            rw [hwh rfl]
            rcases hok.two with e | e <;> simp [e]
        have h7 : (bif bif fst16 s A.length != firstS u.rec_ 0 then fst16 s A.length != firstS u.rec_ 1 else false then true else bif wh then lst16 A A.length != fst16 s A.length else false) = true := hc
        rw [e1, e2, h6] at h7
        cases h7
      · refine tri_skip ?_
        change Tri _ _ _ _ _
        refine tri_reg M hI hn (outs := ?_) (s' := ?_) ?_ ?_ ?_ ?_
        rotate_left 2
        · rfl
        · kernel_rfl
        · simp
        refine tri_seq ?_
        refine tri_reg M hI hn (outs := ?_) (s' := ?_) ?_ ?_ ?_ ?_
        rotate_left 2
        · rfl
        · kernel_rfl
        · simp
        refine tri_block ?_
        refine tri_conv (s' := ac4St f u g (clr g s 0) s 0) (fun a w hg => (hg.reset (kT := [6, 7, 13, 19, 113]) (kO := [0, 1, 26001]) (by rfl) (by simp)).same ?_ ?_) ?_
        · exact .cons rfl (.cons rfl (.cons (congrArg pvI e1) (.cons rfl (.cons rfl .nil))))
        · exact .cons (.box rfl) (.cons (.box rfl) (.cons (.box rfl) .nil))
        refine tri_loop 8 (fun j t => t = ac4St f u g (clr g s j) s j) 0 rfl (by omega) (fun j t hJ hj => ?_)
        subst hJ
        have hz := clr_sz hsg s j
        refine tri_reg M hI hn (outs := ?_) (s' := ?_) ?_ ?_ ?_ ?_
        rotate_left 2
        · rfl
        · kernel_rfl
        · simp
        refine tri_seq ?_
        refine tri_cond (b := ?_) ?_ (fun hc => ?_) (fun hc => ?_)
        rotate_left 1
        · rfl
        · have hj2 : j < 8 := by have := of_decide_eq_true hc; omega
          refine tri_skip ?_
          change Tri _ _ _ _ _
          refine tri_seq ?_
          refine tri_block ?_
          refine tri_reg M hI hn (outs := ?_) (s' := ?_) ?_ ?_ ?_ ?_
          rotate_left 2
          · rfl
          · kernel_rfl
          · simp
          refine tri_region M hI hn (outs := ?_) (s' := ?_) ?_ ?_ ?_ ?_
          rotate_left 2
          · rfl
          · kernel_rfl
          · simp
            refine ⟨by rw [show Tryd.prog.types[5].bytes = 1 from by kernel_rfl]; omega, fun i _ => rfl, fun x hx => by rw [hz.2 x hx]; omega, by rw [hz.1]; omega⟩
          change Tri _ _ _ _ _
          refine tri_region M hI hn (outs := ?_) (s' := ?_) ?_ ?_ ?_ ?_
          rotate_left 2
          · rfl
          · kernel_rfl
          · simp
          intro a w hg
          refine ⟨j + 1, _, by omega, by omega, rfl, (hg.reset (kT := [6, 7, 13, 19, 113]) (kO := [0, 1, 26001]) (by rfl) (by simp)).same ?_ ?_⟩
          · exact .cons rfl (.cons rfl (.cons rfl (.cons rfl (.cons (by rw [wrap_nat j (by omega)]) .nil))))
          · refine .cons (.box rfl) (.cons (.box rfl) (.cons (.box ?_) .nil))
            change flPC (fwrite (fsRow (clr g s j).length (fsF (clr g s j))) (IntKind.i64.wrap (s + (j : Int))) (strOf (rowB 256 fun _ => [PC.lit (Value.int IntKind.u8 0)])) (-1)) = _
            rw [fsRow_fsF, zero_row (fun _ => rfl), show IntKind.i64.wrap (s + (j : Int)) = s + (j : Int) from by rw [IntKind.wrap_i64]; omega]
            rfl
        · have hj2 : j = 8 := by have := of_decide_eq_false hc; omega
          subst hj2
          refine tri_exit ?_
          change Tri _ _ _ _ _
          refine tri_reg M hI hn (outs := ?_) (s' := ?_) ?_ ?_ ?_ ?_
          rotate_left 2
          · rfl
          · kernel_rfl
          · simp []
            exact ⟨hsf, h0, h3⟩
          refine tri_reg M hI hn (outs := ?_) (s' := ?_) ?_ ?_ ?_ ?_
          rotate_left 2
          · rfl
          · kernel_rfl
          · simp []
            exact ⟨hz, h0, h3⟩
          refine tri_reg M hI hn (outs := ?_) (s' := ?_) ?_ ?_ ?_ ?_
          rotate_left 2
          · rfl
          · kernel_rfl
          · simp
          refine tri_ret (fun a w hg => ⟨.inr rfl, _, ?_, hg⟩)
          refine retTo_cold (out := ?_) ?_ ?_ ?_ ?_ ?_
          rotate_left 1
          · rfl
          · simp
          · rfl
          · rfl
          refine congrArg pvB (?_ : _ = true)
          rw [fsRow_fsF, fsRow_fsF, hclr]
          simp
end Go.Proofs.YtoefmncdloffaaaDoor.Pv
