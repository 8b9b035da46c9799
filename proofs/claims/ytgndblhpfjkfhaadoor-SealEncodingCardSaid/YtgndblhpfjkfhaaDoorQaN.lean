/-
  Several texts in one file: each has its own heading below.
-/
import Derived.Test.YtgndblhpfjkfhaaDoorQaM
import Derived.Test.YtgndblhpfjkfhaaDoorQaL

/-
  Package seal by the abstract machine: the reference's encoding.
-/
namespace Go.Proofs.YtgndblhpfjkfhaaDoor.Pv
open Go.RowKit

def raSt (L : List UInt8) (k : Nat) : St := ⟨[(1, none, pv1 (.pt 0 0 0)), (3, none, pv1 (.ow 7000 0 1 0 k)), (4, none, pvI k)], [(0, none, 0, .box 23 [.bs 16 L]), (7000, none, 0, .arr 5 1 k (byF (L.take k)))]⟩
set_option maxRecDepth 100000 in
theorem raw_fun (L : List UInt8) (hL : L.length = 16) : FunRow Tryd.prog ShaMem 59 [.w (.agg [.bs 16 L])] 5 1 16 (byF L) := by
  have M := dc5M
  have hb1 : Tryd.prog.types[5].bytes = 1 := by kernel_rfl
  refine funRow_of Tryd.func59 rfl rfl sha_ext (fun A hS hn hI => ?_)
  refine tri_reg M hI hn (outs := ?_) (s' := ?_) ?_ ?_ ?_ ?_
  rotate_left 2
  · rfl
  · kernel_rfl
  · simp
  refine tri_reg M hI hn (outs := ?_) (s' := ?_) ?_ ?_ ?_ ?_
  rotate_left 2
  · rfl
  · kernel_rfl
  · simp
  refine tri_seq ?_
  refine tri_reg M hI hn (outs := ?_) (s' := ?_) ?_ ?_ ?_ ?_
  rotate_left 2
  · rfl
  · kernel_rfl
  · simp
  refine tri_conv (s' := raSt L 0) (fun a w hg => ((hg.nilRow (x := 7000) (e := 5) (n := 1) (t := 3) (by rfl) (by rfl)).reset (kT := [1, 3, 4]) (kO := [0, 7000]) (by rfl) (by simp)).same ?_ ?_) ?_
  · exact .cons rfl (.cons rfl (.cons rfl .nil))
  · exact .cons (.box rfl) (.cons (.arr rfl (fun i hi => by omega)) .nil)
  refine tri_block ?_
  refine tri_loop 16 (fun k t => t = raSt L k) 0 rfl (by omega) (fun k t hJ hk => ?_)
  subst hJ
  refine tri_seq ?_
  refine tri_reg M hI hn (outs := ?_) (s' := ?_) ?_ ?_ ?_ ?_
  rotate_left 2
  · rfl
  · kernel_rfl
  · simp
  refine tri_cond (b := ?_) ?_ (fun hc => ?_) (fun hc => ?_)
  rotate_left 1
  · rfl
  · have hk2 : k < 16 := by
      have : (k : Int) < 16 := by simpa using hc
      omega
    refine tri_skip ?_
    change Tri _ _ _ _ _
    refine tri_seq ?_
    refine tri_block ?_
    refine tri_region M hI hn (outs := ?_) (s' := ?_) ?_ ?_ ?_ ?_
    rotate_left 2
    · rfl
    · kernel_rfl
    · simp
      rw [hb1]
      omega
    change Tri _ _ _ _ _
    refine tri_region M hI hn (outs := ?_) (s' := ?_) ?_ ?_ ?_ ?_
    rotate_left 2
    · rfl
    · kernel_rfl
    · simp
    intro a w hg
    refine ⟨k + 1, _, by omega, by omega, rfl, (hg.reset (kT := [1, 3, 4]) (kO := [0, 7000]) (by rfl) ?_).same ?_ ?_⟩
    · simp only [All, and_true, List.append_nil, List.nil_append]
      intro i hi
      unfold appF
      split
      · rfl
      · rw [show i - k = 0 from by omega]
        rfl
    · exact .cons rfl (.cons rfl (.cons (by rw [wrap_nat k (by omega)]) .nil))
    · refine .cons (.box rfl) (.cons (.arr rfl (fun i hi => ?_)) .nil)
      rw [Int.toNat_natCast]
      unfold appF
      split
      · unfold byF
        rw [getD_take (by omega), getD_take (by omega)]
      · obtain rfl : i = k := by omega
        rw [Nat.sub_self]
        unfold byF
        rw [getD_take (by omega)]
        rfl
  · have hkk : k = 16 := by
      have : ¬ (k : Int) < 16 := by simpa using hc
      omega
    subst hkk
    refine tri_exit ?_   -- exit 0
    change Tri _ _ _ _ _
    refine tri_reg M hI hn (outs := ?_) (s' := ?_) ?_ ?_ ?_ ?_
    rotate_left 2
    · rfl
    · kernel_rfl
    · simp
    refine tri_ret (fun a w hg => ⟨.inr rfl, _, ?_, hg⟩)
    refine rowTo_of (x := 7000) (ver := 0) (g := none) (f := ?_) (out := ?_) ?_ ?_ ?_ ?_ ?_ trivial ?_
    rotate_left 2
    · rfl
    · simp
    · rfl
    · rfl
    · rfl
    intro i hi
    refine ⟨?_, rfl⟩
    rw [List.take_of_length_le (by omega)]
def spRaw : Spec := rowSpec fun xs => match xs with
  | [.w (.agg [.bs 16 l])] => some (True, 5, 1, 16, byF l)
  | _ => none
theorem raw_ok : SpecOk Tryd.prog ShaMem 59 spRaw := by
  refine rowSpec_ok (call_enters Tryd.func59 (by kernel_rfl) rfl) (fun xs p e n len f' hg hp => ?_)
  split at hg
  · cases hg
    exact fun w ok0 vs hI hv => raw_fun _ (vals_dig hv) w ok0 vs hI hv
  · cases hg
def slL1 : List (Nat × Spec) := (59, spRaw) :: dcL5
theorem sl1_ok : ∀ p ∈ slL1, SpecOk Tryd.prog ShaMem p.1 p.2 := by
  intro p hp
  rcases List.mem_cons.1 hp with rfl | hp
  · exact raw_ok
  · exact dc5_ok p hp
theorem sl1M : Mach Tryd.prog ShaMem (find slL1) := ⟨specs_of sl1_ok, mixed_⟩
def renSt (s : SealS) (k : Nat) : St := ⟨[(1, none, pv1 (.pt 0 0 0)), (3, none, pv1 (.ow 1002 0 1 0 (encP s k).length)), (4, none, pvI k)],
  [(0, none, 0, .box 41 (sealL s)), (1002, none, 0, .arr 5 1 (encP s k).length (byF (encP s k)))]⟩
set_option maxRecDepth 100000 in
set_option maxHeartbeats 1000000 in
theorem rencode_fun (s : SealS) (hs : SealOk s) : FunOk Tryd.prog ShaMem 31 true [sealPV s] (lit1 (.string (strOf (encS s)))) := by
  have M := sl1M
  have hb1 : Tryd.prog.types[5].bytes = 1 := by kernel_rfl
  have hs1 : Tryd.prog.types[5].size = 1 := by kernel_rfl
  have e0 : encP s 0 = wBytes s.pol.data.toList ++ wInt s.epo ++ wInt s.boxes.length := by unfold encP; simp
  have hp := hs.pol
  have he := hs.epo
  have hl := hs.len
  have w1 := wInt_length s.epo
  have w2 := wBytes_length s.pol.data.toList
  have w3 : s.pol.data.toList.length = s.pol.size := Array.length_toList
  have w4 := wInt_length (s.boxes.length : Int)
  refine funOk_of Tryd.func31 rfl rfl sha_ext (fun A hS hn hI => ?_)
  refine tri_reg M hI hn (outs := ?_) (s' := ?_) ?_ ?_ ?_ ?_
  rotate_left 2
  · rfl
  · kernel_rfl
  · simp
  refine tri_reg M hI hn (outs := ?_) (s' := ?_) ?_ ?_ ?_ ?_
  rotate_left 2
  · rfl
  · kernel_rfl
  · simp
    rw [hb1]
    exact ⟨by omega, he, by omega⟩
  refine tri_reg M hI hn (outs := ?_) (s' := ?_) ?_ ?_ ?_ ?_
  rotate_left 2
  · rfl
  · kernel_rfl
  · simp
    rw [hb1]
    exact ⟨by unfold i64P; omega, by omega⟩
  refine tri_seq ?_
  refine tri_reg M hI hn (outs := ?_) (s' := ?_) ?_ ?_ ?_ ?_
  rotate_left 2
  · rfl
  · kernel_rfl
  · simp
  refine tri_conv (s' := renSt s 0) (fun a w hg => (hg.reset (kT := [1, 3, 4]) (kO := [0, 1002]) (by rfl) ?_).same ?_ ?_) ?_
  · simp only [All, and_true, List.append_nil, List.nil_append]
    exact fun i _ => cold_app (cold_app (fun _ => rfl) (fun _ => rfl)) (fun _ => rfl) i
  · refine .cons rfl (.cons ?_ (.cons rfl .nil))
    rw [hs1, e0, List.length_append, List.length_append]
  · refine .cons (.box rfl) (.cons (.arr ?_ (fun i hi => ?_)) .nil)
    · rw [e0, List.length_append, List.length_append]
    · rw [byF_zero, byF_zero, byF_app, ← List.length_append, byF_app, e0]
  refine tri_block ?_
  refine tri_loop s.boxes.length (fun k t => t = renSt s k) 0 rfl (by omega) (fun k t hJ hk => ?_)
  subst hJ
  refine tri_seq ?_
  refine tri_reg M hI hn (outs := ?_) (s' := ?_) ?_ ?_ ?_ ?_
  rotate_left 2
  · rfl
  · kernel_rfl
  · simp
  refine tri_cond (b := ?_) ?_ (fun hc => ?_) (fun hc => ?_)
  rotate_left 1
  · rfl
  · have hk2 : k < s.boxes.length := by simpa using hc
    have hbk := hs.box _ (getD_mem hk2 default)
    have hlen := encP_len hs k hk
    have hes := encP_succ s hk2
    have hesl : (encP s k ++ (wInt (s.boxes.getD k default).nonce ++ wBytes (s.boxes.getD k default).cipher.data.toList ++ (s.boxes.getD k default).tag)).length = (encP s k).length + (wInt (s.boxes.getD k default).nonce).length + (wBytes (s.boxes.getD k default).cipher.data.toList).length + 16 := by
      simp only [List.length_append, hbk.tag]
      omega
    refine tri_skip ?_
    change Tri _ _ _ _ _
    refine tri_seq ?_
    refine tri_block ?_
    have v1 := wInt_length (s.boxes.getD k default).nonce
    have v2 := wBytes_length (s.boxes.getD k default).cipher.data.toList
    have v3 : (s.boxes.getD k default).cipher.data.toList.length = (s.boxes.getD k default).cipher.size := Array.length_toList
    have v4 := hbk.cipher
    have v5 := hbk.nonce
    have v6 := hbk.tag
    simp only [List.getD_eq_getElem?_getD] at v1 v2 v3 v4 v5 v6
    refine tri_reg M hI hn (outs := ?_) (s' := ?_) ?_ ?_ ?_ ?_
    rotate_left 2
    · rfl
    · kernel_rfl
    · simp
      rw [hb1]
      exact ⟨hk2, v5, by omega⟩
    refine tri_reg M hI hn (outs := ?_) (s' := ?_) ?_ ?_ ?_ ?_
    rotate_left 2
    · rfl
    · kernel_rfl
    · simp
      rw [hb1]
      exact ⟨hk2, by omega, by omega⟩
    refine tri_region M hI hn (outs := ?_) (s' := ?_) ?_ ?_ ?_ ?_
    rotate_left 2
    · rfl
    · kernel_rfl
    · simp
      rw [hb1]
      exact ⟨hk2, by omega⟩
    change Tri _ _ _ _ _
    refine tri_region M hI hn (outs := ?_) (s' := ?_) ?_ ?_ ?_ ?_
    rotate_left 2
    · rfl
    · kernel_rfl
    · simp
    intro a w hg
    refine ⟨k + 1, _, by omega, by omega, rfl, (hg.reset (kT := [1, 3, 4]) (kO := [0, 1002]) (by rfl) ?_).same ?_ ?_⟩
    · simp only [All, and_true, List.append_nil, List.nil_append]
      exact fun i _ => cold_app (cold_app (cold_app (fun _ => rfl) (fun _ => rfl)) (fun _ => rfl)) (fun _ => rfl) i
    · refine .cons rfl (.cons ?_ (.cons (by rw [wrap_nat k (by omega)]) .nil))
      rw [hs1, Int.toNat_natCast, hes, hesl]
    · refine .cons (.box rfl) (.cons (.arr ?_ (fun i hi => ?_)) .nil)
      · rw [Int.toNat_natCast, hes, hesl]
      · rw [Int.toNat_natCast, byF_zero, byF_zero, byF_zero, byF_app, ← List.length_append, byF_app, ← List.length_append, hes, ← List.append_assoc, ← List.append_assoc]
        exact congrFun (byF_app _ _) i
  · have hkk : k = s.boxes.length := by
      have : ¬ k < s.boxes.length := by simpa using hc
      omega
    refine tri_exit ?_   -- exit 0
    change Tri _ _ _ _ _
    refine tri_reg M hI hn (outs := ?_) (s' := ?_) ?_ ?_ ?_ ?_
    rotate_left 2
    · rfl
    · kernel_rfl
    · simp
    refine tri_ret (fun a w hg => ⟨.inr rfl, _, ?_, hg⟩)
    refine retTo_cold (out := ?_) ?_ ?_ ?_ ?_ ?_
    rotate_left 1
    · rfl
    · simp
    · rfl
    · rfl
    rw [rowB_byF, hkk]
    rfl

end Go.Proofs.YtgndblhpfjkfhaaDoor.Pv

/-
  Package seal by the abstract machine: decoding.
-/
namespace Go.Proofs.YtgndblhpfjkfhaaDoor.Pv
open Go.RowKit

theorem SX_eq (x : Nat) (t : TypeId) (l l0 l' : List PC) (bl : Nat → Nat) (D : Dv) : SX [⟨x, t, l, l'⟩] bl D = SX [⟨x, t, l0, l'⟩] bl D := by
  funext b
  simp [SX]
theorem FunX.cells {P : Program} {I : World → Prop} {f : Nat} {new : Bool} {x : Nat} {t : TypeId} {l l0 l' : List PC} {O : List Acc → Option Res} {dev : Option (List Acc × List Acc)} {stp : List Acc → Prop} {args : List PV} {res : PV}
    (h : FunX P I f new [⟨x, t, l0, l'⟩] O dev stp args res) (hl : ∀ C xs, RL C l xs → RL C l0 xs) : FunX P I f new [⟨x, t, l, l'⟩] O dev stp args res := by
  intro w ok0 vs bl D X0 h1 h2 h3 h4 h5 h6 h7 h8 h9 h10
  rw [SX_eq x t l l0 l'] at h1 h2 ⊢
  refine (h w ok0 vs bl D X0 h1 h2 h3 h4 h5 h6 h7 (fun o ho => ?_) (fun o ho o' ho' hb => ?_) h10).mono ?_
  · obtain rfl := List.mem_singleton.1 ho
    obtain ⟨k1, cs, k2, k3⟩ := h8 _ List.mem_cons_self
    exact ⟨k1, cs, k2, hl _ _ k3⟩
  · obtain rfl := List.mem_singleton.1 ho
    obtain rfl := List.mem_singleton.1 ho'
    rfl
  · rintro e w' ⟨k1, k2⟩
    refine ⟨k1, k2.imp (fun ⟨val, k3, k4, k5, k6⟩ => ⟨val, k3, k4, fun o ho => ?_, k6⟩) id⟩
    obtain rfl := List.mem_singleton.1 ho
    exact k5 ⟨x, t, l0, l'⟩ List.mem_cons_self
theorem decRow {C : Ctx} {len : Nat} {f : Nat → List PC} {e : Int} {xs : List Value} (h : IsRow len f) (hv : RL C [.sl 1 len f, .lit (.int .i64 e)] xs) : RL C (decPL (rowB len f) e) xs := by
  cases hv with
  | cons h1 h2 =>
    refine .cons ?_ h2
    rw [rowB_length]
    exact h1.sl_ext (byF_row h)
def whichInt : PV → Option (List UInt8 → Int × Nat × Int)
  | .w (.one (.lit (.func (.func f) first cap))) => (match Nat.beq f 65, first.toList, cap.toList with
    | true, [], [] => some getS
    | _, _, _ => none)
  | .w (.one (.fn (.func f) [.any] [])) => (match Nat.beq f 66 with
    | true => some boxesS
    | false => none)
  | _ => none
def spTakeI : Spec := ptSpec 103 fun l ys => match l, ys with
  | [.sl n len f, .lit (.int .i64 e)], [v] => (match Nat.beq n 1, whichInt v with
    | true, some G => some (IsRow len f ∧ shortL (rowB len f), decPL (takeS 0 G (rowB len f) e).2.1 (takeS 0 G (rowB len f) e).2.2, pvI (takeS 0 G (rowB len f) e).1)
    | _, _ => none)
  | _, _ => none
theorem takeI_ok : SpecOk Tryd.prog ShaMem 64 spTakeI := by
  refine ptSpec_ok (call_enters Tryd.func64 (by kernel_rfl) rfl) (fun l ys p l' r hg hp => ?_)
  split at hg
  · rename_i n len f e v
    cases hb : Nat.beq n 1 <;> cases hq : whichInt v <;> simp only [hb, hq] at hg <;> try (cases hg; done)
    obtain rfl := beqT hb
    cases hg
    refine FunX.cells ?_ (fun C xs h => decRow hp.1 h)
    unfold whichInt at hq
    split at hq
    · rename_i F first cap
      split at hq
      · rename_i h1 h2 h3
        cases hq
        obtain rfl := beqT h1
        have e1 : first = #[] := by apply Array.ext'; simpa using h2
        have e2 : cap = #[] := by apply Array.ext'; simpa using h3
        subst e1 e2
        exact takeInt_x _ e hp.2
      · cases hq
    · rename_i F
      split at hq
      · rename_i h1
        cases hq
        obtain rfl := beqT h1
        exact takeBoxes_x _ e hp.2
      · cases hq
    · cases hq
  · cases hg
def isStr1 : PV → Bool
  | .w (.one (.lit (.func (.func f) first cap))) => (match Nat.beq f 63, first.toList, cap.toList with
    | true, [], [] => true
    | _, _, _ => false)
  | _ => false
def spTakeS : Spec := ptSpec 103 fun l ys => match l, ys with
  | [.sl n len f, .lit (.int .i64 e)], [v] => (match Nat.beq n 1, isStr1 v with
    | true, true => some (IsRow len f ∧ shortL (rowB len f), decPL (takeS [] getBS (rowB len f) e).2.1 (takeS [] getBS (rowB len f) e).2.2, strPV (takeS [] getBS (rowB len f) e).1)
    | _, _ => none)
  | _, _ => none
theorem takeS_ok : SpecOk Tryd.prog ShaMem 62 spTakeS := by
  refine ptSpec_ok (call_enters Tryd.func62 (by kernel_rfl) rfl) (fun l ys p l' r hg hp => ?_)
  split at hg
  · rename_i n len f e v
    cases hb : Nat.beq n 1 <;> cases hq : isStr1 v <;> simp only [hb, hq] at hg <;> try (cases hg; done)
    obtain rfl := beqT hb
    cases hg
    refine FunX.cells ?_ (fun C xs h => decRow hp.1 h)
    unfold isStr1 at hq
    split at hq
    · rename_i F first cap
      split at hq
      · rename_i h1 h2 h3
        obtain rfl := beqT h1
        have e1 : first = #[] := by apply Array.ext'; simpa using h2
        have e2 : cap = #[] := by apply Array.ext'; simpa using h3
        subst e1 e2
        exact takeStr_x _ e hp.2
      · cases hq
    · cases hq
  · cases hg
def isTag1 : PV → Bool
  | .w (.one (.fn (.func f) [.any] [])) => Nat.beq f 68
  | _ => false
def spTakeT : Spec := ptSpec 103 fun l ys => match l, ys with
  | [.sl n len f, .lit (.int .i64 e)], [v] => (match Nat.beq n 1, isTag1 v with
    | true, true => some (IsRow len f ∧ shortL (rowB len f), decPL (takeS (List.replicate 16 0) tagG (rowB len f) e).2.1 (takeS (List.replicate 16 0) tagG (rowB len f) e).2.2, digPV (takeS (List.replicate 16 0) tagG (rowB len f) e).1)
    | _, _ => none)
  | _, _ => none
theorem takeT_ok : SpecOk Tryd.prog ShaMem 67 spTakeT := by
  refine ptSpec_ok (call_enters Tryd.func67 (by kernel_rfl) rfl) (fun l ys p l' r hg hp => ?_)
  split at hg
  · rename_i n len f e v
    cases hb : Nat.beq n 1 <;> cases hq : isTag1 v <;> simp only [hb, hq] at hg <;> try (cases hg; done)
    obtain rfl := beqT hb
    cases hg
    refine FunX.cells ?_ (fun C xs h => decRow hp.1 h)
    unfold isTag1 at hq
    split at hq
    · obtain rfl := beqT hq
      exact takeTag_x _ e hp.2
    · cases hq
  · cases hg
def slL2 : List (Nat × Spec) := (64, spTakeI) :: (62, spTakeS) :: (67, spTakeT) :: slL1
theorem sl2_ok : ∀ p ∈ slL2, SpecOk Tryd.prog ShaMem p.1 p.2 := by
  intro p hp
  simp only [slL2, List.mem_cons] at hp
  rcases hp with rfl | rfl | rfl | hp
  · exact takeI_ok
  · exact takeS_ok
  · exact takeT_ok
  · exact sl1_ok p hp
theorem sl2M : Mach Tryd.prog ShaMem (find slL2) := ⟨specs_of sl2_ok, mixed_⟩

/-! ### Decode -/
/-- The decoder. -/
abbrev Dec := List UInt8 × Int
def tkInt (d : Dec) : Int × Dec := takeS 0 getS d.1 d.2
def tkBoxes (d : Dec) : Int × Dec := takeS 0 boxesS d.1 d.2
def tkStr (d : Dec) : List UInt8 × Dec := takeS [] getBS d.1 d.2
def tkTag (d : Dec) : List UInt8 × Dec := takeS (List.replicate 16 0) tagG d.1 d.2
def tkBox (d : Dec) : BoxS × Dec := (⟨(tkInt d).1, strOf (tkStr (tkInt d).2).1, (tkTag (tkStr (tkInt d).2).2).1⟩, (tkTag (tkStr (tkInt d).2).2).2)
/-- The boxes, one after the other. -/
def rdS (d : Dec) : Nat → List BoxS × Dec
  | 0 => ([], d)
  | k + 1 => ((rdS d k).1 ++ [(tkBox (rdS d k).2).1], (tkBox (rdS d k).2).2)
theorem rdS_len (d : Dec) (k : Nat) : (rdS d k).1.length = k := by
  induction k with
  | zero => rfl
  | succ k ih => simp [rdS, ih]
theorem takeS_le {α : Type} (z : α) (g : List UInt8 → α × Nat × Int) (b : List UInt8) (e : Int) : (takeS z g b e).2.1.length ≤ b.length := by
  unfold takeS
  split
  · simp
  · split
    · simp
    · simp
theorem rdS_short (d : Dec) (k : Nat) : (rdS d k).2.1.length ≤ d.1.length := by
  induction k with
  | zero => exact Nat.le_refl _
  | succ k ih =>
    refine Nat.le_trans (takeS_le _ _ _ _) (Nat.le_trans (takeS_le _ _ _ _) (Nat.le_trans (takeS_le _ _ _ _) ih))
def dec1 (t : List UInt8) : List UInt8 × Dec := tkStr (t, 0)
def dec2 (t : List UInt8) : Int × Dec := tkInt (dec1 t).2
def dec3 (t : List UInt8) : Int × Dec := tkBoxes (dec2 t).2
def decN (t : List UInt8) : Nat := (dec3 t).1.toNat
def decE (t : List UInt8) : Int := if (rdS (dec3 t).2 (decN t)).2.2 = 0 then (if (rdS (dec3 t).2 (decN t)).2.1.length = 0 then 0 else 7) else (rdS (dec3 t).2 (decN t)).2.2
def decV (t : List UInt8) : SealS := if decE t = 0 then ⟨strOf (dec1 t).1, (dec2 t).1, (rdS (dec3 t).2 (decN t)).1⟩ else ⟨{ data := #[] }, 0, []⟩
def decPV (t : List UInt8) : PV := .tup [.agg (sealL (decV t)), .one (.lit (.int .i64 (decE t)))]
theorem dec3_rg (t : List UInt8) : 0 ≤ (dec3 t).1 ∧ (dec3 t).1 ≤ 64 := by
  unfold dec3 tkBoxes takeS
  split
  · simp
  · split
    · simp
    · rename_i h1 h2
      have h3 : (boxesS (dec2 t).2.1).2.2 = 0 := by simpa using h2
      unfold boxesS at h3 ⊢
      dsimp only at h3 ⊢
      split at h3
      · cases h3
      · rename_i h4
        have : ¬ ((getS (dec2 t).2.1).1 < 0 ∨ 64 < (getS (dec2 t).2.1).1) := fun h => h4 ⟨h3, h⟩
        omega
theorem boxF_snoc {l : List BoxS} {x : BoxS} {k : Nat} (h : l.length = k) : ∀ i, i < k + 1 → boxF (l ++ [x]) i = if i < k then boxF l i else boxPC x := fun i hi => by
  unfold boxF
  by_cases hk : i < k
  · rw [if_pos hk, List.getD_eq_getElem?_getD, List.getD_eq_getElem?_getD, List.getElem?_append_left (by omega)]
  · rw [if_neg hk, List.getD_eq_getElem?_getD, List.getElem?_append_right (by omega), show i - l.length = 0 from by omega]
    rfl
theorem short_of {l m : List UInt8} (h : l.length ≤ m.length) (hm : shortL m) : shortL l := Nat.lt_of_le_of_lt h hm
def dcSt (t : List UInt8) (k : Nat) : St := ⟨[(2, none, pv1 (.pt 0 0 0)), (4, none, pv1 (.pt 1003 0 0)), (5, none, pv1 (.pt 2005 0 0)), (18, none, pvI (dec3 t).1), (19, none, pvI k)],
  [(0, none, 0, .box 41 [.lit (.string { data := #[] }), .lit (.int .i64 0), .lit (.slice none 0 0)]), (1003, none, 0, .box 103 (decPL (rdS (dec3 t).2 k).2.1 (rdS (dec3 t).2 k).2.2)),
   (2005, none, 0, .box 41 [.lit (.string (strOf (dec1 t).1)), .lit (.int .i64 (dec2 t).1), .ow 5012 0 18 0 k]), (5012, none, 0, .arr 27 18 k (boxF (rdS (dec3 t).2 k).1))]⟩
set_option maxRecDepth 100000 in
set_option maxHeartbeats 2000000 in
theorem decode_fun (b : ByteArray) (hb : b.size < 4611686018427387904) : FunOk Tryd.prog ShaMem 29 true [lit1 (.string b)] (decPV b.data.toList) := by
  have M := sl2M
  have hbl : b.data.toList.length = b.size := Array.length_toList
  have hsh : shortL b.data.toList := by unfold shortL; omega
  have hs1 : shortL (dec1 b.data.toList).2.1 := short_of (takeS_le _ _ _ _) hsh
  have hs2 : shortL (dec2 b.data.toList).2.1 := short_of (takeS_le _ _ _ _) hs1
  have hs3 : shortL (dec3 b.data.toList).2.1 := short_of (takeS_le _ _ _ _) hs2
  have hrg := dec3_rg b.data.toList
  have hbt : Tryd.prog.types[27].bytes = 40 := by kernel_rfl
  refine funOk_of Tryd.func29 rfl rfl sha_ext (fun A hS hn hI => ?_)
  refine tri_reg M hI hn (outs := ?_) (s' := ?_) ?_ ?_ ?_ ?_
  rotate_left 2
  · rfl
  · kernel_rfl
  · simp
  refine tri_reg M hI hn (outs := ?_) (s' := ?_) ?_ ?_ ?_ ?_
  rotate_left 2
  · rfl
  · kernel_rfl
  · simp
    omega
  refine tri_conv (s' := ⟨[(2, none, pv1 (.pt 0 0 0)), (3, none, pvI 0), (4, none, pv1 (.pt 1003 0 0))], [(0, none, 0, .box 41 [.lit (.string { data := #[] }), .lit (.int .i64 0), .lit (.slice none 0 0)]), (1003, none, 0, .box 103 (decPL b.data.toList 0))]⟩) (fun a w hg => (hg.reset (kT := [2, 3, 4]) (kO := [0, 1003]) (by rfl) (by simp)).same ?_ ?_) ?_
  · exact .cons rfl (.cons rfl (.cons rfl .nil))
  · refine .cons (.box rfl) (.cons (.box ?_) .nil)
    unfold decPL
    rw [hbl]
  generalize b.data.toList = t at *
  refine tri_reg M hI hn (outs := ?_) (s' := ?_) ?_ ?_ ?_ ?_
  rotate_left 2
  · rfl
  · kernel_rfl
  · simp only [All, hP, List.map_cons, List.map_nil, List.flatten_cons, List.flatten_nil, List.append_nil, List.nil_append, List.cons_append, and_true, rowB_byF]
    exact ⟨⟨isRow_byF _ _, hsh⟩, isRow_byF _ _, hs1⟩
  refine tri_conv (s' := ⟨[(2, none, pv1 (.pt 0 0 0)), (3, none, pvI 0), (4, none, pv1 (.pt 1003 0 0)), (5, none, pv1 (.pt 2005 0 0))], [(0, none, 0, .box 41 [.lit (.string { data := #[] }), .lit (.int .i64 0), .lit (.slice none 0 0)]), (1003, none, 0, .box 103 (decPL (dec2 t).2.1 (dec2 t).2.2)), (2005, none, 0, .box 41 [.lit (.string (strOf (dec1 t).1)), .lit (.int .i64 (dec2 t).1), .lit (.slice none 0 0)])]⟩) (fun a w hg => (hg.reset (kT := [2, 3, 4, 5]) (kO := [0, 1003, 2005]) (by rfl) (by simp)).same ?_ ?_) ?_
  · exact .cons rfl (.cons rfl (.cons rfl (.cons rfl .nil)))
  · simp only [rowB_byF]
    exact .cons (.box rfl) (.cons (.box rfl) (.cons (.box rfl) .nil))
  refine tri_seq ?_
  refine tri_reg M hI hn (outs := ?_) (s' := ?_) ?_ ?_ ?_ ?_
  rotate_left 2
  · rfl
  · kernel_rfl
  · simp only [All, hP, List.map_cons, List.map_nil, List.flatten_cons, List.flatten_nil, List.append_nil, List.nil_append, List.cons_append, and_true, rowB_byF]
    exact ⟨isRow_byF _ _, hs2⟩
  refine tri_conv (s' := dcSt t 0) (fun a w hg => ((hg.nilRowB (x := 5012) (b := 2005) (e := 27) (n := 18) (l1 := [.lit (.string (strOf (dec1 t).1)), .lit (.int .i64 (dec2 t).1)]) (l2 := []) (by rfl) (by rfl)).reset (kT := [2, 4, 5, 18, 19]) (kO := [0, 1003, 2005, 5012]) (by rfl) (by simp)).same ?_ ?_) ?_
  · simp only [rowB_byF]
    exact .cons rfl (.cons rfl (.cons rfl (.cons rfl (.cons rfl .nil))))
  · simp only [rowB_byF]
    exact .cons (.box rfl) (.cons (.box rfl) (.cons (.box rfl) (.cons (.arr rfl (fun i hi => by omega)) .nil)))
  refine tri_block ?_
  refine tri_loop (decN t) (fun k s => s = dcSt t k) 0 rfl (by omega) (fun k s hJ hk => ?_)
  subst hJ
  refine tri_reg M hI hn (outs := ?_) (s' := ?_) ?_ ?_ ?_ ?_
  rotate_left 2
  · rfl
  · kernel_rfl
  · simp
  refine tri_seq ?_
  have hN : ((decN t : Nat) : Int) = (dec3 t).1 := by unfold decN; omega
  have hsk : shortL (rdS (dec3 t).2 k).2.1 := short_of (rdS_short _ _) hs3
  have hsk1 : shortL (tkInt (rdS (dec3 t).2 k).2).2.1 := short_of (takeS_le _ _ _ _) hsk
  have hsk2 : shortL (tkStr (tkInt (rdS (dec3 t).2 k).2).2).2.1 := short_of (takeS_le _ _ _ _) hsk1
  refine tri_cond (b := ?_) ?_ (fun hc => ?_) (fun hc => ?_)
  rotate_left 1
  · rfl
  · have hk2 : k < decN t := by
      have : (k : Int) < (dec3 t).1 := by simpa using hc
      omega
    refine tri_skip ?_
    change Tri _ _ _ _ _
    refine tri_seq ?_
    refine tri_block ?_
    refine tri_region M hI hn (outs := ?_) (s' := ?_) ?_ ?_ ?_ ?_
    rotate_left 2
    · rfl
    · kernel_rfl
    · simp only [All, hP, List.map_cons, List.map_nil, List.flatten_cons, List.flatten_nil, List.append_nil, List.nil_append, List.cons_append, and_true, rowB_byF]
      refine ⟨⟨isRow_byF _ _, hsk⟩, ⟨isRow_byF _ _, hsk1⟩, ⟨isRow_byF _ _, hsk2⟩, ?_⟩
      rw [hbt]
      simp
      omega
    change Tri _ _ _ _ _
    refine tri_region M hI hn (outs := ?_) (s' := ?_) ?_ ?_ ?_ ?_
    rotate_left 2
    · rfl
    · kernel_rfl
    · simp
    intro a w hg
    refine ⟨k + 1, _, by omega, by omega, rfl, (hg.reset (kT := [2, 4, 5, 18, 19]) (kO := [0, 1003, 2005, 5012]) (by rfl) ?_).same ?_ ?_⟩
    · simp only [All, and_true, List.append_nil, List.nil_append]
      intro i hi
      unfold appF
      split
      · rfl
      · rw [show i - k = 0 from by omega]
        rfl
    · exact .cons rfl (.cons rfl (.cons rfl (.cons rfl (.cons (by rw [wrap_nat k (by omega)]) .nil))))
    · simp only [rowB_byF]
      refine .cons (.box rfl) (.cons (.box rfl) (.cons (.box rfl) (.cons (.arr rfl (fun i hi => ?_)) .nil)))
      rw [show (rdS (dec3 t).2 (k + 1)).1 = (rdS (dec3 t).2 k).1 ++ [(tkBox (rdS (dec3 t).2 k).2).1] from rfl, boxF_snoc (rdS_len _ _) i hi]
      unfold appF
      split
      · rfl
      · rw [show i - k = 0 from by omega]
        rfl
  · have hkk : k = decN t := by
      have : ¬ (k : Int) < (dec3 t).1 := by simpa using hc
      omega
    subst hkk
    refine tri_exit ?_   -- exit 0
    change Tri _ _ _ _ _
    refine tri_seq ?_
    refine tri_reg M hI hn (outs := ?_) (s' := ?_) ?_ ?_ ?_ ?_
    rotate_left 2
    · rfl
    · kernel_rfl
    · simp
    have hEV : ∀ e, decE t = e → e ≠ 0 → decPV t = .tup [.agg [.lit (.string { data := #[] }), .lit (.int .i64 0), .sl 18 0 (boxF [])], .one (.lit (.int .i64 e))] := by
      intro e h1 h2
      unfold decPV decV
      rw [h1, if_neg h2]
      rfl
    have hlen := rdS_len (dec3 t).2 (decN t)
    refine tri_cond (b := ?_) ?_ (fun hc => ?_) (fun hc => ?_)
    rotate_left 1
    · rfl
    · have h7 : (rdS (dec3 t).2 (decN t)).2.2 = 0 ∧ (rdS (dec3 t).2 (decN t)).2.1.length ≠ 0 := by
        by_cases h : (rdS (dec3 t).2 (decN t)).2.2 = 0
        · refine ⟨h, fun h2 => ?_⟩
          rw [h2] at hc
          simp at hc
        · simp [h] at hc
      have hE : decE t = 7 := by unfold decE; rw [if_pos h7.1, if_neg h7.2]
      have hne : (7 : Int) ≠ 0 := by decide
      refine tri_region M hI hn (outs := ?_) (s' := ?_) ?_ ?_ ?_ ?_
      rotate_left 2
      · rfl
      · kernel_rfl
      · simp
      change Tri _ _ _ _ _
      refine tri_seq ?_
      refine tri_reg M hI hn (outs := ?_) (s' := ?_) ?_ ?_ ?_ ?_
      rotate_left 2
      · rfl
      · kernel_rfl
      · simp
      refine tri_cond (b := ?_) ?_ (fun hc => ?_) (fun hc => ?_)
      rotate_left 1
      · rfl
      · refine tri_reg M hI hn (outs := ?_) (s' := ?_) ?_ ?_ ?_ ?_
        rotate_left 2
        · rfl
        · kernel_rfl
        · simp
        refine tri_ret (fun a w hg => ⟨.inr rfl, _, ?_, hg⟩)
        refine retTo_ex (out := ?_) ?_ ?_ ?_ ?_
        rotate_left 1
        · rfl
        · simp
        · rfl
        · rw [hEV _ hE hne]
          exact .tup (.cons (.agg (.cons (.cold rfl) (.cons (.cold rfl) (.cons .nil .nil)))) (.cons (.one (.cold rfl)) .nil))
      · exact absurd hc (by decide)
    · refine tri_skip ?_
      change Tri _ _ _ _ _
      refine tri_seq ?_
      refine tri_reg M hI hn (outs := ?_) (s' := ?_) ?_ ?_ ?_ ?_
      rotate_left 2
      · rfl
      · kernel_rfl
      · simp
      refine tri_cond (b := ?_) ?_ (fun hc => ?_) (fun hc => ?_)
      rotate_left 1
      · rfl
      · rename_i hc7
        have hne : (rdS (dec3 t).2 (decN t)).2.2 ≠ 0 := by simpa using hc
        have hE : decE t = (rdS (dec3 t).2 (decN t)).2.2 := by unfold decE; rw [if_neg hne]
        refine tri_reg M hI hn (outs := ?_) (s' := ?_) ?_ ?_ ?_ ?_
        rotate_left 2
        · rfl
        · kernel_rfl
        · simp
        refine tri_ret (fun a w hg => ⟨.inr rfl, _, ?_, hg⟩)
        refine retTo_ex (out := ?_) ?_ ?_ ?_ ?_
        rotate_left 1
        · rfl
        · simp
        · rfl
        · rw [hEV _ hE hne]
          exact .tup (.cons (.agg (.cons (.cold rfl) (.cons (.cold rfl) (.cons .nil .nil)))) (.cons (.one (.cold rfl)) .nil))
      · rename_i hc7
        have h0 : (rdS (dec3 t).2 (decN t)).2.2 = 0 := by simpa using hc
        have hz : (rdS (dec3 t).2 (decN t)).2.1.length = 0 := by
          rw [h0] at hc7
          simp at hc7
          rw [hc7]
          rfl
        have hE : decE t = 0 := by unfold decE; rw [if_pos h0, if_pos hz]
        refine tri_skip ?_
        change Tri _ _ _ _ _
        refine tri_reg M hI hn (outs := ?_) (s' := ?_) ?_ ?_ ?_ ?_
        rotate_left 2
        · rfl
        · kernel_rfl
        · simp
        refine tri_ret (fun a w hg => ⟨.inr rfl, _, ?_, hg⟩)
        refine retTo_ex (out := ?_) ?_ ?_ ?_ ?_
        rotate_left 1
        · rfl
        · simp
        · rfl
        · have e : decPV t = .tup [.agg [.lit (.string (strOf (dec1 t).1)), .lit (.int .i64 (dec2 t).1), .sl 18 (decN t) (boxF (rdS (dec3 t).2 (decN t)).1)], .one (.lit (.int .i64 0))] := by
            unfold decPV decV sealL
            rw [hE, if_pos rfl]
            dsimp only
            rw [hlen]
          rw [e]
          exact .tup (.cons (.agg (.cons (.cold rfl) (.cons (.cold rfl) (.cons (.row rfl trivial (by omega) (fun j hj => by rw [Nat.zero_add]) (fun j hj => rfl)) .nil)))) (.cons (.one (.cold rfl)) .nil))

end Go.Proofs.YtgndblhpfjkfhaaDoor.Pv

/-
  Package seal by the abstract machine: the reference's decoding of one box.
-/
namespace Go.Proofs.YtgndblhpfjkfhaaDoor.Pv
open Go.RowKit

def slL3 : List (Nat × Spec) := (69, rowSp shortL fun l => bsPV (getBS l)) :: slL2
theorem sl3_ok : ∀ p ∈ slL3, SpecOk Tryd.prog ShaMem p.1 p.2 := by
  intro p hp
  simp only [slL3, List.mem_cons] at hp
  rcases hp with rfl | hp
  · exact rowSp_ok (call_enters Tryd.func69 (by kernel_rfl) rfl) rgetBytes_fun
  · exact sl2_ok p hp
theorem sl3M : Mach Tryd.prog ShaMem (find slL3) := ⟨specs_of sl3_ok, mixed_⟩
def box0 : BoxS := ⟨0, { data := #[] }, List.replicate 16 0⟩
/-- One box, as the reference decodes it. -/
def oneAt (L : List UInt8) : Nat := (getS L).2.1 + (getBS (L.drop (getS L).2.1)).2.1
def oneS (L : List UInt8) : BoxS × Nat × Int :=
  if (getS L).2.2 ≠ 0 then (box0, 0, (getS L).2.2) else if (getBS (L.drop (getS L).2.1)).2.2 ≠ 0 then (box0, 0, (getBS (L.drop (getS L).2.1)).2.2) else
    if L.length < oneAt L + 16 then (box0, 0, 6) else (⟨(getS L).1, strOf (getBS (L.drop (getS L).2.1)).1, (L.drop (oneAt L)).take 16⟩, oneAt L + 16, 0)
def onePV (r : BoxS × Nat × Int) : PV := .tup [.agg (boxPC r.1), .one (.lit (.int .i64 (r.2.1 : Int))), .one (.lit (.int .i64 r.2.2))]
def tagK (L : List UInt8) (a k : Nat) : List UInt8 := (List.range 16).map fun i => if i < k then L.getD (a + i) 0 else 0
theorem tagK_zero (L : List UInt8) (a : Nat) : tagK L a 0 = List.replicate 16 0 := rfl
theorem tagK_succ (L : List UInt8) (a : Nat) {k : Nat} (_ : k < 16) : (tagK L a k).set k (L.getD (a + k) 0) = tagK L a (k + 1) := by
  unfold tagK
  apply List.ext_getElem (by simp)
  intro i h1 h2
  rw [List.getElem_set]
  simp only [List.getElem_map, List.getElem_range]
  by_cases h : k = i
  · subst h; rw [if_pos rfl, if_pos (by omega)]
  · rw [if_neg h]
    by_cases h3 : i < k
    · rw [if_pos h3, if_pos (by omega)]
    · rw [if_neg h3, if_neg (by omega)]
theorem tagK_succ' (L : List UInt8) (a : Nat) {k : Nat} (hk : k < 16) : (tagK L a k).set k (UInt8.ofNat (L.getD (a + k) 0).toNat) = tagK L a (k + 1) := by
  rw [show UInt8.ofNat (L.getD (a + k) 0).toNat = L.getD (a + k) 0 from by simp]
  exact tagK_succ L a hk
theorem tagK_end (L : List UInt8) (a : Nat) (h : a + 16 ≤ L.length) : tagK L a 16 = (L.drop a).take 16 := by
  unfold tagK
  apply List.ext_getElem (by simp; omega)
  intro i h1 h2
  simp only [List.length_map, List.length_range] at h1
  simp only [List.getElem_map, List.getElem_range, List.getElem_take, List.getElem_drop]
  rw [if_pos h1, List.getD_eq_getElem?_getD, List.getElem?_eq_getElem (by omega)]
  rfl
theorem rowB_dropN {L : List UInt8} {k : Nat} (h : k ≤ L.length) : (rowB (L.length - k) fun i => byF L (k + i)) = L.drop k := by
  rw [rowB_drop (by omega), List.take_of_length_le (by rw [List.length_drop]; omega)]
theorem rowB_dropI {L : List UInt8} {k : Nat} (h : k ≤ L.length) : (rowB ((L.length : Int) - (k : Int)).toNat fun i => byF L ((k : Int).toNat + i)) = L.drop k := by
  rw [show ((L.length : Int) - (k : Int)).toNat = L.length - k from by omega, Int.toNat_natCast, rowB_dropN h]
def onSt (L : List UInt8) (n : Int) (c : ByteArray) (a k : Nat) : St := ⟨[(0, none, rowV L), (2, none, pv1 (.pt 0 0 0)), (5, none, pv1 (.pt 1000 0 0)), (12, none, pvI a), (13, none, pvI k)],
  [(0, none, 0, .box 27 (boxPC box0)), (1000, none, 0, .box 27 (boxPC ⟨n, c, tagK L a k⟩))]⟩
set_option maxRecDepth 100000 in
set_option maxHeartbeats 2000000 in
theorem rone_fun (L : List UInt8) (hL : shortL L) : FunOk Tryd.prog ShaMem 71 true [rowV L] (onePV (oneS L)) := by
  have M := sl3M
  have hle := getS_le L
  have hle2 := getBS_le (L.drop (getS L).2.1)
  rw [List.length_drop] at hle2
  have hL' : L.length < 4611686018427387904 := hL
  have hsh2 : shortL (L.drop (getS L).2.1) := by unfold shortL; rw [List.length_drop]; omega
  refine funOk_of Tryd.func71 rfl rfl sha_ext (fun A hS hn hI => ?_)
  refine tri_reg M hI hn (outs := ?_) (s' := ?_) ?_ ?_ ?_ ?_
  rotate_left 2
  · rfl
  · kernel_rfl
  · simp
  refine tri_reg M hI hn (outs := ?_) (s' := ?_) ?_ ?_ ?_ ?_
  rotate_left 2
  · rfl
  · kernel_rfl
  · simp
  refine tri_reg M hI hn (outs := ?_) (s' := ?_) ?_ ?_ ?_ ?_
  rotate_left 2
  · rfl
  · kernel_rfl
  · simp [hL]
  refine tri_conv (s' := ⟨[(0, none, rowV L), (2, none, pv1 (.pt 0 0 0)), (3, none, pvI 0), (4, none, pvI 0), (5, none, pv1 (.pt 1000 0 0)), (6, none, pvI (getS L).1), (7, none, pvI ((getS L).2.1 : Int)), (8, none, pvI (getS L).2.2)],
    [(0, none, 0, .box 27 (boxPC box0)), (1000, none, 0, .box 27 (boxPC box0))]⟩) (fun a w hg => (hg.reset (kT := [0, 2, 3, 4, 5, 6, 7, 8]) (kO := [0, 1000]) (by rfl) (by simp)).same ?_ ?_) ?_
  · simp only [rowB_byF]
    exact .cons rfl (.cons rfl (.cons rfl (.cons rfl (.cons rfl (.cons rfl (.cons rfl (.cons rfl .nil)))))))
  · exact .cons (.box rfl) (.cons (.box rfl) .nil)
  refine tri_seq ?_
  refine tri_reg M hI hn (outs := ?_) (s' := ?_) ?_ ?_ ?_ ?_
  rotate_left 2
  · rfl
  · kernel_rfl
  · simp
  refine tri_cond (b := ?_) ?_ (fun hc => ?_) (fun hc => ?_)
  rotate_left 1
  · rfl
  · have he : (getS L).2.2 ≠ 0 := by simpa using hc
    have hR : oneS L = (box0, 0, (getS L).2.2) := by unfold oneS; rw [if_pos he]
    rw [hR]
    refine tri_reg M hI hn (outs := ?_) (s' := ?_) ?_ ?_ ?_ ?_
    rotate_left 2
    · rfl
    · kernel_rfl
    · simp
    refine tri_ret (fun a w hg => ⟨.inr rfl, _, ?_, hg⟩)
    refine retTo_cold (out := ?_) ?_ ?_ ?_ ?_ ?_
    rotate_left 1
    · rfl
    · simp
    · rfl
    · rfl
    rfl
  · have he : (getS L).2.2 = 0 := by simpa using hc
    refine tri_skip ?_
    change Tri _ _ _ _ _
    refine tri_reg M hI hn (outs := ?_) (s' := ?_) ?_ ?_ ?_ ?_
    rotate_left 2
    · rfl
    · kernel_rfl
    · simp
      exact ⟨hle.1, by rw [rowB_dropN hle.1]; exact hsh2⟩
    refine tri_conv (s' := ⟨[(0, none, rowV L), (2, none, pv1 (.pt 0 0 0)), (3, none, pvI 0), (4, none, pvI 0), (5, none, pv1 (.pt 1000 0 0)), (6, none, pvI (getS L).1), (7, none, pvI ((getS L).2.1 : Int)), (9, none, lit1 (.string (strOf (getBS (L.drop (getS L).2.1)).1))), (10, none, pvI ((getBS (L.drop (getS L).2.1)).2.1 : Int)), (11, none, pvI (getBS (L.drop (getS L).2.1)).2.2)],
      [(0, none, 0, .box 27 (boxPC box0)), (1000, none, 0, .box 27 (boxPC box0))]⟩) (fun a w hg => (hg.reset (kT := [0, 2, 3, 4, 5, 6, 7, 9, 10, 11]) (kO := [0, 1000]) (by rfl) (by simp)).same ?_ ?_) ?_
    · simp only [rowB_dropI hle.1]
      exact .cons rfl (.cons rfl (.cons rfl (.cons rfl (.cons rfl (.cons rfl (.cons rfl (.cons rfl (.cons rfl (.cons rfl .nil)))))))))
    · exact .cons (.box rfl) (.cons (.box rfl) .nil)
    refine tri_seq ?_
    refine tri_reg M hI hn (outs := ?_) (s' := ?_) ?_ ?_ ?_ ?_
    rotate_left 2
    · rfl
    · kernel_rfl
    · simp
    refine tri_cond (b := ?_) ?_ (fun hc => ?_) (fun hc => ?_)
    rotate_left 1
    · rfl
    · have he2 : (getBS (L.drop (getS L).2.1)).2.2 ≠ 0 := by simpa using hc
      have hR : oneS L = (box0, 0, (getBS (L.drop (getS L).2.1)).2.2) := by unfold oneS; rw [if_neg (by simp [he]), if_pos he2]
      rw [hR]
      refine tri_reg M hI hn (outs := ?_) (s' := ?_) ?_ ?_ ?_ ?_
      rotate_left 2
      · rfl
      · kernel_rfl
      · simp
      refine tri_ret (fun a w hg => ⟨.inr rfl, _, ?_, hg⟩)
      refine retTo_cold (out := ?_) ?_ ?_ ?_ ?_ ?_
      rotate_left 1
      · rfl
      · simp
      · rfl
      · rfl
      rfl
    · have he2 : (getBS (L.drop (getS L).2.1)).2.2 = 0 := by simpa using hc
      refine tri_skip ?_
      change Tri _ _ _ _ _
      refine tri_reg M hI hn (outs := ?_) (s' := ?_) ?_ ?_ ?_ ?_
      rotate_left 2
      · rfl
      · kernel_rfl
      · simp
      have hat : IntKind.i64.wrap (((getS L).2.1 : Int) + ((getBS (L.drop (getS L).2.1)).2.1 : Int)) = (oneAt L : Int) := by
        unfold oneAt
        rw [wrap_i64_id (by omega) (by omega)]
        omega
      have hal : oneAt L ≤ L.length := by unfold oneAt; omega
      refine tri_conv (s' := ⟨[(0, none, rowV L), (2, none, pv1 (.pt 0 0 0)), (3, none, pvI 0), (4, none, pvI 0), (5, none, pv1 (.pt 1000 0 0)), (6, none, pvI (getS L).1), (9, none, lit1 (.string (strOf (getBS (L.drop (getS L).2.1)).1))), (12, none, pvI (oneAt L))],
        [(0, none, 0, .box 27 (boxPC box0)), (1000, none, 0, .box 27 (boxPC box0))]⟩) (fun a w hg => (hg.reset (kT := [0, 2, 3, 4, 5, 6, 9, 12]) (kO := [0, 1000]) (by rfl) (by simp)).same ?_ ?_) ?_
      · exact .cons rfl (.cons rfl (.cons rfl (.cons rfl (.cons rfl (.cons rfl (.cons rfl (.cons (congrArg pvI hat) .nil)))))))
      · exact .cons (.box rfl) (.cons (.box rfl) .nil)
      refine tri_seq ?_
      refine tri_reg M hI hn (outs := ?_) (s' := ?_) ?_ ?_ ?_ ?_
      rotate_left 2
      · rfl
      · kernel_rfl
      · simp
      have hw16 : IntKind.i64.wrap ((oneAt L : Int) + 16) = (oneAt L : Int) + 16 := wrap_i64_id (by omega) (by omega)
      refine tri_cond (b := ?_) ?_ (fun hc => ?_) (fun hc => ?_)
      rotate_left 1
      · rfl
      · rw [hw16] at hc
        have hlt : L.length < oneAt L + 16 := by
          have : (L.length : Int) < (oneAt L : Int) + 16 := by simpa using hc
          omega
        have hR : oneS L = (box0, 0, 6) := by unfold oneS; rw [if_neg (by simp [he]), if_neg (by simp [he2]), if_pos hlt]
        rw [hR]
        refine tri_reg M hI hn (outs := ?_) (s' := ?_) ?_ ?_ ?_ ?_
        rotate_left 2
        · rfl
        · kernel_rfl
        · simp
        refine tri_ret (fun a w hg => ⟨.inr rfl, _, ?_, hg⟩)
        refine retTo_cold (out := ?_) ?_ ?_ ?_ ?_ ?_
        rotate_left 1
        · rfl
        · simp
        · rfl
        · rfl
        rfl
      · rw [hw16] at hc
        have hlt : ¬ L.length < oneAt L + 16 := by
          have : ¬ (L.length : Int) < (oneAt L : Int) + 16 := by simpa using hc
          omega
        have hR : oneS L = (⟨(getS L).1, strOf (getBS (L.drop (getS L).2.1)).1, (L.drop (oneAt L)).take 16⟩, oneAt L + 16, 0) := by unfold oneS; rw [if_neg (by simp [he]), if_neg (by simp [he2]), if_neg hlt]
        rw [hR]
        refine tri_skip ?_
        change Tri _ _ _ _ _
        refine tri_reg M hI hn (outs := ?_) (s' := ?_) ?_ ?_ ?_ ?_
        rotate_left 2
        · rfl
        · kernel_rfl
        · simp
        refine tri_reg M hI hn (outs := ?_) (s' := ?_) ?_ ?_ ?_ ?_
        rotate_left 2
        · rfl
        · kernel_rfl
        · simp
        refine tri_seq ?_
        refine tri_reg M hI hn (outs := ?_) (s' := ?_) ?_ ?_ ?_ ?_
        rotate_left 2
        · rfl
        · kernel_rfl
        · simp
        refine tri_conv (s' := onSt L (getS L).1 (strOf (getBS (L.drop (getS L).2.1)).1) (oneAt L) 0) (fun a w hg => (hg.reset (kT := [0, 2, 5, 12, 13]) (kO := [0, 1000]) (by rfl) (by simp)).same ?_ ?_) ?_
        · exact .cons rfl (.cons rfl (.cons rfl (.cons rfl (.cons rfl .nil))))
        · exact .cons (.box rfl) (.cons (.box rfl) .nil)
        generalize oneAt L = at' at *
        refine tri_block ?_
        refine tri_loop 16 (fun k s => s = onSt L (getS L).1 (strOf (getBS (L.drop (getS L).2.1)).1) at' k) 0 rfl (by omega) (fun k s hJ hk => ?_)
        subst hJ
        refine tri_seq ?_
        refine tri_reg M hI hn (outs := ?_) (s' := ?_) ?_ ?_ ?_ ?_
        rotate_left 2
        · rfl
        · kernel_rfl
        · simp
        refine tri_cond (b := ?_) ?_ (fun hc => ?_) (fun hc => ?_)
        rotate_left 1
        · rfl
        · have hk2 : k < 16 := by
            have : (k : Int) < 16 := by simpa using hc
            omega
          have hak : IntKind.i64.wrap ((at' : Int) + (k : Int)) = ((at' + k : Nat) : Int) := by
            rw [wrap_i64_id (by omega) (by omega)]; omega
          refine tri_skip ?_
          change Tri _ _ _ _ _
          refine tri_seq ?_
          refine tri_block ?_
          refine tri_region M hI hn (outs := ?_) (s' := ?_) ?_ ?_ ?_ ?_
          rotate_left 2
          · rfl
          · kernel_rfl
          · simp
            rw [hak]
            have h256 := (L[((at' + k : Nat) : Int).toNat]?.getD 0).toNat_lt
            exact ⟨by omega, by omega, by omega, by omega⟩
          change Tri _ _ _ _ _
          refine tri_region M hI hn (outs := ?_) (s' := ?_) ?_ ?_ ?_ ?_
          rotate_left 2
          · rfl
          · kernel_rfl
          · simp
          intro a w hg
          refine ⟨k + 1, _, by omega, by omega, rfl, (hg.reset (kT := [0, 2, 5, 12, 13]) (kO := [0, 1000]) (by rfl) (by simp)).same ?_ ?_⟩
          · exact .cons rfl (.cons rfl (.cons rfl (.cons rfl (.cons (by rw [wrap_nat k (by omega)]) .nil))))
          · refine .cons (.box rfl) (.cons (.box ?_) .nil)
            rw [hak, Int.toNat_natCast, Int.toNat_natCast, Int.toNat_natCast, tagK_succ' L at' hk2]
            rfl
        · have hkk : k = 16 := by
            have : ¬ (k : Int) < 16 := by simpa using hc
            omega
          subst hkk
          refine tri_exit ?_   -- exit 0
          change Tri _ _ _ _ _
          refine tri_reg M hI hn (outs := ?_) (s' := ?_) ?_ ?_ ?_ ?_
          rotate_left 2
          · rfl
          · kernel_rfl
          · simp
          refine tri_ret (fun a w hg => ⟨.inr rfl, _, ?_, hg⟩)
          refine retTo_cold (out := ?_) ?_ ?_ ?_ ?_ ?_
          rotate_left 1
          · rfl
          · simp
          · rfl
          · rfl
          rw [tagK_end L at' (by omega), wrap_i64_id (by omega) (by omega)]
          rfl

end Go.Proofs.YtgndblhpfjkfhaaDoor.Pv

/-
  Package seal by the abstract machine: the reference's decoding.
-/
namespace Go.Proofs.YtgndblhpfjkfhaaDoor.Pv
open Go.RowKit

theorem take_err {α : Type} {z : α} {g : List UInt8 → α × Nat × Int} {b : List UInt8} {e : Int} (h : e ≠ 0) : takeS z g b e = (z, b, e) := if_pos h
theorem take_bad {α : Type} {z : α} {g : List UInt8 → α × Nat × Int} {b : List UInt8} (h : (g b).2.2 ≠ 0) : takeS z g b 0 = (z, b, (g b).2.2) := by
  unfold takeS; rw [if_neg (by simp), if_pos h]
theorem take_good {α : Type} {z : α} {g : List UInt8 → α × Nat × Int} {b : List UInt8} (h : (g b).2.2 = 0) : takeS z g b 0 = ((g b).1, b.drop (g b).2.1, 0) := by
  unfold takeS; rw [if_neg (by simp), if_neg (fun h2 => h2 h)]
theorem rd_err (d : Dec) (k : Nat) (h : (rdS d k).2.2 ≠ 0) (m : Nat) : (rdS d (k + m)).2.2 = (rdS d k).2.2 := by
  induction m with
  | zero => rfl
  | succ m ih =>
    rw [← Nat.add_assoc]
    have h1 : (rdS d (k + m)).2.2 ≠ 0 := by rw [ih]; exact h
    show (tkBox (rdS d (k + m)).2).2.2 = _
    unfold tkBox tkInt tkStr tkTag
    rw [take_err h1]
    dsimp only
    rw [take_err h1]
    dsimp only
    rw [take_err h1]
    exact ih
theorem one_good {b : List UInt8} {x : BoxS} {u : Nat} (h : oneS b = (x, u, 0)) : tkBox (b, 0) = (x, (b.drop u, 0)) := by
  unfold oneS at h
  split at h
  · rename_i h1; simp only [Prod.mk.injEq] at h; exact absurd h.2.2 h1
  · rename_i h1
    have h1' : (getS b).2.2 = 0 := by simpa using h1
    split at h
    · rename_i h2; simp only [Prod.mk.injEq] at h; exact absurd h.2.2 h2
    · rename_i h2
      have h2' : (getBS (b.drop (getS b).2.1)).2.2 = 0 := by simpa using h2
      split at h
      · simp at h
      · rename_i h3
        simp only [Prod.mk.injEq, and_true] at h
        obtain ⟨rfl, rfl⟩ := h
        have hlen : (List.drop (getBS (b.drop (getS b).2.1)).2.1 (List.drop (getS b).2.1 b)) = b.drop (oneAt b) := by
          rw [List.drop_drop]; rfl
        have ht : ¬ (b.drop (oneAt b)).length < 16 := by rw [List.length_drop]; omega
        have htg : tagG (b.drop (oneAt b)) = ((b.drop (oneAt b)).take 16, 16, 0) := by unfold tagG; rw [if_neg ht]
        unfold tkBox tkInt tkStr tkTag
        simp only [take_good h1', take_good h2', hlen]
        rw [take_good (by rw [htg]), htg]
        simp only [List.drop_drop]
theorem one_bad {b : List UInt8} (h : (oneS b).2.2 ≠ 0) : (tkBox (b, 0)).2.2 = (oneS b).2.2 := by
  unfold oneS at h ⊢
  by_cases h1 : (getS b).2.2 ≠ 0
  · rw [if_pos h1]
    unfold tkBox tkInt tkStr tkTag
    simp only [take_bad h1, take_err h1]
  · have h1' : (getS b).2.2 = 0 := by simpa using h1
    rw [if_neg h1]
    rw [if_neg h1] at h
    by_cases h2 : (getBS (b.drop (getS b).2.1)).2.2 ≠ 0
    · rw [if_pos h2]
      unfold tkBox tkInt tkStr tkTag
      simp only [take_good h1', take_bad h2, take_err h2]
    · have h2' : (getBS (b.drop (getS b).2.1)).2.2 = 0 := by simpa using h2
      rw [if_neg h2]
      rw [if_neg h2] at h
      by_cases h3 : b.length < oneAt b + 16
      · rw [if_pos h3]
        have hlen : (List.drop (getBS (b.drop (getS b).2.1)).2.1 (List.drop (getS b).2.1 b)) = b.drop (oneAt b) := by
          rw [List.drop_drop]; rfl
        have ht : (b.drop (oneAt b)).length < 16 := by rw [List.length_drop]; omega
        have htg : tagG (b.drop (oneAt b)) = (List.replicate 16 0, 0, 6) := by unfold tagG; rw [if_pos ht]
        unfold tkBox tkInt tkStr tkTag
        simp only [take_good h1', take_good h2', hlen]
        rw [take_bad (by rw [htg]; decide), htg]
      · rw [if_neg h3] at h
        exact absurd rfl h
theorem take_zero {α : Type} {z : α} {g : List UInt8 → α × Nat × Int} {b : List UInt8} {e : Int} (h : (takeS z g b e).2.2 ≠ 0) : (takeS z g b e).1 = z := by
  unfold takeS at h ⊢
  split
  · rfl
  · split
    · rfl
    · rename_i h1 h2
      rw [if_neg h1, if_neg h2] at h
      exact absurd rfl h
theorem decE_err3 {t : List UInt8} (h : (dec3 t).2.2 ≠ 0) : decE t = (dec3 t).2.2 := by
  have h1 : (dec3 t).1 = 0 := take_zero h
  have h2 : decN t = 0 := by unfold decN; rw [h1]; rfl
  unfold decE
  rw [h2]
  exact if_neg h
theorem decPV_err {t : List UInt8} {e : Int} (h1 : decE t = e) (h2 : e ≠ 0) : decPV t = .tup [.agg [.lit (.string { data := #[] }), .lit (.int .i64 0), .sl 18 0 (boxF [])], .one (.lit (.int .i64 e))] := by
  unfold decPV decV
  rw [h1, if_neg h2]
  rfl
theorem asRow_row (l : List UInt8) : asRow (rowV l) = some (IsRow l.length (byF l), rowB l.length (byF l)) := rfl
theorem row_drop {L : List UInt8} {k : Nat} (h : k ≤ L.length) : pv1 (.sl 1 ((L.length : Int) - (k : Int)).toNat (fun i => byF L ((k : Int).toNat + i))) = rowV (L.drop k) := by
  unfold rowV
  rw [show ((L.length : Int) - (k : Int)).toNat = (L.drop k).length from by rw [List.length_drop]; omega, Int.toNat_natCast, byF_drop]
theorem one_le (L : List UInt8) : (oneS L).2.1 ≤ L.length := by
  unfold oneS
  split
  · simp
  · split
    · simp
    · split
      · simp
      · simp only; omega
def seal0 : List PC := [.lit (.string { data := #[] }), .lit (.int .i64 0), .lit (.slice none 0 0)]
def rdcSt2 (t : List UInt8) (k : Nat) (r : BoxS × Nat × Int) : St := ⟨[(2, none, pv1 (.pt 0 0 0)), (4, none, rowV (rdS (dec3 t).2 k).2.1), (11, none, pvI (dec3 t).1), (14, none, pv1 (.pt 16003 0 0)), (15, none, pvI k), (16, none, pv1 (.pt 20006 0 0)), (17, none, pvI (r.2.1 : Int)), (18, none, pvI r.2.2)],
  [(0, none, 0, .box 41 seal0), (16003, none, 0, .box 41 [.lit (.string (strOf (dec1 t).1)), .lit (.int .i64 (dec2 t).1), .ow 23004 0 18 0 k]), (20006, none, 0, .box 27 (boxPC r.1)), (23004, none, 0, .arr 27 18 k (boxF (rdS (dec3 t).2 k).1))]⟩
def slL4 : List (Nat × Spec) := (71, rowSp shortL fun l => onePV (oneS l)) :: slL3
theorem sl4_ok : ∀ p ∈ slL4, SpecOk Tryd.prog ShaMem p.1 p.2 := by
  intro p hp
  simp only [slL4, List.mem_cons] at hp
  rcases hp with rfl | hp
  · exact rowSp_ok (call_enters Tryd.func71 (by kernel_rfl) rfl) rone_fun
  · exact sl3_ok p hp
theorem sl4M : Mach Tryd.prog ShaMem (find slL4) := ⟨specs_of sl4_ok, mixed_⟩
def rdcSt (t : List UInt8) (k : Nat) : St := ⟨[(2, none, pv1 (.pt 0 0 0)), (4, none, rowV (rdS (dec3 t).2 k).2.1), (11, none, pvI (dec3 t).1), (14, none, pv1 (.pt 16003 0 0)), (15, none, pvI k)],
  [(0, none, 0, .box 41 seal0), (16003, none, 0, .box 41 [.lit (.string (strOf (dec1 t).1)), .lit (.int .i64 (dec2 t).1), .ow 23004 0 18 0 k]), (23004, none, 0, .arr 27 18 k (boxF (rdS (dec3 t).2 k).1))]⟩
set_option maxRecDepth 100000 in
set_option maxHeartbeats 2000000 in
theorem rdecode_fun (b : ByteArray) (hb : b.size < 4611686018427387904) : FunOk Tryd.prog ShaMem 30 true [lit1 (.string b)] (decPV b.data.toList) := by
  have M := sl4M
  have hbl : b.data.toList.length = b.size := Array.length_toList
  have hsh : shortL b.data.toList := by unfold shortL; omega
  have hs1 : shortL (dec1 b.data.toList).2.1 := short_of (takeS_le _ _ _ _) hsh
  have hs2 : shortL (dec2 b.data.toList).2.1 := short_of (takeS_le _ _ _ _) hs1
  have hs3 : shortL (dec3 b.data.toList).2.1 := short_of (takeS_le _ _ _ _) hs2
  have hrg := dec3_rg b.data.toList
  have hbt : Tryd.prog.types[27].bytes = 40 := by kernel_rfl
  refine funOk_of Tryd.func30 rfl rfl sha_ext (fun A hS hn hI => ?_)
  refine tri_reg M hI hn (outs := ?_) (s' := ?_) ?_ ?_ ?_ ?_
  rotate_left 2
  · rfl
  · kernel_rfl
  · simp
  refine tri_reg M hI hn (outs := ?_) (s' := ?_) ?_ ?_ ?_ ?_
  rotate_left 2
  · rfl
  · kernel_rfl
  · simp
    omega
  refine tri_conv (s' := ⟨[(2, none, pv1 (.pt 0 0 0)), (3, none, pvI 0), (4, none, rowV b.data.toList)], [(0, none, 0, .box 41 seal0)]⟩) (fun a w hg => (hg.reset (kT := [2, 3, 4]) (kO := [0]) (by rfl) (by simp)).same ?_ ?_) ?_
  · refine .cons rfl (.cons rfl (.cons ?_ .nil))
    show _ = pv1 (.sl 1 b.data.toList.length (byF b.data.toList))
    rw [hbl]
  · exact .cons (.box rfl) .nil
  generalize b.data.toList = t at *
  refine tri_reg M hI hn (outs := ?_) (s' := ?_) ?_ ?_ ?_ ?_
  rotate_left 2
  · rfl
  · kernel_rfl
  · simp [hsh]
  refine tri_conv (s' := ⟨[(2, none, pv1 (.pt 0 0 0)), (3, none, pvI 0), (4, none, rowV t), (5, none, lit1 (.string (strOf (getBS t).1))), (6, none, pvI ((getBS t).2.1 : Int)), (7, none, pvI (getBS t).2.2)], [(0, none, 0, .box 41 seal0)]⟩) (fun a w hg => (hg.reset (kT := [2, 3, 4, 5, 6, 7]) (kO := [0]) (by rfl) (by simp)).same ?_ ?_) ?_
  · simp only [rowB_byF]
    exact .cons rfl (.cons rfl (.cons rfl (.cons rfl (.cons rfl (.cons rfl .nil)))))
  · exact .cons (.box rfl) .nil
  refine tri_seq ?_
  refine tri_reg M hI hn (outs := ?_) (s' := ?_) ?_ ?_ ?_ ?_
  rotate_left 2
  · rfl
  · kernel_rfl
  · simp
  refine tri_cond (b := ?_) ?_ (fun hc => ?_) (fun hc => ?_)
  rotate_left 1
  · rfl
  · have hne : (getBS t).2.2 ≠ 0 := by simpa using hc
    have h1 : dec1 t = ([], t, (getBS t).2.2) := take_bad hne
    have h3 : (dec3 t).2.2 = (getBS t).2.2 := by
      unfold dec3 tkBoxes dec2 tkInt
      rw [h1]
      simp only [take_err hne]
    have hE : decE t = (getBS t).2.2 := by rw [decE_err3 (by rw [h3]; exact hne), h3]
    refine tri_reg M hI hn (outs := ?_) (s' := ?_) ?_ ?_ ?_ ?_
    rotate_left 2
    · rfl
    · kernel_rfl
    · simp
    refine tri_ret (fun a w hg => ⟨.inr rfl, _, ?_, hg⟩)
    refine retTo_ex (out := ?_) ?_ ?_ ?_ ?_
    rotate_left 1
    · rfl
    · simp
    · rfl
    · rw [decPV_err hE hne]
      exact .tup (.cons (.agg (.cons (.cold rfl) (.cons (.cold rfl) (.cons .nil .nil)))) (.cons (.one (.cold rfl)) .nil))
  · have he1 : (getBS t).2.2 = 0 := by simpa using hc
    have h1 : dec1 t = ((getBS t).1, t.drop (getBS t).2.1, 0) := take_good he1
    have hl1 := getBS_le t
    refine tri_skip ?_
    change Tri _ _ _ _ _
    refine tri_reg M hI hn (outs := ?_) (s' := ?_) ?_ ?_ ?_ ?_
    rotate_left 2
    · rfl
    · kernel_rfl
    · simp
      omega
    refine tri_conv (s' := ⟨[(2, none, pv1 (.pt 0 0 0)), (3, none, pvI 0), (4, none, rowV (dec1 t).2.1), (5, none, lit1 (.string (strOf (dec1 t).1)))], [(0, none, 0, .box 41 seal0)]⟩) (fun a w hg => (hg.reset (kT := [2, 3, 4, 5]) (kO := [0]) (by rfl) (by simp)).same ?_ ?_) ?_
    · rw [h1]
      refine .cons rfl (.cons rfl (.cons ?_ (.cons rfl .nil)))
      exact row_drop hl1
    · exact .cons (.box rfl) .nil
    have h10 : (dec1 t).2.2 = 0 := by rw [h1]
    refine tri_reg M hI hn (outs := ?_) (s' := ?_) ?_ ?_ ?_ ?_
    rotate_left 2
    · rfl
    · kernel_rfl
    · simp [hs1]
    refine tri_conv (s' := ⟨[(2, none, pv1 (.pt 0 0 0)), (3, none, pvI 0), (4, none, rowV (dec1 t).2.1), (5, none, lit1 (.string (strOf (dec1 t).1))), (8, none, pvI (getS (dec1 t).2.1).1), (9, none, pvI ((getS (dec1 t).2.1).2.1 : Int)), (10, none, pvI (getS (dec1 t).2.1).2.2)], [(0, none, 0, .box 41 seal0)]⟩) (fun a w hg => (hg.reset (kT := [2, 3, 4, 5, 8, 9, 10]) (kO := [0]) (by rfl) (by simp)).same ?_ ?_) ?_
    · simp only [rowB_byF]
      exact .cons rfl (.cons rfl (.cons rfl (.cons rfl (.cons rfl (.cons rfl (.cons rfl .nil))))))
    · exact .cons (.box rfl) .nil
    refine tri_seq ?_
    refine tri_reg M hI hn (outs := ?_) (s' := ?_) ?_ ?_ ?_ ?_
    rotate_left 2
    · rfl
    · kernel_rfl
    · simp
    refine tri_cond (b := ?_) ?_ (fun hc => ?_) (fun hc => ?_)
    rotate_left 1
    · rfl
    · have hne : (getS (dec1 t).2.1).2.2 ≠ 0 := by simpa using hc
      have h2 : dec2 t = (0, (dec1 t).2.1, (getS (dec1 t).2.1).2.2) := by
        unfold dec2 tkInt
        rw [h10]
        exact take_bad hne
      have h3 : (dec3 t).2.2 = (getS (dec1 t).2.1).2.2 := by
        unfold dec3 tkBoxes
        rw [h2]
        simp only [take_err hne]
      have hE : decE t = (getS (dec1 t).2.1).2.2 := by rw [decE_err3 (by rw [h3]; exact hne), h3]
      refine tri_reg M hI hn (outs := ?_) (s' := ?_) ?_ ?_ ?_ ?_
      rotate_left 2
      · rfl
      · kernel_rfl
      · simp
      refine tri_ret (fun a w hg => ⟨.inr rfl, _, ?_, hg⟩)
      refine retTo_ex (out := ?_) ?_ ?_ ?_ ?_
      rotate_left 1
      · rfl
      · simp
      · rfl
      · rw [decPV_err hE hne]
        exact .tup (.cons (.agg (.cons (.cold rfl) (.cons (.cold rfl) (.cons .nil .nil)))) (.cons (.one (.cold rfl)) .nil))
    · have he2 : (getS (dec1 t).2.1).2.2 = 0 := by simpa using hc
      have h2 : dec2 t = ((getS (dec1 t).2.1).1, (dec1 t).2.1.drop (getS (dec1 t).2.1).2.1, 0) := by
        unfold dec2 tkInt
        rw [h10]
        exact take_good he2
      have hl2 := (getS_le (dec1 t).2.1).1
      refine tri_skip ?_
      change Tri _ _ _ _ _
      refine tri_reg M hI hn (outs := ?_) (s' := ?_) ?_ ?_ ?_ ?_
      rotate_left 2
      · rfl
      · kernel_rfl
      · simp
        omega
      refine tri_conv (s' := ⟨[(2, none, pv1 (.pt 0 0 0)), (3, none, pvI 0), (4, none, rowV (dec2 t).2.1), (5, none, lit1 (.string (strOf (dec1 t).1))), (8, none, pvI (dec2 t).1)], [(0, none, 0, .box 41 seal0)]⟩) (fun a w hg => (hg.reset (kT := [2, 3, 4, 5, 8]) (kO := [0]) (by rfl) (by simp)).same ?_ ?_) ?_
      · rw [h2]
        refine .cons rfl (.cons rfl (.cons ?_ (.cons rfl (.cons rfl .nil))))
        exact row_drop hl2
      · exact .cons (.box rfl) .nil
      have h20 : (dec2 t).2.2 = 0 := by rw [h2]
      refine tri_reg M hI hn (outs := ?_) (s' := ?_) ?_ ?_ ?_ ?_
      rotate_left 2
      · rfl
      · kernel_rfl
      · simp [hs2]
      refine tri_conv (s' := ⟨[(2, none, pv1 (.pt 0 0 0)), (3, none, pvI 0), (4, none, rowV (dec2 t).2.1), (5, none, lit1 (.string (strOf (dec1 t).1))), (8, none, pvI (dec2 t).1), (11, none, pvI (getS (dec2 t).2.1).1), (12, none, pvI ((getS (dec2 t).2.1).2.1 : Int)), (13, none, pvI (getS (dec2 t).2.1).2.2)], [(0, none, 0, .box 41 seal0)]⟩) (fun a w hg => (hg.reset (kT := [2, 3, 4, 5, 8, 11, 12, 13]) (kO := [0]) (by rfl) (by simp)).same ?_ ?_) ?_
      · simp only [rowB_byF]
        exact .cons rfl (.cons rfl (.cons rfl (.cons rfl (.cons rfl (.cons rfl (.cons rfl (.cons rfl .nil)))))))
      · exact .cons (.box rfl) .nil
      refine tri_seq ?_
      refine tri_reg M hI hn (outs := ?_) (s' := ?_) ?_ ?_ ?_ ?_
      rotate_left 2
      · rfl
      · kernel_rfl
      · simp
      refine tri_cond (b := ?_) ?_ (fun hc => ?_) (fun hc => ?_)
      rotate_left 1
      · rfl
      · have hne : (getS (dec2 t).2.1).2.2 ≠ 0 := by simpa using hc
        have hb3 : (boxesS (dec2 t).2.1).2.2 = (getS (dec2 t).2.1).2.2 := by unfold boxesS; exact if_neg (fun h => hne h.1)
        have h3 : (dec3 t).2.2 = (getS (dec2 t).2.1).2.2 := by
          unfold dec3 tkBoxes
          rw [h20, take_bad (by rw [hb3]; exact hne), hb3]
        have hE : decE t = (getS (dec2 t).2.1).2.2 := by rw [decE_err3 (by rw [h3]; exact hne), h3]
        refine tri_reg M hI hn (outs := ?_) (s' := ?_) ?_ ?_ ?_ ?_
        rotate_left 2
        · rfl
        · kernel_rfl
        · simp
        refine tri_ret (fun a w hg => ⟨.inr rfl, _, ?_, hg⟩)
        refine retTo_ex (out := ?_) ?_ ?_ ?_ ?_
        rotate_left 1
        · rfl
        · simp
        · rfl
        · rw [decPV_err hE hne]
          exact .tup (.cons (.agg (.cons (.cold rfl) (.cons (.cold rfl) (.cons .nil .nil)))) (.cons (.one (.cold rfl)) .nil))
      · have he3 : (getS (dec2 t).2.1).2.2 = 0 := by simpa using hc
        refine tri_skip ?_
        change Tri _ _ _ _ _
        refine tri_seq ?_
        refine tri_reg M hI hn (outs := ?_) (s' := ?_) ?_ ?_ ?_ ?_
        rotate_left 2
        · rfl
        · kernel_rfl
        · simp
        refine tri_cond (b := ?_) ?_ (fun hc => ?_) (fun hc => ?_)
        rotate_left 1
        · rfl
        · have hor : (getS (dec2 t).2.1).1 < 0 ∨ 64 < (getS (dec2 t).2.1).1 := by
            by_cases h : (getS (dec2 t).2.1).1 < 0
            · exact .inl h
            · simp [h] at hc
              exact .inr hc
          have hne : (7 : Int) ≠ 0 := by decide
          have hb3 : (boxesS (dec2 t).2.1).2.2 = 7 := by unfold boxesS; exact if_pos ⟨he3, hor⟩
          have h3 : (dec3 t).2.2 = 7 := by
            unfold dec3 tkBoxes
            rw [h20, take_bad (by rw [hb3]; exact hne), hb3]
          have hE : decE t = 7 := by rw [decE_err3 (by rw [h3]; exact hne), h3]
          refine tri_reg M hI hn (outs := ?_) (s' := ?_) ?_ ?_ ?_ ?_
          rotate_left 2
          · rfl
          · kernel_rfl
          · simp
          refine tri_ret (fun a w hg => ⟨.inr rfl, _, ?_, hg⟩)
          refine retTo_ex (out := ?_) ?_ ?_ ?_ ?_
          rotate_left 1
          · rfl
          · simp
          · rfl
          · rw [decPV_err hE hne]
            exact .tup (.cons (.agg (.cons (.cold rfl) (.cons (.cold rfl) (.cons .nil .nil)))) (.cons (.one (.cold rfl)) .nil))
        · have hnor : ¬ ((getS (dec2 t).2.1).1 < 0 ∨ 64 < (getS (dec2 t).2.1).1) := by
            rintro (h | h)
            · simp [h] at hc
            · by_cases h' : (getS (dec2 t).2.1).1 < 0
              · omega
              · simp [h'] at hc
                omega
          have hb3 : (boxesS (dec2 t).2.1).2.2 = 0 := by unfold boxesS; exact (if_neg (fun h => hnor h.2)).trans he3
          have h3 : dec3 t = ((getS (dec2 t).2.1).1, (dec2 t).2.1.drop (getS (dec2 t).2.1).2.1, 0) := by
            unfold dec3 tkBoxes
            rw [h20]
            exact take_good hb3
          have h30 : (dec3 t).2.2 = 0 := by rw [h3]
          have hN : ((decN t : Nat) : Int) = (dec3 t).1 := by unfold decN; omega
          have hl3 := (getS_le (dec2 t).2.1).1
          refine tri_skip ?_
          change Tri _ _ _ _ _
          refine tri_reg M hI hn (outs := ?_) (s' := ?_) ?_ ?_ ?_ ?_
          rotate_left 2
          · rfl
          · kernel_rfl
          · simp
            omega
          refine tri_reg M hI hn (outs := ?_) (s' := ?_) ?_ ?_ ?_ ?_
          rotate_left 2
          · rfl
          · kernel_rfl
          · simp
          refine tri_seq ?_
          refine tri_reg M hI hn (outs := ?_) (s' := ?_) ?_ ?_ ?_ ?_
          rotate_left 2
          · rfl
          · kernel_rfl
          · simp
          refine tri_conv (s' := rdcSt t 0) (fun a w hg => ((hg.nilRowB (x := 23004) (b := 16003) (e := 27) (n := 18) (l1 := [.lit (.string (strOf (dec1 t).1)), .lit (.int .i64 (dec2 t).1)]) (l2 := []) (by rfl) (by rfl)).reset (kT := [2, 4, 11, 14, 15]) (kO := [0, 16003, 23004]) (by rfl) (by simp)).same ?_ ?_) ?_
          · refine .cons rfl (.cons ?_ (.cons ?_ (.cons rfl (.cons rfl .nil))))
            · rw [show (rdS (dec3 t).2 0).2.1 = (dec2 t).2.1.drop (getS (dec2 t).2.1).2.1 from by rw [h3]; rfl]
              exact row_drop hl3
            · rw [h3]
          · exact .cons (.box rfl) (.cons (.box rfl) (.cons (.arr rfl (fun i hi => by omega)) .nil))
          refine tri_block ?_
          refine tri_loop (decN t) (fun k s => s = rdcSt t k ∧ (rdS (dec3 t).2 k).2.2 = 0) 0 ⟨rfl, h30⟩ (by omega) (fun k s hJ hk => ?_)
          obtain ⟨rfl, hk0⟩ := hJ
          have hsk : shortL (rdS (dec3 t).2 k).2.1 := short_of (rdS_short _ _) hs3
          have hlen := rdS_len (dec3 t).2 k
          have hpair : (rdS (dec3 t).2 k).2 = ((rdS (dec3 t).2 k).2.1, 0) := by rw [← hk0]
          refine tri_seq ?_
          refine tri_reg M hI hn (outs := ?_) (s' := ?_) ?_ ?_ ?_ ?_
          rotate_left 2
          · rfl
          · kernel_rfl
          · simp
          refine tri_cond (b := ?_) ?_ (fun hc => ?_) (fun hc => ?_)
          rotate_left 1
          · rfl
          · have hk2 : k < decN t := by
              have : (k : Int) < (dec3 t).1 := by simpa using hc
              omega
            refine tri_skip ?_
            change Tri _ _ _ _ _
            refine tri_seq ?_
            refine tri_block ?_
            refine tri_reg M hI hn (outs := ?_) (s' := ?_) ?_ ?_ ?_ ?_
            rotate_left 2
            · rfl
            · kernel_rfl
            · simp [hsk]
            refine tri_conv (s' := rdcSt2 t k (oneS (rdS (dec3 t).2 k).2.1)) (fun a w hg => (hg.reset (kT := [2, 4, 11, 14, 15, 16, 17, 18]) (kO := [0, 16003, 20006, 23004]) (by rfl) (by simp; exact fun i hi => all_cold rfl)).same ?_ ?_) ?_
            · simp only [rowB_byF]
              exact .cons rfl (.cons rfl (.cons rfl (.cons rfl (.cons rfl (.cons rfl (.cons rfl (.cons rfl .nil)))))))
            · simp only [rowB_byF]
              exact .cons (.box rfl) (.cons (.box rfl) (.cons (.box rfl) (.cons (.arr rfl (fun i hi => rfl)) .nil)))
            have hnext : rdS (dec3 t).2 (k + 1) = ((rdS (dec3 t).2 k).1 ++ [(tkBox ((rdS (dec3 t).2 k).2.1, 0)).1], (tkBox ((rdS (dec3 t).2 k).2.1, 0)).2) := by
              rw [← hpair]; rfl
            have hole := one_le (rdS (dec3 t).2 k).2.1
            have hob := @one_bad (rdS (dec3 t).2 k).2.1
            have hog := @one_good (rdS (dec3 t).2 k).2.1
            generalize oneS (rdS (dec3 t).2 k).2.1 = r at *
            obtain ⟨x, u, h⟩ := r
            dsimp only at *
            refine tri_seq ?_
            refine tri_reg M hI hn (outs := ?_) (s' := ?_) ?_ ?_ ?_ ?_
            rotate_left 2
            · rfl
            · kernel_rfl
            · simp
            refine tri_cond (b := ?_) ?_ (fun hc => ?_) (fun hc => ?_)
            rotate_left 1
            · rfl
            · have hne : h ≠ 0 := by simpa using hc
              have hk1 : (rdS (dec3 t).2 (k + 1)).2.2 = h := by rw [hnext]; exact hob hne
              have hE : decE t = h := by
                have h5 := rd_err (dec3 t).2 (k + 1) (by rw [hk1]; exact hne) (decN t - (k + 1))
                rw [show k + 1 + (decN t - (k + 1)) = decN t from by omega, hk1] at h5
                unfold decE
                rw [h5, if_neg hne]
              refine tri_reg M hI hn (outs := ?_) (s' := ?_) ?_ ?_ ?_ ?_
              rotate_left 2
              · rfl
              · kernel_rfl
              · simp
              refine tri_ret (fun a w hg => ⟨.inr rfl, _, ?_, hg⟩)
              refine retTo_ex (out := ?_) ?_ ?_ ?_ ?_
              rotate_left 1
              · rfl
              · simp
              · rfl
              · rw [decPV_err hE hne]
                exact .tup (.cons (.agg (.cons (.cold rfl) (.cons (.cold rfl) (.cons .nil .nil)))) (.cons (.one (.cold rfl)) .nil))
            · have hz : h = 0 := by simpa using hc
              subst hz
              have htk := hog rfl
              rw [htk] at hnext
              refine tri_skip ?_
              change Tri _ _ _ _ _
              refine tri_reg M hI hn (outs := ?_) (s' := ?_) ?_ ?_ ?_ ?_
              rotate_left 2
              · rfl
              · kernel_rfl
              · simp
                rw [hbt]
                omega
              refine tri_region M hI hn (outs := ?_) (s' := ?_) ?_ ?_ ?_ ?_
              rotate_left 2
              · rfl
              · kernel_rfl
              · simp
                exact hole
              change Tri _ _ _ _ _
              refine tri_region M hI hn (outs := ?_) (s' := ?_) ?_ ?_ ?_ ?_
              rotate_left 2
              · rfl
              · kernel_rfl
              · simp
              intro a w hg
              refine ⟨k + 1, _, by omega, by omega, ⟨rfl, by rw [hnext]⟩, (hg.reset (kT := [2, 4, 11, 14, 15]) (kO := [0, 16003, 23004]) (by rfl) ?_).same ?_ ?_⟩
              · simp only [All, and_true, List.append_nil, List.nil_append]
                intro i hi
                unfold appF
                split
                · rfl
                · rw [show i - k = 0 from by omega]
                  rfl
              · refine .cons rfl (.cons ?_ (.cons rfl (.cons rfl (.cons (by rw [wrap_nat k (by omega)]) .nil))))
                rw [hnext]
                exact row_drop hole
              · refine .cons (.box rfl) (.cons (.box rfl) (.cons (.arr rfl (fun i hi => ?_)) .nil))
                rw [hnext, boxF_snoc hlen i hi]
                unfold appF
                split
                · rfl
                · rw [show i - k = 0 from by omega]
                  rfl
          · have hkk : k = decN t := by
              have : ¬ (k : Int) < (dec3 t).1 := by simpa using hc
              omega
            subst hkk
            refine tri_exit ?_   -- exit 0
            change Tri _ _ _ _ _
            refine tri_seq ?_
            refine tri_reg M hI hn (outs := ?_) (s' := ?_) ?_ ?_ ?_ ?_
            rotate_left 2
            · rfl
            · kernel_rfl
            · simp
            refine tri_cond (b := ?_) ?_ (fun hc => ?_) (fun hc => ?_)
            rotate_left 1
            · rfl
            · have hpos : (rdS (dec3 t).2 (decN t)).2.1.length ≠ 0 := by
                intro h
                rw [h] at hc
                simp at hc
              have hne : (7 : Int) ≠ 0 := by decide
              have hE : decE t = 7 := by unfold decE; rw [if_pos hk0, if_neg hpos]
              refine tri_reg M hI hn (outs := ?_) (s' := ?_) ?_ ?_ ?_ ?_
              rotate_left 2
              · rfl
              · kernel_rfl
              · simp
              refine tri_ret (fun a w hg => ⟨.inr rfl, _, ?_, hg⟩)
              refine retTo_ex (out := ?_) ?_ ?_ ?_ ?_
              rotate_left 1
              · rfl
              · simp
              · rfl
              · rw [decPV_err hE hne]
                exact .tup (.cons (.agg (.cons (.cold rfl) (.cons (.cold rfl) (.cons .nil .nil)))) (.cons (.one (.cold rfl)) .nil))
            · have hz : (rdS (dec3 t).2 (decN t)).2.1.length = 0 := by
                simp at hc
                rw [hc]
                rfl
              have hE : decE t = 0 := by unfold decE; rw [if_pos hk0, if_pos hz]
              refine tri_skip ?_
              change Tri _ _ _ _ _
              refine tri_reg M hI hn (outs := ?_) (s' := ?_) ?_ ?_ ?_ ?_
              rotate_left 2
              · rfl
              · kernel_rfl
              · simp
              refine tri_ret (fun a w hg => ⟨.inr rfl, _, ?_, hg⟩)
              refine retTo_ex (out := ?_) ?_ ?_ ?_ ?_
              rotate_left 1
              · rfl
              · simp
              · rfl
              · have e : decPV t = .tup [.agg [.lit (.string (strOf (dec1 t).1)), .lit (.int .i64 (dec2 t).1), .sl 18 (decN t) (boxF (rdS (dec3 t).2 (decN t)).1)], .one (.lit (.int .i64 0))] := by
                  unfold decPV decV sealL
                  rw [hE, if_pos rfl]
                  dsimp only
                  rw [hlen]
                rw [e]
                exact .tup (.cons (.agg (.cons (.cold rfl) (.cons (.cold rfl) (.cons (.row rfl trivial (by omega) (fun j hj => by rw [Nat.zero_add]) (fun j hj => rfl)) .nil)))) (.cons (.one (.cold rfl)) .nil))

end Go.Proofs.YtgndblhpfjkfhaaDoor.Pv

/-
  The abstract machine: specifications out of contracts with several objects that are given by pointers (closures with their captured variables). Plain: no function of the program is named here.
-/
namespace Go.Proofs.YtgndblhpfjkfhaaDoor.Pv
open Go.RowKit

section
variable {P : Program} {I : World → Prop} {A : Amb} {s : St} {a : Act} {w w' : World} {env : Env} {F : Option Bool → PV → Wr → Prop}
/-- Several objects are written. -/
theorem GamE.many (h : GamE A s a w env) (wr : Wr) (hw : Chg (fun b => ∃ p ∈ wr, ∃ hd, env p.1 = some (p.2.2.1, hd) ∧ hblk hd = some b) w w')
    (hwr : ∀ p ∈ wr, p.2.1 = none ∧ (∀ O stp l, p.2.2.2 ≠ .dev O stp l) ∧ ∃ hd, env p.1 = some (p.2.2.1, hd) ∧ ((ctxOf A w env).Le (ctxOf A w' env) → ObjOk (ctxOf A w' env) hd p.2.2.2)) :
    GamE A { s with o := wr ++ s.o } a w' env ∧ (ctxOf A w env).Le (ctxOf A w' env) := by
  have hle : (ctxOf A w env).Le (ctxOf A w' env) := ⟨hw.size, fun b hlt hok => ⟨hok, hw.block b hlt (fun ⟨p, _, hd, h1, h2⟩ => hok.2 _ _ _ h1 h2)⟩, fun x ver hd hx => ⟨ver, hd, hx, Nat.le_refl _, fun _ => rfl⟩⟩
  have hfind : ∀ (l : Wr) x, (∃ p ∈ l, p.1 = x ∧ find (l ++ s.o) x = some p.2) ∨ ((∀ p ∈ l, p.1 ≠ x) ∧ find (l ++ s.o) x = find s.o x) := by
    intro l x
    induction l with
    | nil => exact .inr ⟨(fun p hp => by cases hp), rfl⟩
    | cons p l ih =>
      by_cases hp : p.1 = x
      · exact .inl ⟨p, List.mem_cons_self, hp, by rw [← hp]; exact find_cons_eq _ _ _⟩
      · have e : find (p :: l ++ s.o) x = find (l ++ s.o) x := find_cons_ne _ _ hp
        rcases ih with ⟨q, h1, h2, h3⟩ | ⟨h1, h2⟩
        · exact .inl ⟨q, List.mem_cons_of_mem _ h1, h2, e.trans h3⟩
        · refine .inr ⟨fun q hq => ?_, e.trans h2⟩
          rcases List.mem_cons.1 hq with rfl | hq
          · exact hp
          · exact h1 q hq
  refine ⟨{ chg := ?_, size := h.size, dom := fun x hx => ?_, objs := fun x g ver o hf => ?_, live := fun x ver hd b h1 h2 => ⟨Nat.lt_of_lt_of_le (h.live x ver hd b h1 h2).1 hw.size, (h.live x ver hd b h1 h2).2⟩, inj := h.inj, tmps := fun t g pv hf hg => let ⟨v, h1, h2⟩ := h.tmps t g pv hf hg; ⟨v, h1, h2.le hle⟩, defers := h.defers, und := h.und, exts := fun y hd hy => ⟨(h.exts y hd hy).1, (h.exts y hd hy).2.le hle⟩, dev := fun g ver O stp l hf hg => ?_ }, hle⟩
  · refine h.chg.trans' hw (fun _ _ h => h) (fun i hi ⟨p, _, hd, h1, h2⟩ => ?_)
    rcases (h.live _ _ hd i h1 h2).2 with h3 | h3
    · omega
    · exact h3
  · rcases hfind wr x with ⟨p, _, _, h3⟩ | ⟨_, h2⟩
    · have hx' : find (wr ++ s.o) x = none := hx
      rw [h3] at hx'; cases hx'
    · exact h.dom x (h2.symm.trans hx)
  · have hf' : find (wr ++ s.o) x = some (g, ver, o) := hf
    rcases hfind wr x with ⟨p, h1, h2, h3⟩ | ⟨h1, h2⟩
    · rw [h3] at hf'
      obtain ⟨k1, _, hd, k2, k3⟩ := hwr p h1
      obtain ⟨x', g', vr, ob⟩ := p
      dsimp only at k1 k2 k3 h2
      subst h2
      cases hf'
      exact ⟨hd, k2, fun _ => k3 hle⟩
    · rw [h2] at hf'
      obtain ⟨hd, h3, h4⟩ := h.objs x g ver o hf'
      exact ⟨hd, h3, fun hg => (h4 hg).le_same hle (fun b hbl hlt => hw.block b hlt (fun ⟨p, hp, hd2, h5, h6⟩ => h1 p hp (h.inj p.1 x _ hd2 ver hd b h5 h3 h6 hbl)))⟩
  · have hf' : find (wr ++ s.o) dx = some (g, ver, .dev O stp l) := hf
    rcases hfind wr dx with ⟨p, h1, h2, h3⟩ | ⟨h1, h2⟩
    · rw [h3] at hf'
      obtain ⟨_, k1, _⟩ := hwr p h1
      obtain ⟨x', g', vr, ob⟩ := p
      cases hf'
      exact absurd rfl (k1 O stp l)
    · rw [h2] at hf'
      obtain ⟨k1, k2, k3⟩ := h.dev g ver O stp l hf' hg
      exact ⟨k1, k2, A.dv.grow _ _ _ _ _ k3 (hw.mono fun k _ ⟨p, _, hd, e1, e2⟩ => .inr ⟨p.1, _, hd, e1, e2⟩) (fun b hb => .inl hb)⟩

/-- An object that is given: its name, its version, its type, its parts. -/
structure Gv where
  x : Nat
  vr : Nat
  t : TypeId
  l : List PC
/-- The arguments, as the function is told of them: pointers are counted. -/
def gatherM : List PV → Nat → (List Gv → List PV → M) → M
  | [], _, k => k [] []
  | .w (.one (.pt x ver off)) :: l, i, k => (match Nat.beq off 0 with
    | true => .obj x fun gd vr ob => guardT gd (match Nat.beq ver vr, ob with
      | true, .box t c => (match c.all (coldPC false) with
        | true => gatherM l (i + 1) fun os ys => k (⟨x, vr, t, c⟩ :: os) (pv1 (.pt (px + i) 0 0) :: ys)
        | false => .fail)
      | _, _ => .fail)
    | false => .fail)
  | v :: l, i, k => (match argV v with
    | some v' => gatherM l i fun os ys => k os (v' :: ys)
    | none => .fail)
def writeM : List Gv → List (List PC) → M → M
  | [], [], k => k
  | o :: os, c :: cs, k => .upd o.x o.vr (.box o.t c) (writeM os cs k)
  | _, _, _ => .fail
def distinct : List Gv → Bool
  | [] => true
  | o :: os => (os.all fun p => !Nat.beq o.x p.x) && distinct os
def obsOf : Nat → List Gv → List (List PC) → List Ob
  | i, o :: os, c :: cs => ⟨px + i, o.t, o.l, c⟩ :: obsOf (i + 1) os cs
  | _, _, _ => []
/-- The specification of a function that is given objects by pointers. -/
def obSpec (g : List (TypeId × List PC) → List PV → Option (Prop × List (List PC) × PV)) : Spec := fun _ xs => gatherM xs 0 fun os ys => (match distinct os, g (os.map fun o => (o.t, o.l)) ys with
  | true, some (p, cs, r) => (match Nat.beq cs.length os.length with
    | true => .need p (writeM os cs (.ret r))
    | false => .fail)
  | _, _ => .fail)
def hdBlk : Option (Nat × Value) → Nat
  | some (_, .pointer (some a)) => a.block
  | _ => 0
def blOf (os : List Gv) (env : Nat → Option (Nat × Value)) (n : Nat) : Nat := hdBlk ((os[n - px]?).bind fun o => env o.x)
def GvOk (C : Ctx) (o : Gv) : Prop := ∃ g cs, C.env o.x = some (o.vr, boxAt g) ∧ Blk C.w g o.t cs ∧ RL C.cold o.l cs.toList
theorem gather_ok (h : GamE A s a w env) : ∀ {pvs : List PV} {vs : List Value} {i : Nat} {k : List Gv → List PV → M}, Vals (ctxOf A w env) pvs vs → (gatherM pvs i k).ok none s F →
    ∃ os ys, (∀ o ∈ os, GvOk (ctxOf A w env) o) ∧ (∀ C' : Ctx, (ctxOf A w env).cold.Le C' → (∀ (j : Nat) o, os[j]? = some o → ∀ hd, env o.x = some (o.vr, hd) → C'.env (px + (i + j)) = some (0, hd)) → Vals C' ys vs) ∧ (k os ys).ok none s F
  | [], [], i, k, _, hk => ⟨[], [], (fun o ho => by cases ho), fun _ _ _ => trivial, hk⟩
  | [], _ :: _, _, _, hv, _ => hv.elim
  | _ :: _, [], _, _, hv, _ => hv.elim
  | pv :: pvs, v :: vs, i, k, ⟨h1, h2⟩, hk => by
    have other : ∀ v', argV pv = some v' → (gatherM pvs i fun os ys => k os (v' :: ys)).ok none s F → ∃ os ys, (∀ o ∈ os, GvOk (ctxOf A w env) o) ∧ (∀ C' : Ctx, (ctxOf A w env).cold.Le C' → (∀ (j : Nat) o, os[j]? = some o → ∀ hd, env o.x = some (o.vr, hd) → C'.env (px + (i + j)) = some (0, hd)) → Vals C' ys (v :: vs)) ∧ (k os ys).ok none s F := by
      intro v' hv' hk'
      obtain ⟨os, ys, h3, h4, h5⟩ := gather_ok h h2 hk'
      exact ⟨os, v' :: ys, h3, fun C' hle hj => ⟨argV_ok hle hv' h1, h4 C' hle hj⟩, h5⟩
    unfold gatherM at hk
    split at hk
    · cases ‹_ :: _ = []›
    · rename_i x ver off l heq
      obtain ⟨rfl, rfl⟩ : pv = .w (.one (.pt x ver off)) ∧ pvs = l := by simpa using heq
      cases hb : Nat.beq off 0 <;> rw [hb] at hk
      · exact hk.elim
      obtain rfl := beqT hb
      obtain ⟨gd, vr, ob, hfo, hk⟩ := hk
      have hk2 := guardT_ok hk
      clear hk
      obtain ⟨hgt, hk⟩ := hk2
      obtain ⟨hd, he, hob⟩ := obj_at h hfo hgt
      cases hb2 : Nat.beq ver vr <;> cases ob <;> simp only [hb2] at hk <;> try exact hk.elim
      rename_i t c
      obtain rfl := beqT hb2
      cases hc : c.all (coldPC false) <;> rw [hc] at hk
      · exact hk.elim
      obtain ⟨g0, rfl, rfl⟩ := h1.pt_inv he
      obtain ⟨g1, cs, e1, hB, hR⟩ := hob
      cases e1
      obtain ⟨os, ys, h3, h4, h5⟩ := gather_ok h h2 hk
      refine ⟨⟨x, ver, t, c⟩ :: os, pv1 (.pt (px + _) 0 0) :: ys, fun o ho => ?_, fun C' hle hj => ⟨?_, h4 C' hle (fun j o hjo hd hx => ?_)⟩, h5⟩
      · rcases List.mem_cons.1 ho with rfl | ho
        · exact ⟨g0, cs, he, hB, coldPL_le hR hc⟩
        · exact h3 o ho
      · have := hj 0 _ rfl _ he
        rw [Nat.add_zero] at this
        exact .w (.one (.pt ⟨g0, 0, rfl⟩ ⟨0, boxAt g0, this, Nat.le_refl _, fun _ => ⟨g0, rfl, rfl⟩⟩))
      · have := hj (j + 1) o (by simpa using hjo) hd hx
        rw [show ∀ n : Nat, n + 1 + j = n + (j + 1) from fun n => by omega]
        exact this
    · rename_i v0 l0 _ heq
      obtain ⟨rfl, rfl⟩ : pv = v0 ∧ pvs = l0 := by simpa using heq
      cases hq : argV pv with
      | none => rw [hq] at hk; exact hk.elim
      | some v' =>
        rw [hq] at hk
        exact other v' hq hk
theorem writeM_ok {r : PV} : ∀ {os : List Gv} {cs : List (List PC)} {F : Option Bool → PV → Wr → Prop}, (writeM os cs (.ret r)).ok none s F → os.length = cs.length ∧ F none r ((os.zip cs).map fun p => (p.1.x, none, p.1.vr, .box p.1.t p.2))
  | [], [], F, h => ⟨rfl, h⟩
  | [], _ :: _, _, h => h.elim
  | _ :: _, [], _, h => h.elim
  | o :: os, c :: cs, F, h => by
    obtain ⟨_, h⟩ := h
    obtain ⟨h1, h2⟩ := writeM_ok h
    exact ⟨by simp [h1], h2⟩
theorem distinct_ok : ∀ {os : List Gv}, distinct os = true → ∀ (i j : Nat) o p, os[i]? = some o → os[j]? = some p → o.x = p.x → i = j
  | [], _, i, j, o, p, hi, _, _ => by simp at hi
  | q :: os, h, i, j, o, p, hi, hj, e => by
    rw [distinct, Bool.and_eq_true] at h
    have hne : ∀ p ∈ os, q.x ≠ p.x := fun p hp e => by
      have := List.all_eq_true.1 h.1 p hp
      rw [e] at this
      simp at this
    match i, j with
    | 0, 0 => rfl
    | 0, j + 1 =>
      obtain rfl : q = o := by simpa using hi
      exact absurd e (hne p (List.mem_of_getElem? (by simpa using hj : os[j]? = some p)))
    | i + 1, 0 =>
      obtain rfl : q = p := by simpa using hj
      exact absurd e.symm (hne o (List.mem_of_getElem? (by simpa using hi : os[i]? = some o)))
    | i + 1, j + 1 => rw [distinct_ok h.2 i j o p (by simpa using hi) (by simpa using hj) e]
theorem obsOf_at : ∀ {os : List Gv} {cs : List (List PC)} {i : Nat} {b : Ob}, b ∈ obsOf i os cs → ∃ j o c, os[j]? = some o ∧ cs[j]? = some c ∧ b = ⟨px + (i + j), o.t, o.l, c⟩
  | [], _, _, _, h => by cases h
  | _ :: _, [], _, _, h => by cases h
  | o :: os, c :: cs, i, b, h => by
    rcases List.mem_cons.1 h with rfl | h
    · exact ⟨0, o, c, rfl, rfl, rfl⟩
    · obtain ⟨j, o', c', h1, h2, h3⟩ := obsOf_at h
      exact ⟨j + 1, o', c', by simpa using h1, by simpa using h2, by rw [h3, show i + 1 + j = i + (j + 1) from by omega]⟩
theorem obsOf_mem : ∀ {os : List Gv} {cs : List (List PC)} {i j : Nat} {o : Gv} {c : List PC}, os[j]? = some o → cs[j]? = some c → (⟨px + (i + j), o.t, o.l, c⟩ : Ob) ∈ obsOf i os cs
  | [], _, _, _, _, _, h, _ => by simp at h
  | _ :: _, [], _, _, _, _, _, h => by simp at h
  | o :: os, c :: cs, i, 0, o', c', h1, h2 => by
    obtain rfl : o = o' := by simpa using h1
    obtain rfl : c = c' := by simpa using h2
    exact List.mem_cons_self
  | o :: os, c :: cs, i, j + 1, o', c', h1, h2 => by
    refine List.mem_cons_of_mem _ ?_
    rw [show i + (j + 1) = i + 1 + j from by omega]
    exact obsOf_mem (by simpa using h1) (by simpa using h2)
theorem obSpec_ok {f : Nat} {g : List (TypeId × List PC) → List PV → Option (Prop × List (List PC) × PV)} (hent : ∀ args w, (callFunc f args).run P w = .ok (.enter f args) w)
    (hg : ∀ (os : List Gv) ys p cs r, g (os.map fun o => (o.t, o.l)) ys = some (p, cs, r) → os.length = cs.length → p → FunX P I f false (obsOf 0 os cs) (fun _ => none) none (fun _ => False) ys r) : SpecOk P I f (obSpec g) := by
  refine ⟨hent, fun A s a w env nm pvs vs F h hI hv hk => ?_⟩
  unfold obSpec at hk
  obtain ⟨os, ys, h1, h2, hk⟩ := gather_ok h hv hk
  cases hd : distinct os <;> cases hq : g (os.map fun o => (o.t, o.l)) ys <;> simp only [hd, hq] at hk <;> try exact hk.elim
  rename_i q
  obtain ⟨p, cs, r⟩ := q
  dsimp only at hk
  cases hb : Nat.beq cs.length os.length <;> rw [hb] at hk
  · exact hk.elim
  have hlen := beqT hb
  obtain ⟨hp, hk⟩ := hk
  obtain ⟨_, hF⟩ := writeM_ok hk
  -- the handles
  have hbl : ∀ (j : Nat) o, os[j]? = some o → ∃ g, env o.x = some (o.vr, boxAt g) ∧ blOf os env (px + (0 + j)) = g := fun j o hj => by
    obtain ⟨g, cs', e1, _⟩ := h1 o (List.mem_of_getElem? hj)
    refine ⟨g, e1, ?_⟩
    unfold blOf
    rw [Nat.zero_add, Nat.add_sub_cancel_left, hj]
    have e1' : env o.x = some (o.vr, boxAt g) := e1
    rw [Option.bind_some, e1']
    rfl
  have hSX : ∀ b, SX (obsOf 0 os cs) (blOf os env) Dv.non b → ∃ o ∈ os, env o.x = some (o.vr, boxAt b) := by
    rintro b (hb | ⟨ob, hob, rfl⟩)
    · exact hb.elim
    · obtain ⟨j, o, c, e1, _, rfl⟩ := obsOf_at hob
      obtain ⟨g, e2, e3⟩ := hbl j o e1
      exact ⟨o, List.mem_of_getElem? e1, by rw [e3]; exact e2⟩
  refine (hg os ys p cs r hq hlen.symm hp w (ctxOf A w env).ok vs (blOf os env) Dv.non (fun _ => True)
    (fun w' hw => hI.mem w' (h.chg.trans' hw (fun _ _ h => h) (fun b hlt0 hb => by
      obtain ⟨o, ho, e1⟩ := hSX b hb
      rcases (h.live _ _ _ b e1 rfl).2 with h3 | h3
      · omega
      · exact h3)))
    (fun b hb => by
      obtain ⟨o, ho, e1⟩ := hSX b hb
      exact ⟨(h.live _ _ _ b e1 rfl).1, fun hok => hok.2 _ _ _ e1 rfl⟩)
    (DvStep.non P) (fun _ _ _ _ _ h => h.elim) rfl (fun p hp => by cases hp) (fun _ => ⟨fun _ h => h, fun _ _ _ h => h⟩)
    (fun ob hob => by
      obtain ⟨j, o, c, e1, _, rfl⟩ := obsOf_at hob
      obtain ⟨g, e2, e3⟩ := hbl j o e1
      obtain ⟨g', cs', e4, h4, h5⟩ := h1 o (List.mem_of_getElem? e1)
      have e4' : env o.x = some (o.vr, boxAt g') := e4
      rw [e2] at e4'
      cases e4'
      refine ⟨trivial, cs', ?_, h5⟩
      show Blk w (blOf os env (px + (0 + j))) _ _
      rw [e3]
      exact h4)
    (fun ob hob ob' hob' e => by
      obtain ⟨j, o, c, e1, _, rfl⟩ := obsOf_at hob
      obtain ⟨j', o', c', e1', _, rfl⟩ := obsOf_at hob'
      obtain ⟨g, e2, e3⟩ := hbl j o e1
      obtain ⟨g', e2', e3'⟩ := hbl j' o' e1'
      have e' : blOf os env (px + (0 + j)) = blOf os env (px + (0 + j')) := e
      rw [e3, e3'] at e'
      subst e'
      have := h.inj o.x o'.x _ _ _ _ g e2 e2' rfl rfl
      rw [distinct_ok hd j j' o o' e1 e1' this])
    (h2 _ cold_to (fun j o hj hd hx => by
      obtain ⟨g, e2, e3⟩ := hbl j o hj
      rw [e2] at hx
      cases hx
      have hm : ∃ c, cs[j]? = some c := by
        have : j < cs.length := by rw [hlen]; exact (List.getElem?_eq_some_iff.1 hj).1
        exact ⟨_, List.getElem?_eq_getElem this⟩
      obtain ⟨c, hc⟩ := hm
      show envX (obsOf 0 os cs) (blOf os env) none Dv.non.hd (px + (0 + j)) = _
      have hmem : hasOb (obsOf 0 os cs) (px + (0 + j)) = true := mem_hasOb (obsOf_mem (i := 0) hj hc)
      unfold envX extX
      rw [hmem]
      show some (0, boxAt (blOf os env (px + (0 + j)))) = _
      rw [e3]))).mono ?_
  rintro e w' ⟨hw, ⟨val, rfl, hres, hbx, _⟩ | ⟨chain, l2, rfl, h3, _⟩⟩
  · obtain ⟨h4, h5⟩ := h.many (w' := w') ((os.zip cs).map fun p => (p.1.x, none, p.1.vr, .box p.1.t p.2))
      (hw.mono fun b hlt hb => by
        obtain ⟨o, ho, e1⟩ := hSX b hb
        obtain ⟨j, hj⟩ := List.getElem?_of_mem ho
        have hm : j < cs.length := by rw [hlen]; exact (List.getElem?_eq_some_iff.1 hj).1
        exact ⟨(o.x, none, o.vr, .box o.t cs[j]), List.mem_map.2 ⟨(o, cs[j]), List.mem_of_getElem? (i := j) (by rw [List.getElem?_zip_eq_some]; exact ⟨hj, List.getElem?_eq_getElem hm⟩), rfl⟩, _, e1, rfl⟩)
      (fun q hq => by
        obtain ⟨⟨o, c⟩, hz, rfl⟩ := List.mem_map.1 hq
        obtain ⟨j, hj⟩ := List.getElem?_of_mem hz
        rw [List.getElem?_zip_eq_some] at hj
        obtain ⟨g, e2, e3⟩ := hbl j o hj.1
        refine ⟨rfl, (fun _ _ _ e => by cases e), boxAt g, e2, fun hle => ?_⟩
        obtain ⟨cs', k1, k2⟩ := hbx _ (obsOf_mem (i := 0) hj.1 hj.2)
        have k1' : Blk w' (blOf os env (px + (0 + j))) o.t cs' := k1
        rw [e3] at k1'
        exact ⟨g, cs', rfl, k1', k2.le (res_leX h hw.size)⟩)
    exact .inl ⟨r, _, val, env, rfl, hF, h4, hres.le (res_leX h hw.size)⟩
  · exact h3.elim
end

end Go.Proofs.YtgndblhpfjkfhaaDoor.Pv
