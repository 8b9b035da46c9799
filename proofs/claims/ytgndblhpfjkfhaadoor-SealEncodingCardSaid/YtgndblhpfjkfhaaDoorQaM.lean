/-
  Several texts in one file: each has its own heading below.
-/
import Derived.Test.YtgndblhpfjkfhaaDoorQaL

/-
  The decoding of lengths, byte strings and tags by the abstract machine.
-/
namespace Go.Proofs.YtgndblhpfjkfhaaDoor.Pv
open Go.RowKit

theorem byF_row {len : Nat} {f : Nat → List PC} (h : IsRow len f) : ∀ i, i < len → f i = byF (rowB len f) i := fun i hi => by
  unfold byF rowB
  rw [getD_map_range len i _ hi]
  exact isByte_ok (h i hi)
theorem rowV_ok {C : Ctx} {len : Nat} {f : Nat → List PC} {x : Value} (h : IsRow len f) (hv : RV C (pv1 (.sl 1 len f)) x) : RV C (rowV (rowB len f)) x := by
  refine .w (.one ?_)
  rw [rowB_length]
  exact (hv.inv).sl_ext (byF_row h)
theorem rowV_nil {C : Ctx} {x : Value} (hv : RV C (pv1 (.lit (.slice none 0 0))) x) : RV C (rowV []) x := by
  have := hv.lit_inv
  subst this
  exact .w (.one (.sl (Reads.nil _ _) (fun g hg => by simp [Value.ownBlock] at hg) (fun i hi => by simp at hi)))
/-- A row of bytes, as an argument. -/
def asRow : PV → Option (Prop × List UInt8)
  | .w (.one (.sl n len f)) => (match Nat.beq n 1 with
    | true => some (IsRow len f, rowB len f)
    | false => none)
  | .w (.one (.lit (.slice none 0 0))) => some (True, [])
  | _ => none
theorem asRow_ok {C : Ctx} {v : PV} {p : Prop} {l : List UInt8} {x : Value} (h : asRow v = some (p, l)) (hp : p) (hv : RV C v x) : RV C (rowV l) x := by
  unfold asRow at h
  split at h
  · rename_i n len f
    cases hb : Nat.beq n 1 <;> rw [hb] at h <;> cases h
    obtain rfl := beqT hb
    exact rowV_ok hp hv
  · cases h; exact rowV_nil hv
  · cases h
/-- The specification of a function of one row of bytes (behind arguments that it leaves alone). -/
def rowSp (pre : List UInt8 → Prop) (res : List UInt8 → PV) : Spec := funSpec true fun xs => match xs with
  | [v] => (match asRow v with
    | some (p, l) => some (p ∧ pre l, res l)
    | none => none)
  | _ => none
theorem rowSp_ok {f : Nat} {pre : List UInt8 → Prop} {res : List UInt8 → PV} (hent : ∀ args w, (callFunc f args).run Tryd.prog w = .ok (.enter f args) w) (h : ∀ l, pre l → FunOk Tryd.prog ShaMem f true [rowV l] (res l)) : SpecOk Tryd.prog ShaMem f (rowSp pre res) := by
  refine funSpec_ok hent (fun xs p r hg hp => ?_)
  split at hg
  · rename_i v
    cases hq : asRow v with
    | none => rw [hq] at hg; cases hg
    | some q =>
      obtain ⟨p0, l⟩ := q
      rw [hq] at hg
      cases hg
      exact (h l hp.2).args fun C vs hv => by
        match vs, hv with
        | [x], ⟨h1, _⟩ => exact ⟨asRow_ok hq hp.1 h1, trivial⟩
  · cases hg
def rowSp2 (pre : List UInt8 → Prop) (res : List UInt8 → PV) : Spec := funSpec true fun xs => match xs with
  | [.w (.one (.any)), v] => (match asRow v with
    | some (p, l) => some (p ∧ pre l, res l)
    | none => none)
  | _ => none
theorem rowSp2_ok {f : Nat} {pre : List UInt8 → Prop} {res : List UInt8 → PV} (hent : ∀ args w, (callFunc f args).run Tryd.prog w = .ok (.enter f args) w) (h : ∀ l, pre l → FunOk Tryd.prog ShaMem f true [pv1 .any, rowV l] (res l)) : SpecOk Tryd.prog ShaMem f (rowSp2 pre res) := by
  refine funSpec_ok hent (fun xs p r hg hp => ?_)
  split at hg
  · rename_i v
    cases hq : asRow v with
    | none => rw [hq] at hg; cases hg
    | some q =>
      obtain ⟨p0, l⟩ := q
      rw [hq] at hg
      cases hg
      exact (h l hp.2).args fun C vs hv => by
        match vs, hv with
        | [x0, x], ⟨h0, h1, _⟩ => exact ⟨h0, asRow_ok hq hp.1 h1, trivial⟩
  · cases hg
def shortL (l : List UInt8) : Prop := l.length < 4611686018427387904
/-- A length: the integer, if it is one. -/
def cntS (l : List UInt8) : Int × Nat × Int := ((getS l).1, (getS l).2.1, if (getS l).2.2 ≠ 0 then (getS l).2.2 else if (getS l).1 < 0 then 7 else if (getS l).1 > (l.length : Int) - (getS l).2.1 then 6 else 0)
def bsPV (r : List UInt8 × Nat × Int) : PV := .tup [.one (.lit (.string (strOf r.1))), .one (.lit (.int .i64 (r.2.1 : Int))), .one (.lit (.int .i64 r.2.2))]
theorem rowB_drop {L : List UInt8} {k m : Nat} (h : k + m ≤ L.length) : rowB m (fun i => byF L (k + i)) = (L.drop k).take m := by
  apply List.ext_getElem
  · rw [rowB_length, List.length_take, List.length_drop]; omega
  · intro i h1 h2
    rw [rowB_length] at h1
    simp only [rowB, List.getElem_map, List.getElem_range, byteAt_byF, List.getElem_take, List.getElem_drop]
    rw [List.getD_eq_getElem?_getD, List.getElem?_eq_getElem (by omega)]
    rfl
theorem byF_drop (L : List UInt8) (k : Nat) : (fun i => byF L (k + i)) = byF (L.drop k) := by
  funext i
  unfold byF
  rw [List.getD_eq_getElem?_getD, List.getD_eq_getElem?_getD, List.getElem?_drop]
@[simp] theorem isRow_shift (n k : Nat) (L : List UInt8) : IsRow n (fun i => byF L (k + i)) := fun _ _ => isByte_byF L _
def dcL1 : List (Nat × Spec) := (65, rowSp shortL fun l => intPV (getS l)) :: lowL
theorem dc1_ok : ∀ p ∈ dcL1, SpecOk Tryd.prog ShaMem p.1 p.2 := by
  intro p hp
  rcases List.mem_cons.1 hp with rfl | hp
  · exact rowSp_ok (call_enters Tryd.func65 (by kernel_rfl) rfl) getInt_fun
  · exact low_ok p hp
theorem dc1M : Mach Tryd.prog ShaMem (find dcL1) := ⟨specs_of dc1_ok, mixed_⟩
theorem code_ne {n : Int} {b : Bool} (h : (!(n == 0)) = b) : n = 0 ↔ b = false := by subst h; simp
set_option maxRecDepth 100000 in
theorem count_fun (L : List UInt8) (hL : shortL L) : FunOk Tryd.prog ShaMem 102 true [rowV L, pvI 1] (intPV (cntS L)) := by
  have M := dc1M
  have hle := getS_le L
  have hrg := getS_range L
  have hL' : L.length < 4611686018427387904 := hL
  refine funOk_of Tryd.func102 rfl rfl sha_ext (fun A hS hn hI => ?_)
  refine tri_reg M hI hn (outs := ?_) (s' := ?_) ?_ ?_ ?_ ?_
  rotate_left 2
  · rfl
  · kernel_rfl
  · simp
  refine tri_reg M hI hn (outs := ?_) (s' := ?_) ?_ ?_ ?_ ?_
  rotate_left 2
  · rfl
  · kernel_rfl
  · simp [hL]
  refine tri_conv (s' := ⟨[(0, none, rowV L), (1, none, pvI 1), (4, none, pvI (getS L).1), (5, none, pvI ((getS L).2.1 : Int)), (6, none, pvI (getS L).2.2)], []⟩) (fun a w hg => (hg.reset (kT := [0, 1, 4, 5, 6]) (kO := []) (by rfl) (by simp)).same ?_ ?_) ?_
  · rw [rowB_byF]
    exact .cons rfl (.cons rfl (.cons rfl (.cons rfl (.cons rfl .nil))))
  · exact .nil
  unfold cntS
  generalize getS L = g at *
  obtain ⟨n, k, e⟩ := g
  dsimp only at *
  refine tri_seq ?_
  refine tri_block ?_
  refine tri_reg M hI hn (outs := ?_) (s' := ?_) ?_ ?_ ?_ ?_
  rotate_left 2
  · rfl
  · kernel_rfl
  · simp
  refine tri_cond (b := ?_) ?_ (fun hc => ?_) (fun hc => ?_)
  rotate_left 1
  · rfl
  · have he : e ≠ 0 := by simpa using hc
    refine tri_skip ?_
    change Tri _ _ _ _ _
    refine tri_reg M hI hn (outs := ?_) (s' := ?_) ?_ ?_ ?_ ?_
    rotate_left 2
    · rfl
    · kernel_rfl
    · simp
    refine tri_ret (fun a w hg => ⟨.inr rfl, _, ?_, hg⟩)
    refine retTo_cold (out := ?_) ?_ ?_ ?_ ?_ ?_
    rotate_left 1
    · rfl
    · simp
    · rfl
    · rfl
    unfold intPV
    rw [if_pos he]
  · have he : e = 0 := by simpa using hc
    subst he
    refine tri_reg M hI hn (outs := ?_) (s' := ?_) ?_ ?_ ?_ ?_
    rotate_left 2
    · rfl
    · kernel_rfl
    · simp
    refine tri_cond (b := ?_) ?_ (fun hc => ?_) (fun hc => ?_)
    rotate_left 1
    · rfl
    · have hn0 : n < 0 := by simpa using hc
      refine tri_region M hI hn (outs := ?_) (s' := ?_) ?_ ?_ ?_ ?_
      rotate_left 2
      · rfl
      · kernel_rfl
      · simp
      change Tri _ _ _ _ _
      refine tri_reg M hI hn (outs := ?_) (s' := ?_) ?_ ?_ ?_ ?_
      rotate_left 2
      · rfl
      · kernel_rfl
      · simp
      refine tri_ret (fun a w hg => ⟨.inr rfl, _, ?_, hg⟩)
      refine retTo_cold (out := ?_) ?_ ?_ ?_ ?_ ?_
      rotate_left 1
      · rfl
      · simp
      · rfl
      · rfl
      unfold intPV
      rw [if_neg (by simp), if_pos hn0]
    · have hn0 : ¬ n < 0 := by simpa using hc
      refine tri_reg M hI hn (outs := ?_) (s' := ?_) ?_ ?_ ?_ ?_
      rotate_left 2
      · rfl
      · kernel_rfl
      · simp
      refine tri_cond (b := ?_) ?_ (fun hc => ?_) (fun hc => ?_)
      rotate_left 1
      · rfl
      · have hn1 : n > (L.length : Int) - k := by
          have e1 : IntKind.i64.wrap ((L.length : Int) - k) = (L.length : Int) - k := wrap_i64_id (by omega) (by omega)
          rw [e1, Int.tdiv_one, e1] at hc
          simpa using hc
        refine tri_region M hI hn (outs := ?_) (s' := ?_) ?_ ?_ ?_ ?_
        rotate_left 2
        · rfl
        · kernel_rfl
        · simp
        change Tri _ _ _ _ _
        refine tri_reg M hI hn (outs := ?_) (s' := ?_) ?_ ?_ ?_ ?_
        rotate_left 2
        · rfl
        · kernel_rfl
        · simp
        refine tri_ret (fun a w hg => ⟨.inr rfl, _, ?_, hg⟩)
        refine retTo_cold (out := ?_) ?_ ?_ ?_ ?_ ?_
        rotate_left 1
        · rfl
        · simp
        · rfl
        · rfl
        unfold intPV
        rw [if_neg (by simp), if_neg hn0, if_pos hn1]
      · have hn1 : ¬ n > (L.length : Int) - k := by
          have e1 : IntKind.i64.wrap ((L.length : Int) - k) = (L.length : Int) - k := wrap_i64_id (by omega) (by omega)
          rw [e1, Int.tdiv_one, e1] at hc
          simpa using hc
        refine tri_skip ?_
        change Tri _ _ _ _ _
        refine tri_reg M hI hn (outs := ?_) (s' := ?_) ?_ ?_ ?_ ?_
        rotate_left 2
        · rfl
        · kernel_rfl
        · simp
        refine tri_ret (fun a w hg => ⟨.inr rfl, _, ?_, hg⟩)
        refine retTo_cold (out := ?_) ?_ ?_ ?_ ?_ ?_
        rotate_left 1
        · rfl
        · simp
        · rfl
        · rfl
        unfold intPV
        rw [if_neg (by simp), if_neg hn0, if_neg hn1]
def spCount : Spec := funSpec true fun xs => match xs with
  | [v, .w (.one (.lit (.int .i64 1)))] => (match asRow v with
    | some (p, l) => some (p ∧ shortL l, intPV (cntS l))
    | none => none)
  | _ => none
theorem count_ok : SpecOk Tryd.prog ShaMem 102 spCount := by
  refine funSpec_ok (call_enters Tryd.func102 (by kernel_rfl) rfl) (fun xs p r hg hp => ?_)
  split at hg
  · rename_i v
    cases hq : asRow v with
    | none => rw [hq] at hg; cases hg
    | some q =>
      obtain ⟨p0, l⟩ := q
      rw [hq] at hg
      cases hg
      exact (count_fun l hp.2).args fun C vs hv => by
        match vs, hv with
        | [x, y], ⟨h1, h2, _⟩ => exact ⟨asRow_ok hq hp.1 h1, h2, trivial⟩
  · cases hg
def dcL2 : List (Nat × Spec) := (102, spCount) :: dcL1
theorem dc2_ok : ∀ p ∈ dcL2, SpecOk Tryd.prog ShaMem p.1 p.2 := by
  intro p hp
  rcases List.mem_cons.1 hp with rfl | hp
  · exact count_ok
  · exact dc1_ok p hp
theorem dc2M : Mach Tryd.prog ShaMem (find dcL2) := ⟨specs_of dc2_ok, mixed_⟩
theorem cntS_code (L : List UInt8) : (cntS L).2.2 = 0 → (getS L).2.2 = 0 ∧ 0 ≤ (getS L).1 ∧ (getS L).1 ≤ (L.length : Int) - (getS L).2.1 := by
  unfold cntS
  dsimp only
  split
  · rename_i h; intro h2; exact absurd h2 h
  · rename_i h
    split
    · intro h2; cases h2
    · split
      · intro h2; cases h2
      · intro _; exact ⟨by simpa using h, by omega, by omega⟩
theorem getBS_cnt (L : List UInt8) : getBS L = if (cntS L).2.2 ≠ 0 then ([], 0, (cntS L).2.2) else ((L.drop (getS L).2.1).take (getS L).1.toNat, (getS L).2.1 + (getS L).1.toNat, 0) := by
  unfold getBS cntS
  dsimp only
  by_cases h : (getS L).2.2 = 0
  · by_cases h1 : (getS L).1 < 0
    · simp [h, h1]
    · by_cases h2 : (getS L).1 > (L.length : Int) - (getS L).2.1
      · have e : (if (getS L).2.2 ≠ 0 then (getS L).2.2 else if (getS L).1 < 0 then (7 : Int) else if (getS L).1 > (L.length : Int) - (getS L).2.1 then 6 else 0) = 6 := by rw [if_neg (by simp [h]), if_neg h1, if_pos h2]
        rw [e, if_neg (by simp [h]), if_neg h1, if_pos h2, if_pos (by decide)]
      · have e : (if (getS L).2.2 ≠ 0 then (getS L).2.2 else if (getS L).1 < 0 then (7 : Int) else if (getS L).1 > (L.length : Int) - (getS L).2.1 then 6 else 0) = 0 := by rw [if_neg (by simp [h]), if_neg h1, if_neg h2]
        rw [e, if_neg (by simp [h]), if_neg h1, if_neg h2, if_neg (by decide)]
  · rw [if_pos h, if_pos h, if_pos h]
set_option maxRecDepth 100000 in
theorem getBytes_fun (L : List UInt8) (hL : shortL L) : FunOk Tryd.prog ShaMem 63 true [rowV L] (bsPV (getBS L)) := by
  have M := dc2M
  have hle := getS_le L
  have hrg := getS_range L
  have hL' : L.length < 4611686018427387904 := hL
  refine funOk_of Tryd.func63 rfl rfl sha_ext (fun A hS hn hI => ?_)
  refine tri_reg M hI hn (outs := ?_) (s' := ?_) ?_ ?_ ?_ ?_
  rotate_left 2
  · rfl
  · kernel_rfl
  · simp
  refine tri_reg M hI hn (outs := ?_) (s' := ?_) ?_ ?_ ?_ ?_
  rotate_left 2
  · rfl
  · kernel_rfl
  · simp [hL]
  refine tri_conv (s' := ⟨[(0, none, rowV L), (5, none, pvI (getS L).1), (6, none, pvI ((getS L).2.1 : Int)), (7, none, pvI (cntS L).2.2)], []⟩) (fun a w hg => (hg.reset (kT := [0, 5, 6, 7]) (kO := []) (by rfl) (by simp)).same ?_ ?_) ?_
  · rw [rowB_byF]
    exact .cons rfl (.cons rfl (.cons rfl (.cons rfl .nil)))
  · exact .nil
  have hcc := cntS_code L
  rw [getBS_cnt L]
  generalize (cntS L).2.2 = e at *
  generalize getS L = g at *
  obtain ⟨n, k, e'⟩ := g
  dsimp only at *
  refine tri_seq ?_
  refine tri_reg M hI hn (outs := ?_) (s' := ?_) ?_ ?_ ?_ ?_
  rotate_left 2
  · rfl
  · kernel_rfl
  · simp
  refine tri_cond (b := ?_) ?_ (fun hc => ?_) (fun hc => ?_)
  rotate_left 1
  · rfl
  · have he : e ≠ 0 := by simpa using hc
    refine tri_reg M hI hn (outs := ?_) (s' := ?_) ?_ ?_ ?_ ?_
    rotate_left 2
    · rfl
    · kernel_rfl
    · simp
    refine tri_ret (fun a w hg => ⟨.inr rfl, _, ?_, hg⟩)
    refine retTo_cold (out := ?_) ?_ ?_ ?_ ?_ ?_
    rotate_left 1
    · rfl
    · simp
    · rfl
    · rfl
    rw [if_pos he]
    rfl
  · have he : e = 0 := by simpa using hc
    subst he
    obtain ⟨_, hn0, hn1⟩ := hcc rfl
    have e1 : IntKind.i64.wrap ((k : Int) + n) = ((k + n.toNat : Nat) : Int) := by rw [wrap_i64_id (by omega) (by omega)]; omega
    refine tri_skip ?_
    change Tri _ _ _ _ _
    refine tri_reg M hI hn (outs := ?_) (s' := ?_) ?_ ?_ ?_ ?_
    rotate_left 2
    · rfl
    · kernel_rfl
    · simp
      rw [e1]
      omega
    refine tri_ret (fun a w hg => ⟨.inr rfl, _, ?_, hg⟩)
    refine retTo_cold (out := ?_) ?_ ?_ ?_ ?_ ?_
    rotate_left 1
    · rfl
    · simp
    · rfl
    · rfl
    rw [if_neg (by simp), e1]
    have e2 : (((k + n.toNat : Nat) : Int) - (k : Int)).toNat = n.toNat := by omega
    unfold bsPV
    rw [e2, Int.toNat_natCast, rowB_drop (by omega)]
    rfl

/-- The number of boxes. -/
def boxesS (l : List UInt8) : Int × Nat × Int := ((getS l).1, (getS l).2.1, if (getS l).2.2 = 0 ∧ ((getS l).1 < 0 ∨ 64 < (getS l).1) then 7 else (getS l).2.2)
set_option maxRecDepth 100000 in
theorem boxes_fun (L : List UInt8) (hL : shortL L) : FunOk Tryd.prog ShaMem 66 true [pv1 .any, rowV L] (intPV (boxesS L)) := by
  have M := dc2M
  refine funOk_of Tryd.func66 rfl rfl sha_ext (fun A hS hn hI => ?_)
  refine tri_reg M hI hn (outs := ?_) (s' := ?_) ?_ ?_ ?_ ?_
  rotate_left 2
  · rfl
  · kernel_rfl
  · simp
  refine tri_reg M hI hn (outs := ?_) (s' := ?_) ?_ ?_ ?_ ?_
  rotate_left 2
  · rfl
  · kernel_rfl
  · simp [hL]
  refine tri_conv (s' := ⟨[(7, none, pvI (getS L).1), (8, none, pvI ((getS L).2.1 : Int)), (9, none, pvI (getS L).2.2)], []⟩) (fun a w hg => (hg.reset (kT := [7, 8, 9]) (kO := []) (by rfl) (by simp)).same ?_ ?_) ?_
  · rw [rowB_byF]
    exact .cons rfl (.cons rfl (.cons rfl .nil))
  · exact .nil
  unfold boxesS
  generalize getS L = g at *
  obtain ⟨n, k, e⟩ := g
  dsimp only at *
  refine tri_seq ?_
  refine tri_reg M hI hn (outs := ?_) (s' := ?_) ?_ ?_ ?_ ?_
  rotate_left 2
  · rfl
  · kernel_rfl
  · simp
    exact fun h1 h2 => ⟨h1, h2⟩
  refine tri_cond (b := ?_) ?_ (fun hc => ?_) (fun hc => ?_)
  rotate_left 1
  · rfl
  · have hp : e = 0 ∧ (n < 0 ∨ 64 < n) := by
      rcases Decidable.em (e = 0) with h0 | h0
      · refine ⟨h0, ?_⟩
        by_cases h1 : n < 0
        · exact .inl h1
        · simp [h0, h1] at hc
          exact .inr hc
      · simp [h0] at hc
    refine tri_region M hI hn (outs := ?_) (s' := ?_) ?_ ?_ ?_ ?_
    rotate_left 2
    · rfl
    · kernel_rfl
    · simp
    change Tri _ _ _ _ _
    refine tri_reg M hI hn (outs := ?_) (s' := ?_) ?_ ?_ ?_ ?_
    rotate_left 2
    · rfl
    · kernel_rfl
    · simp
    refine tri_ret (fun a w hg => ⟨.inr rfl, _, ?_, hg⟩)
    refine retTo_cold (out := ?_) ?_ ?_ ?_ ?_ ?_
    rotate_left 1
    · rfl
    · simp
    · rfl
    · rfl
    rw [if_pos hp]
    rfl
  · have hp : ¬ (e = 0 ∧ (n < 0 ∨ 64 < n)) := by
      intro ⟨h1, h2⟩
      subst h1
      have : decide (n < 0) = true ∨ decide (64 < n) = true := by simpa using h2
      rcases this with h | h
      · simp [h] at hc
      · simp at hc h; omega
    refine tri_skip ?_
    change Tri _ _ _ _ _
    refine tri_reg M hI hn (outs := ?_) (s' := ?_) ?_ ?_ ?_ ?_
    rotate_left 2
    · rfl
    · kernel_rfl
    · simp
    refine tri_ret (fun a w hg => ⟨.inr rfl, _, ?_, hg⟩)
    refine retTo_cold (out := ?_) ?_ ?_ ?_ ?_ ?_
    rotate_left 1
    · rfl
    · simp
    · rfl
    · rfl
    rw [if_neg hp]
    rfl
/-- A tag. -/
def tagG (l : List UInt8) : List UInt8 × Nat × Int := if l.length < 16 then (List.replicate 16 0, 0, 6) else (l.take 16, 16, 0)
def tagPV (l : List UInt8) : PV := .tup [.agg [.bs 16 (tagG l).1], .one (.lit (.int .i64 ((tagG l).2.1 : Int))), .one (.lit (.int .i64 (tagG l).2.2))]
set_option maxRecDepth 100000 in
theorem tagd_fun (L : List UInt8) (_ : shortL L) : FunOk Tryd.prog ShaMem 68 true [pv1 .any, rowV L] (tagPV L) := by
  have M := dc2M
  refine funOk_of Tryd.func68 rfl rfl sha_ext (fun A hS hn hI => ?_)
  refine tri_reg M hI hn (outs := ?_) (s' := ?_) ?_ ?_ ?_ ?_
  rotate_left 2
  · rfl
  · kernel_rfl
  · simp
  refine tri_seq ?_
  refine tri_reg M hI hn (outs := ?_) (s' := ?_) ?_ ?_ ?_ ?_
  rotate_left 2
  · rfl
  · kernel_rfl
  · simp
  refine tri_cond (b := ?_) ?_ (fun hc => ?_) (fun hc => ?_)
  rotate_left 1
  · rfl
  · have hp : L.length < 16 := by
      have : (L.length : Int) < 16 := by simpa using hc
      omega
    refine tri_reg M hI hn (outs := ?_) (s' := ?_) ?_ ?_ ?_ ?_
    rotate_left 2
    · rfl
    · kernel_rfl
    · simp
    refine tri_ret (fun a w hg => ⟨.inr rfl, _, ?_, hg⟩)
    refine retTo_cold (out := ?_) ?_ ?_ ?_ ?_ ?_
    rotate_left 1
    · rfl
    · simp
    · rfl
    · rfl
    unfold tagPV tagG
    rw [if_pos hp]
    rfl
  · have hp : ¬ L.length < 16 := by
      have : ¬ (L.length : Int) < 16 := by simpa using hc
      omega
    refine tri_skip ?_
    change Tri _ _ _ _ _
    refine tri_reg M hI hn (outs := ?_) (s' := ?_) ?_ ?_ ?_ ?_
    rotate_left 2
    · rfl
    · kernel_rfl
    · simp
      omega
    refine tri_ret (fun a w hg => ⟨.inr rfl, _, ?_, hg⟩)
    refine retTo_cold (out := ?_) ?_ ?_ ?_ ?_ ?_
    rotate_left 1
    · rfl
    · simp
    · rfl
    · rfl
    unfold tagPV tagG
    rw [if_neg hp]
    have e := rowB_drop (L := L) (k := 0) (m := 16) (by omega)
    rw [List.drop_zero] at e
    rw [← e]
    rfl

end Go.Proofs.YtgndblhpfjkfhaaDoor.Pv

/-
  The reference's decoding of integers, lengths and byte strings by the abstract machine.
-/
namespace Go.Proofs.YtgndblhpfjkfhaaDoor.Pv
open Go.RowKit

def lenS (L : List UInt8) : Nat := match term 10 L with
  | none => 0
  | some k => k + 1
def lnSt (L : List UInt8) (k : Nat) : St := ⟨[(0, none, rowV L), (3, none, pvI k)], []⟩
set_option maxRecDepth 100000 in
theorem rlength_fun (L : List UInt8) (_ : shortL L) : FunOk Tryd.prog ShaMem 104 true [rowV L] (pvI (lenS L)) := by
  have M := dc2M
  refine funOk_of Tryd.func104 rfl rfl sha_ext (fun A hS hn hI => ?_)
  refine tri_reg M hI hn (outs := ?_) (s' := ?_) ?_ ?_ ?_ ?_
  rotate_left 2
  · rfl
  · kernel_rfl
  · simp
  refine tri_seq ?_
  refine tri_reg M hI hn (outs := ?_) (s' := ?_) ?_ ?_ ?_ ?_
  rotate_left 2
  · rfl
  · kernel_rfl
  · simp
  refine tri_conv (s' := lnSt L 0) (fun a w hg => (hg.reset (kT := [0, 3]) (kO := []) (by rfl) (by simp)).same ?_ ?_) ?_
  · exact .cons rfl (.cons rfl .nil)
  · exact .nil
  refine tri_block ?_
  refine tri_loop (min L.length 10) (fun k s => s = lnSt L k ∧ ∀ i, i < k → 128 ≤ (L.getD i 0).toNat) 0 ⟨rfl, fun i hi => by omega⟩ (by omega) (fun k s hJ hk => ?_)
  obtain ⟨rfl, hbig⟩ := hJ
  refine tri_seq ?_
  refine tri_reg M hI hn (outs := ?_) (s' := ?_) ?_ ?_ ?_ ?_
  rotate_left 2
  · rfl
  · kernel_rfl
  · simp
  refine tri_cond (b := ?_) ?_ (fun hc => ?_) (fun hc => ?_)
  rotate_left 1
  · rfl
  · have hk2 : k < L.length ∧ k < 10 := by
      have h1 : (k : Int) < (L.length : Int) ∧ (k : Int) < 10 := by simpa using hc
      omega
    refine tri_skip ?_
    change Tri _ _ _ _ _
    refine tri_seq ?_
    refine tri_block ?_
    refine tri_reg M hI hn (outs := ?_) (s' := ?_) ?_ ?_ ?_ ?_
    rotate_left 2
    · rfl
    · kernel_rfl
    · simp
      omega
    refine tri_cond (b := ?_) ?_ (fun hc => ?_) (fun hc => ?_)
    rotate_left 1
    · rfl
    · have hlt : (L.getD k 0).toNat < 128 := by
        have : ((L.getD k 0).toNat : Int) < 128 := by simpa using hc
        omega
      have ht := term_some_of 10 L k hbig hk2.1 hk2.2 hlt
      refine tri_reg M hI hn (outs := ?_) (s' := ?_) ?_ ?_ ?_ ?_
      rotate_left 2
      · rfl
      · kernel_rfl
      · simp
      refine tri_ret (fun a w hg => ⟨.inr rfl, _, ?_, hg⟩)
      refine retTo_cold (out := ?_) ?_ ?_ ?_ ?_ ?_
      rotate_left 1
      · rfl
      · simp
      · rfl
      · rfl
      unfold lenS
      rw [ht, wrap_nat k (by omega)]
    · have hge : 128 ≤ (L.getD k 0).toNat := by
        have : ¬ ((L.getD k 0).toNat : Int) < 128 := by simpa using hc
        omega
      refine tri_skip ?_
      change Tri _ _ _ _ _
      refine tri_region M hI hn (outs := ?_) (s' := ?_) ?_ ?_ ?_ ?_
      rotate_left 2
      · rfl
      · kernel_rfl
      · simp
      intro a w hg
      refine ⟨k + 1, _, by omega, by omega, ⟨rfl, fun i hi => ?_⟩, (hg.reset (kT := [0, 3]) (kO := []) (by rfl) (by simp)).same ?_ ?_⟩
      · rcases Nat.lt_or_eq_of_le (Nat.le_of_lt_succ hi) with h | rfl
        · exact hbig i h
        · exact hge
      · exact .cons rfl (.cons (by rw [wrap_nat k (by omega)]) .nil)
      · exact .nil
  · have hkk : k = min L.length 10 := by
      have h1 : ¬ ((k : Int) < (L.length : Int) ∧ (k : Int) < 10) := by simpa using hc
      omega
    have ht := term_none_of 10 L (fun i hi => hbig i (by omega))
    refine tri_exit ?_   -- exit 0
    change Tri _ _ _ _ _
    refine tri_reg M hI hn (outs := ?_) (s' := ?_) ?_ ?_ ?_ ?_
    rotate_left 2
    · rfl
    · kernel_rfl
    · simp
    refine tri_ret (fun a w hg => ⟨.inr rfl, _, ?_, hg⟩)
    refine retTo_cold (out := ?_) ?_ ?_ ?_ ?_ ?_
    rotate_left 1
    · rfl
    · simp
    · rfl
    · rfl
    unfold lenS
    rw [ht]
    rfl
def smSt (X Y : List UInt8) (k : Nat) : St := ⟨[(0, none, rowV X), (1, none, rowV Y), (5, none, pvI k)], []⟩
theorem eq_of_getD {X Y : List UInt8} (hl : X.length = Y.length) (h : ∀ i, i < X.length → X.getD i 0 = Y.getD i 0) : X = Y := by
  apply List.ext_getElem hl
  intro i h1 h2
  have := h i h1
  rw [List.getD_eq_getElem?_getD, List.getD_eq_getElem?_getD, List.getElem?_eq_getElem h1, List.getElem?_eq_getElem h2] at this
  exact this
set_option maxRecDepth 100000 in
theorem rsame_fun (X Y : List UInt8) (hX : shortL X) : FunOk Tryd.prog ShaMem 105 true [rowV X, rowV Y] (pvB (X == Y)) := by
  have M := dc2M
  have hX' : X.length < 4611686018427387904 := hX
  refine funOk_of Tryd.func105 rfl rfl sha_ext (fun A hS hn hI => ?_)
  refine tri_reg M hI hn (outs := ?_) (s' := ?_) ?_ ?_ ?_ ?_
  rotate_left 2
  · rfl
  · kernel_rfl
  · simp
  refine tri_seq ?_
  refine tri_reg M hI hn (outs := ?_) (s' := ?_) ?_ ?_ ?_ ?_
  rotate_left 2
  · rfl
  · kernel_rfl
  · simp
  refine tri_cond (b := ?_) ?_ (fun hc => ?_) (fun hc => ?_)
  rotate_left 1
  · rfl
  · have hne : X ≠ Y := by
      have : ¬ (X.length : Int) = Y.length := by simpa using hc
      intro e; subst e; exact this rfl
    refine tri_reg M hI hn (outs := ?_) (s' := ?_) ?_ ?_ ?_ ?_
    rotate_left 2
    · rfl
    · kernel_rfl
    · simp
    refine tri_ret (fun a w hg => ⟨.inr rfl, _, ?_, hg⟩)
    refine retTo_cold (out := ?_) ?_ ?_ ?_ ?_ ?_
    rotate_left 1
    · rfl
    · simp
    · rfl
    · rfl
    rw [beq_eq_false_iff_ne.2 hne]
  · have hl : X.length = Y.length := by
      have : (X.length : Int) = Y.length := by simpa using hc
      omega
    refine tri_skip ?_
    change Tri _ _ _ _ _
    refine tri_seq ?_
    refine tri_reg M hI hn (outs := ?_) (s' := ?_) ?_ ?_ ?_ ?_
    rotate_left 2
    · rfl
    · kernel_rfl
    · simp
    refine tri_conv (s' := smSt X Y 0) (fun a w hg => (hg.reset (kT := [0, 1, 5]) (kO := []) (by rfl) (by simp)).same ?_ ?_) ?_
    · exact .cons rfl (.cons rfl (.cons rfl .nil))
    · exact .nil
    refine tri_block ?_
    refine tri_loop X.length (fun k s => s = smSt X Y k ∧ ∀ i, i < k → X.getD i 0 = Y.getD i 0) 0 ⟨rfl, fun i hi => by omega⟩ (by omega) (fun k s hJ hk => ?_)
    obtain ⟨rfl, heq⟩ := hJ
    refine tri_seq ?_
    refine tri_reg M hI hn (outs := ?_) (s' := ?_) ?_ ?_ ?_ ?_
    rotate_left 2
    · rfl
    · kernel_rfl
    · simp
    refine tri_cond (b := ?_) ?_ (fun hc => ?_) (fun hc => ?_)
    rotate_left 1
    · rfl
    · have hk2 : k < X.length := by simpa using hc
      refine tri_skip ?_
      change Tri _ _ _ _ _
      refine tri_seq ?_
      refine tri_block ?_
      refine tri_reg M hI hn (outs := ?_) (s' := ?_) ?_ ?_ ?_ ?_
      rotate_left 2
      · rfl
      · kernel_rfl
      · simp
        omega
      refine tri_cond (b := ?_) ?_ (fun hc => ?_) (fun hc => ?_)
      rotate_left 1
      · rfl
      · have hne : X ≠ Y := by
          intro e
          subst e
          simp at hc
        refine tri_reg M hI hn (outs := ?_) (s' := ?_) ?_ ?_ ?_ ?_
        rotate_left 2
        · rfl
        · kernel_rfl
        · simp
        refine tri_ret (fun a w hg => ⟨.inr rfl, _, ?_, hg⟩)
        refine retTo_cold (out := ?_) ?_ ?_ ?_ ?_ ?_
        rotate_left 1
        · rfl
        · simp
        · rfl
        · rfl
        rw [beq_eq_false_iff_ne.2 hne]
      · have he : X.getD k 0 = Y.getD k 0 := by
          have : ((X.getD k 0).toNat : Int) = (Y.getD k 0).toNat := by simpa using hc
          exact UInt8.toNat_inj.1 (by omega)
        refine tri_skip ?_
        change Tri _ _ _ _ _
        refine tri_region M hI hn (outs := ?_) (s' := ?_) ?_ ?_ ?_ ?_
        rotate_left 2
        · rfl
        · kernel_rfl
        · simp
        intro a w hg
        refine ⟨k + 1, _, by omega, by omega, ⟨rfl, fun i hi => ?_⟩, (hg.reset (kT := [0, 1, 5]) (kO := []) (by rfl) (by simp)).same ?_ ?_⟩
        · rcases Nat.lt_or_eq_of_le (Nat.le_of_lt_succ hi) with h | rfl
          · exact heq i h
          · exact he
        · exact .cons rfl (.cons rfl (.cons (by rw [wrap_nat k (by omega)]) .nil))
        · exact .nil
    · have hkk : k = X.length := by
        have : ¬ k < X.length := by simpa using hc
        omega
      have he := eq_of_getD hl (fun i hi => heq i (by omega))
      refine tri_exit ?_   -- exit 0
      change Tri _ _ _ _ _
      refine tri_reg M hI hn (outs := ?_) (s' := ?_) ?_ ?_ ?_ ?_
      rotate_left 2
      · rfl
      · kernel_rfl
      · simp
      refine tri_ret (fun a w hg => ⟨.inr rfl, _, ?_, hg⟩)
      refine retTo_cold (out := ?_) ?_ ?_ ?_ ?_ ?_
      rotate_left 1
      · rfl
      · simp
      · rfl
      · rfl
      subst he
      simp
def spSame : Spec := funSpec true fun xs => match xs with
  | [v, u] => (match asRow v, asRow u with
    | some (p, l), some (q, m) => some (p ∧ q ∧ shortL l, pvB (l == m))
    | _, _ => none)
  | _ => none
theorem rsame_ok : SpecOk Tryd.prog ShaMem 105 spSame := by
  refine funSpec_ok (call_enters Tryd.func105 (by kernel_rfl) rfl) (fun xs p r hg hp => ?_)
  split at hg
  · rename_i v u
    cases hq : asRow v <;> cases hq2 : asRow u <;> simp only [hq, hq2] at hg <;> try (cases hg; done)
    cases hg
    exact (rsame_fun _ _ hp.2.2).args fun C vs hv => by
      match vs, hv with
      | [x, y], ⟨h1, h2, _⟩ => exact ⟨asRow_ok hq hp.1 h1, asRow_ok hq2 hp.2.1 h2, trivial⟩
  · cases hg
def dcL3 : List (Nat × Spec) := (104, rowSp shortL fun l => pvI (lenS l)) :: (105, spSame) :: dcL2
theorem dc3_ok : ∀ p ∈ dcL3, SpecOk Tryd.prog ShaMem p.1 p.2 := by
  intro p hp
  simp only [dcL3, List.mem_cons] at hp
  rcases hp with rfl | rfl | hp
  · exact rowSp_ok (call_enters Tryd.func104 (by kernel_rfl) rfl) rlength_fun
  · exact rsame_ok
  · exact dc2_ok p hp
theorem dc3M : Mach Tryd.prog ShaMem (find dcL3) := ⟨specs_of dc3_ok, mixed_⟩

theorem lenS_le (L : List UInt8) : lenS L ≤ L.length ∧ lenS L ≤ 10 := by
  unfold lenS
  cases h : term 10 L with
  | none => simp
  | some k => obtain ⟨_, h1, h2⟩ := term_isVar _ _ _ h; dsimp only; omega
/-- The integer, in the reference's words. -/
theorem getS_ref (L : List UInt8) : getS L = if lenS L = 0 then (0, 0, if L.length < 10 then 6 else 7) else if wInt (unzig (uval (L.take (lenS L)) % 18446744073709551616)) = L.take (lenS L) then (unzig (uval (L.take (lenS L)) % 18446744073709551616), lenS L, 0) else (0, 0, 7) := by
  unfold getS lenS
  cases h : term 10 L with
  | none => rfl
  | some k =>
    obtain ⟨h1, h2, h3⟩ := term_isVar _ _ _ h
    dsimp only
    rw [if_neg (show ¬ k + 1 = 0 by omega)]
    have hl : (L.take (k + 1)).length = k + 1 := by rw [List.length_take]; omega
    have hiff := var_iff h1 hl h2
    rw [getD_take (by omega)] at hiff
    by_cases hc : uval (L.take (k + 1)) < 18446744073709551616 ∧ (k = 0 ∨ L.getD k 0 ≠ 0)
    · rw [if_pos hc, if_pos (hiff.2 hc), Nat.mod_eq_of_lt hc.1]
    · rw [if_neg hc, if_neg (fun e => hc (hiff.1 e))]
theorem u64_step (u c : Nat) : IntKind.u64.wrap (IntKind.u64.wrap (128 * (u : Int)) + IntKind.u64.wrap ((c : Int).tmod 128)) = (((c % 128 + 128 * u) % 18446744073709551616 : Nat) : Int) := by
  have e : (c : Int).tmod 128 = ((c % 128 : Nat) : Int) := by rw [Int.tmod_eq_emod_of_nonneg (by omega)]; omega
  rw [e, show (128 : Int) * (u : Int) = ((128 * u : Nat) : Int) from by omega, u64_wrapN, u64_wrapN, ← Int.natCast_add, u64_wrapN]
  congr 1
  omega
theorem uval_drop {l : List UInt8} {k : Nat} (h : k < l.length) : uval (l.drop k) = (l.getD k 0).toNat % 128 + 128 * uval (l.drop (k + 1)) := by
  rw [List.drop_eq_getElem_cons h, List.getD_eq_getElem?_getD, List.getElem?_eq_getElem h]
  rfl
def uAt (L : List UInt8) (r : Nat) : Nat := uval ((L.take (lenS L)).drop (lenS L - r)) % 18446744073709551616
def riSt (L : List UInt8) (r : Nat) : St := ⟨[(0, none, rowV L), (5, none, pvI (lenS L)), (6, none, lit1 (.int .u64 (uAt L r : Int))), (7, none, pvI ((lenS L : Int) - 1 - r))], []⟩
set_option maxRecDepth 100000 in
set_option maxHeartbeats 1000000 in
theorem rgetInt_fun (L : List UInt8) (hL : shortL L) : FunOk Tryd.prog ShaMem 70 true [rowV L] (intPV (getS L)) := by
  have M := dc3M
  have hL' : L.length < 4611686018427387904 := hL
  have hle := lenS_le L
  refine funOk_of Tryd.func70 rfl rfl sha_ext (fun A hS hn hI => ?_)
  refine tri_reg M hI hn (outs := ?_) (s' := ?_) ?_ ?_ ?_ ?_
  rotate_left 2
  · rfl
  · kernel_rfl
  · simp
  refine tri_reg M hI hn (outs := ?_) (s' := ?_) ?_ ?_ ?_ ?_
  rotate_left 2
  · rfl
  · kernel_rfl
  · simp [hL]
  refine tri_conv (s' := ⟨[(0, none, rowV L), (5, none, pvI (lenS L))], []⟩) (fun a w hg => (hg.reset (kT := [0, 5]) (kO := []) (by rfl) (by simp)).same ?_ ?_) ?_
  · rw [rowB_byF]
    exact .cons rfl (.cons rfl .nil)
  · exact .nil
  refine tri_seq ?_
  refine tri_reg M hI hn (outs := ?_) (s' := ?_) ?_ ?_ ?_ ?_
  rotate_left 2
  · rfl
  · kernel_rfl
  · simp
  refine tri_cond (b := ?_) ?_ (fun hc => ?_) (fun hc => ?_)
  rotate_left 1
  · rfl
  · have h0 : lenS L = 0 ∧ L.length < 10 := by
      have : ((lenS L : Nat) : Int) = 0 ∧ (L.length : Int) < 10 := by simpa using hc
      omega
    refine tri_reg M hI hn (outs := ?_) (s' := ?_) ?_ ?_ ?_ ?_
    rotate_left 2
    · rfl
    · kernel_rfl
    · simp
    refine tri_ret (fun a w hg => ⟨.inr rfl, _, ?_, hg⟩)
    refine retTo_cold (out := ?_) ?_ ?_ ?_ ?_ ?_
    rotate_left 1
    · rfl
    · simp
    · rfl
    · rfl
    rw [getS_ref, if_pos h0.1, if_pos h0.2]
    rfl
  · have h0 : ¬ (lenS L = 0 ∧ L.length < 10) := by
      intro h
      simp [h.1] at hc
      omega
    refine tri_skip ?_
    change Tri _ _ _ _ _
    refine tri_reg M hI hn (outs := ?_) (s' := ?_) ?_ ?_ ?_ ?_
    rotate_left 2
    · rfl
    · kernel_rfl
    · simp
    refine tri_seq ?_
    refine tri_reg M hI hn (outs := ?_) (s' := ?_) ?_ ?_ ?_ ?_
    rotate_left 2
    · rfl
    · kernel_rfl
    · simp
    refine tri_conv (s' := riSt L 0) (fun a w hg => (hg.reset (kT := [0, 5, 6, 7]) (kO := []) (by rfl) (by simp)).same ?_ ?_) ?_
    · refine .cons rfl (.cons rfl (.cons ?_ (.cons ?_ .nil)))
      · unfold uAt
        rw [Nat.sub_zero, List.drop_of_length_le (by rw [List.length_take]; omega)]
        rfl
      · exact congrArg pvI (by rw [wrap_i64_id (by omega) (by omega)]; omega)
    · exact .nil
    refine tri_block ?_
    refine tri_loop (lenS L) (fun k s => s = riSt L k) 0 rfl (by omega) (fun k s hJ hk => ?_)
    subst hJ
    refine tri_seq ?_
    refine tri_reg M hI hn (outs := ?_) (s' := ?_) ?_ ?_ ?_ ?_
    rotate_left 2
    · rfl
    · kernel_rfl
    · simp
    refine tri_cond (b := ?_) ?_ (fun hc => ?_) (fun hc => ?_)
    rotate_left 1
    · rfl
    · have hk2 : k < lenS L := by
        have : ((lenS L : Nat) : Int) - 1 - k ≥ 0 := by simpa using hc
        omega
      refine tri_skip ?_
      change Tri _ _ _ _ _
      refine tri_seq ?_
      refine tri_block ?_
      refine tri_region M hI hn (outs := ?_) (s' := ?_) ?_ ?_ ?_ ?_
      rotate_left 2
      · rfl
      · kernel_rfl
      · simp
        omega
      change Tri _ _ _ _ _
      refine tri_region M hI hn (outs := ?_) (s' := ?_) ?_ ?_ ?_ ?_
      rotate_left 2
      · rfl
      · kernel_rfl
      · simp
      intro a w hg
      refine ⟨k + 1, _, by omega, by omega, rfl, (hg.reset (kT := [0, 5, 6, 7]) (kO := []) (by rfl) (by simp)).same ?_ ?_⟩
      · refine .cons rfl (.cons rfl (.cons ?_ (.cons ?_ .nil)))
        · refine congrArg (fun n => lit1 (.int .u64 n)) ?_
          rw [show ((lenS L : Nat) : Int) - 1 - k = ((lenS L - 1 - k : Nat) : Int) from by omega, Int.toNat_natCast, u64_step]
          unfold uAt
          have h1 := uval_drop (l := L.take (lenS L)) (k := lenS L - 1 - k) (by rw [List.length_take]; omega)
          rw [getD_take (by omega), show lenS L - 1 - k + 1 = lenS L - k from by omega] at h1
          rw [show lenS L - (k + 1) = lenS L - 1 - k from by omega, h1]
          congr 1
          omega
        · exact congrArg pvI (by rw [wrap_i64_id (by omega) (by omega)]; omega)
      · exact .nil
    · have hkk : k = lenS L := by
        have : ¬ ((lenS L : Nat) : Int) - 1 - k ≥ 0 := by simpa using hc
        omega
      subst hkk
      have hu : uAt L (lenS L) = uval (L.take (lenS L)) % 18446744073709551616 := by unfold uAt; rw [Nat.sub_self, List.drop_zero]
      have hu2 : uAt L (lenS L) < 18446744073709551616 := Nat.mod_lt _ (by omega)
      have hsrg := unzig_range hu2
      refine tri_exit ?_   -- exit 0
      change Tri _ _ _ _ _
      refine tri_reg M hI hn (outs := ?_) (s' := ?_) ?_ ?_ ?_ ?_
      rotate_left 2
      · rfl
      · kernel_rfl
      · simp
      have hh : IntKind.i64.wrap (IntKind.u64.wrap (((uAt L (lenS L) : Nat) : Int).tdiv 2)) = ((uAt L (lenS L) / 2 : Nat) : Int) := by
        have e : ((uAt L (lenS L) : Nat) : Int).tdiv 2 = ((uAt L (lenS L) / 2 : Nat) : Int) := by rw [Int.tdiv_eq_ediv_of_nonneg (by omega)]; omega
        rw [e, u64_wrapN, Nat.mod_eq_of_lt (by omega), wrap_i64_id (by omega) (by omega)]
      refine tri_conv (s' := ⟨[(0, none, rowV L), (5, none, pvI (lenS L)), (6, none, lit1 (.int .u64 (uAt L (lenS L) : Int))), (8, none, pvI ((uAt L (lenS L) / 2 : Nat) : Int))], []⟩) (fun a w hg => (hg.reset (kT := [0, 5, 6, 8]) (kO := []) (by rfl) (by simp)).same ?_ ?_) ?_
      · exact .cons rfl (.cons rfl (.cons rfl (.cons (congrArg pvI hh) .nil)))
      · exact .nil
      have hm2 : ((uAt L (lenS L) : Nat) : Int).tmod 2 = ((uAt L (lenS L) % 2 : Nat) : Int) := by rw [Int.tmod_eq_emod_of_nonneg (by omega)]; omega
      have hgs := getS_ref L
      rw [← hu] at hgs
      generalize hU : uAt L (lenS L) = U at *
      have hbI : i64P (unzig U) := hsrg
      have hbl := wInt_length (unzig U)
      have hr1 : (rowB (wInt (unzig U)).length fun i => byF (wInt (unzig U)) (0 + i)) = wInt (unzig U) := by
        rw [rowB_drop (by omega), List.drop_zero, List.take_length]
      have hr2 : (rowB (((lenS L : Nat) : Int) - 0).toNat fun i => byF L (Int.toNat 0 + i)) = L.take (lenS L) := by
        rw [show (((lenS L : Nat) : Int) - 0).toNat = lenS L from by omega]
        exact (rowB_drop (L := L) (k := 0) (m := lenS L) (by omega)).trans (by rw [List.drop_zero])
      refine tri_seq ?_
      refine tri_reg M hI hn (outs := ?_) (s' := ?_) ?_ ?_ ?_ ?_
      rotate_left 2
      · rfl
      · kernel_rfl
      · simp
      refine tri_cond (b := ?_) ?_ (fun hc => ?_) (fun hc => ?_)
      rotate_left 1
      · rfl
      · have huz : IntKind.i64.wrap (IntKind.i64.wrap (0 - ((U / 2 : Nat) : Int)) - 1) = unzig U := by
          rw [hm2] at hc
          have hodd : ((U % 2 : Nat) : Int) = 1 := by simpa using hc
          have e : IntKind.i64.wrap (0 - ((U / 2 : Nat) : Int)) = 0 - ((U / 2 : Nat) : Int) := wrap_i64_id (by omega) (by omega)
          rw [e, wrap_i64_id (by omega) (by omega)]
          unfold unzig
          rw [if_neg (by omega)]
          omega
        refine tri_region M hI hn (outs := ?_) (s' := ?_) ?_ ?_ ?_ ?_
        rotate_left 2
        · rfl
        · kernel_rfl
        · simp
        change Tri _ _ _ _ _
        refine tri_conv (s' := ⟨[(0, none, rowV L), (5, none, pvI (lenS L)), (8, none, pvI (unzig U))], []⟩) (fun a w hg => (hg.reset (kT := [0, 5, 8]) (kO := []) (by rfl) (by simp)).same ?_ ?_) ?_
        · exact .cons rfl (.cons rfl (.cons (congrArg pvI huz) .nil))
        · exact .nil
        refine tri_seq ?_
        refine tri_reg M hI hn (outs := ?_) (s' := ?_) ?_ ?_ ?_ ?_
        rotate_left 2
        · rfl
        · kernel_rfl
        · simp [hbI]
          exact ⟨fun _ => by omega, fun _ i hi x hx => all_cold (show (byF _ i).all (coldPC false) = true from rfl) x hx, fun _ => by unfold shortL; omega⟩
        refine tri_cond (b := ?_) ?_ (fun hc => ?_) (fun hc => ?_)
        rotate_left 1
        · rfl
        · rw [hr1, hr2] at hc
          have h7 : getS L = (0, 0, 7) := by
            rw [hgs]
            by_cases h1 : lenS L = 0
            · rw [if_pos h1, if_neg (fun h => h0 ⟨h1, h⟩)]
            · rw [if_neg h1, if_neg]
              intro e
              rw [e] at hc
              simp [h1] at hc
          refine tri_reg M hI hn (outs := ?_) (s' := ?_) ?_ ?_ ?_ ?_
          rotate_left 2
          · rfl
          · kernel_rfl
          · simp
          refine tri_ret (fun a w hg => ⟨.inr rfl, _, ?_, hg⟩)
          refine retTo_cold (out := ?_) ?_ ?_ ?_ ?_ ?_
          rotate_left 1
          · rfl
          · simp
          · rfl
          · rfl
          rw [h7]
          rfl
        · rw [hr1, hr2] at hc
          have h7 : lenS L ≠ 0 ∧ wInt (unzig U) = L.take (lenS L) := by
            by_cases h1 : lenS L = 0
            · simp [h1] at hc
            · refine ⟨h1, ?_⟩
              simp [h1] at hc
              exact hc
          refine tri_skip ?_
          change Tri _ _ _ _ _
          refine tri_reg M hI hn (outs := ?_) (s' := ?_) ?_ ?_ ?_ ?_
          rotate_left 2
          · rfl
          · kernel_rfl
          · simp
          refine tri_ret (fun a w hg => ⟨.inr rfl, _, ?_, hg⟩)
          refine retTo_cold (out := ?_) ?_ ?_ ?_ ?_ ?_
          rotate_left 1
          · rfl
          · simp
          · rfl
          · rfl
          rw [hgs, if_neg h7.1, if_pos h7.2]
          rfl
      · have huz : ((U / 2 : Nat) : Int) = unzig U := by
          rw [hm2] at hc
          have hev : ¬ ((U % 2 : Nat) : Int) = 1 := by simpa using hc
          unfold unzig
          rw [if_pos (by omega)]
        refine tri_skip ?_
        change Tri _ _ _ _ _
        refine tri_conv (s' := ⟨[(0, none, rowV L), (5, none, pvI (lenS L)), (8, none, pvI (unzig U))], []⟩) (fun a w hg => (hg.reset (kT := [0, 5, 8]) (kO := []) (by rfl) (by simp)).same ?_ ?_) ?_
        · exact .cons rfl (.cons rfl (.cons (congrArg pvI huz) .nil))
        · exact .nil
        refine tri_seq ?_
        refine tri_reg M hI hn (outs := ?_) (s' := ?_) ?_ ?_ ?_ ?_
        rotate_left 2
        · rfl
        · kernel_rfl
        · simp [hbI]
          exact ⟨fun _ => by omega, fun _ i hi x hx => all_cold (show (byF _ i).all (coldPC false) = true from rfl) x hx, fun _ => by unfold shortL; omega⟩
        refine tri_cond (b := ?_) ?_ (fun hc => ?_) (fun hc => ?_)
        rotate_left 1
        · rfl
        · rw [hr1, hr2] at hc
          have h7 : getS L = (0, 0, 7) := by
            rw [hgs]
            by_cases h1 : lenS L = 0
            · rw [if_pos h1, if_neg (fun h => h0 ⟨h1, h⟩)]
            · rw [if_neg h1, if_neg]
              intro e
              rw [e] at hc
              simp [h1] at hc
          refine tri_reg M hI hn (outs := ?_) (s' := ?_) ?_ ?_ ?_ ?_
          rotate_left 2
          · rfl
          · kernel_rfl
          · simp
          refine tri_ret (fun a w hg => ⟨.inr rfl, _, ?_, hg⟩)
          refine retTo_cold (out := ?_) ?_ ?_ ?_ ?_ ?_
          rotate_left 1
          · rfl
          · simp
          · rfl
          · rfl
          rw [h7]
          rfl
        · rw [hr1, hr2] at hc
          have h7 : lenS L ≠ 0 ∧ wInt (unzig U) = L.take (lenS L) := by
            by_cases h1 : lenS L = 0
            · simp [h1] at hc
            · refine ⟨h1, ?_⟩
              simp [h1] at hc
              exact hc
          refine tri_skip ?_
          change Tri _ _ _ _ _
          refine tri_reg M hI hn (outs := ?_) (s' := ?_) ?_ ?_ ?_ ?_
          rotate_left 2
          · rfl
          · kernel_rfl
          · simp
          refine tri_ret (fun a w hg => ⟨.inr rfl, _, ?_, hg⟩)
          refine retTo_cold (out := ?_) ?_ ?_ ?_ ?_ ?_
          rotate_left 1
          · rfl
          · simp
          · rfl
          · rfl
          rw [hgs, if_neg h7.1, if_pos h7.2]
          rfl

end Go.Proofs.YtgndblhpfjkfhaaDoor.Pv

/-
  The reference's decoding of lengths and byte strings; the decoder's parts (seal.take) by the abstract machine.
-/
namespace Go.Proofs.YtgndblhpfjkfhaaDoor.Pv
open Go.RowKit

def dcL4 : List (Nat × Spec) := (70, rowSp shortL fun l => intPV (getS l)) :: (63, rowSp shortL fun l => bsPV (getBS l)) :: (66, rowSp2 shortL fun l => intPV (boxesS l)) :: (68, rowSp2 shortL tagPV) :: dcL3
theorem dc4_ok : ∀ p ∈ dcL4, SpecOk Tryd.prog ShaMem p.1 p.2 := by
  intro p hp
  simp only [dcL4, List.mem_cons] at hp
  rcases hp with rfl | rfl | rfl | rfl | hp
  · exact rowSp_ok (call_enters Tryd.func70 (by kernel_rfl) rfl) rgetInt_fun
  · exact rowSp_ok (call_enters Tryd.func63 (by kernel_rfl) rfl) getBytes_fun
  · exact rowSp2_ok (call_enters Tryd.func66 (by kernel_rfl) rfl) boxes_fun
  · exact rowSp2_ok (call_enters Tryd.func68 (by kernel_rfl) rfl) tagd_fun
  · exact dc3_ok p hp
theorem dc4M : Mach Tryd.prog ShaMem (find dcL4) := ⟨specs_of dc4_ok, mixed_⟩
def rcntS (L : List UInt8) : Int × Nat × Int := if (cntS L).2.2 = 0 then ((getS L).1, (getS L).2.1, 0) else (0, 0, (cntS L).2.2)
set_option maxRecDepth 100000 in
theorem rcount_fun (L : List UInt8) (hL : shortL L) : FunOk Tryd.prog ShaMem 103 true [rowV L, pvI 1] (intPV (rcntS L)) := by
  have M := dc4M
  have hle := getS_le L
  have hrg := getS_range L
  have hL' : L.length < 4611686018427387904 := hL
  refine funOk_of Tryd.func103 rfl rfl sha_ext (fun A hS hn hI => ?_)
  refine tri_reg M hI hn (outs := ?_) (s' := ?_) ?_ ?_ ?_ ?_
  rotate_left 2
  · rfl
  · kernel_rfl
  · simp
  refine tri_reg M hI hn (outs := ?_) (s' := ?_) ?_ ?_ ?_ ?_
  rotate_left 2
  · rfl
  · kernel_rfl
  · simp [hL]
  refine tri_conv (s' := ⟨[(0, none, rowV L), (1, none, pvI 1), (7, none, pvI (getS L).1), (8, none, pvI ((getS L).2.1 : Int)), (9, none, pvI (getS L).2.2)], []⟩) (fun a w hg => (hg.reset (kT := [0, 1, 7, 8, 9]) (kO := []) (by rfl) (by simp)).same ?_ ?_) ?_
  · rw [rowB_byF]
    exact .cons rfl (.cons rfl (.cons rfl (.cons rfl (.cons rfl .nil))))
  · exact .nil
  unfold rcntS cntS
  generalize getS L = g at *
  obtain ⟨n, k, e⟩ := g
  dsimp only at *
  refine tri_seq ?_
  refine tri_reg M hI hn (outs := ?_) (s' := ?_) ?_ ?_ ?_ ?_
  rotate_left 2
  · rfl
  · kernel_rfl
  · simp
  refine tri_cond (b := ?_) ?_ (fun hc => ?_) (fun hc => ?_)
  rotate_left 1
  · rfl
  · have he : e ≠ 0 := by simpa using hc
    refine tri_reg M hI hn (outs := ?_) (s' := ?_) ?_ ?_ ?_ ?_
    rotate_left 2
    · rfl
    · kernel_rfl
    · simp
    refine tri_ret (fun a w hg => ⟨.inr rfl, _, ?_, hg⟩)
    refine retTo_cold (out := ?_) ?_ ?_ ?_ ?_ ?_
    rotate_left 1
    · rfl
    · simp
    · rfl
    · rfl
    rw [if_pos he, if_neg he]
    rfl
  · have he : e = 0 := by simpa using hc
    subst he
    refine tri_skip ?_
    change Tri _ _ _ _ _
    refine tri_seq ?_
    refine tri_reg M hI hn (outs := ?_) (s' := ?_) ?_ ?_ ?_ ?_
    rotate_left 2
    · rfl
    · kernel_rfl
    · simp
    refine tri_cond (b := ?_) ?_ (fun hc => ?_) (fun hc => ?_)
    rotate_left 1
    · rfl
    · have hn0 : n < 0 := by simpa using hc
      refine tri_reg M hI hn (outs := ?_) (s' := ?_) ?_ ?_ ?_ ?_
      rotate_left 2
      · rfl
      · kernel_rfl
      · simp
      refine tri_ret (fun a w hg => ⟨.inr rfl, _, ?_, hg⟩)
      refine retTo_cold (out := ?_) ?_ ?_ ?_ ?_ ?_
      rotate_left 1
      · rfl
      · simp
      · rfl
      · rfl
      have ec : (if (0 : Int) ≠ 0 then (0 : Int) else if n < 0 then (7 : Int) else if n > (L.length : Int) - k then 6 else 0) = 7 := by rw [if_neg (by simp), if_pos hn0]
      rw [ec]
      rfl
    · have hn0 : ¬ n < 0 := by simpa using hc
      refine tri_skip ?_
      change Tri _ _ _ _ _
      refine tri_seq ?_
      refine tri_reg M hI hn (outs := ?_) (s' := ?_) ?_ ?_ ?_ ?_
      rotate_left 2
      · rfl
      · kernel_rfl
      · simp
      have e1 : IntKind.i64.wrap ((L.length : Int) - k) = (L.length : Int) - k := wrap_i64_id (by omega) (by omega)
      have e2 : IntKind.i64.wrap (n * 1) = n := by rw [Int.mul_one]; exact wrap_i64_id (by omega) (by omega)
      refine tri_cond (b := ?_) ?_ (fun hc => ?_) (fun hc => ?_)
      rotate_left 1
      · rfl
      · rw [e1, e2] at hc
        have hn1 : n > (L.length : Int) - k := by
          by_cases h1 : (L.length : Int) < n
          · omega
          · simp [h1] at hc
            exact hc
        refine tri_reg M hI hn (outs := ?_) (s' := ?_) ?_ ?_ ?_ ?_
        rotate_left 2
        · rfl
        · kernel_rfl
        · simp
        refine tri_ret (fun a w hg => ⟨.inr rfl, _, ?_, hg⟩)
        refine retTo_cold (out := ?_) ?_ ?_ ?_ ?_ ?_
        rotate_left 1
        · rfl
        · simp
        · rfl
        · rfl
        have ec : (if (0 : Int) ≠ 0 then (0 : Int) else if n < 0 then (7 : Int) else if n > (L.length : Int) - k then 6 else 0) = 6 := by rw [if_neg (by simp), if_neg hn0, if_pos hn1]
        rw [ec]
        rfl
      · rw [e1, e2] at hc
        have hn1 : ¬ n > (L.length : Int) - k := by
          by_cases h1 : (L.length : Int) < n
          · simp [h1] at hc
          · simp [h1] at hc
            omega
        refine tri_skip ?_
        change Tri _ _ _ _ _
        refine tri_reg M hI hn (outs := ?_) (s' := ?_) ?_ ?_ ?_ ?_
        rotate_left 2
        · rfl
        · kernel_rfl
        · simp
        refine tri_ret (fun a w hg => ⟨.inr rfl, _, ?_, hg⟩)
        refine retTo_cold (out := ?_) ?_ ?_ ?_ ?_ ?_
        rotate_left 1
        · rfl
        · simp
        · rfl
        · rfl
        have ec : (if (0 : Int) ≠ 0 then (0 : Int) else if n < 0 then (7 : Int) else if n > (L.length : Int) - k then 6 else 0) = 0 := by rw [if_neg (by simp), if_neg hn0, if_neg hn1]
        rw [ec]
        rfl
def spRcount : Spec := funSpec true fun xs => match xs with
  | [v, .w (.one (.lit (.int .i64 1)))] => (match asRow v with
    | some (p, l) => some (p ∧ shortL l, intPV (rcntS l))
    | none => none)
  | _ => none
theorem rcount_ok : SpecOk Tryd.prog ShaMem 103 spRcount := by
  refine funSpec_ok (call_enters Tryd.func103 (by kernel_rfl) rfl) (fun xs p r hg hp => ?_)
  split at hg
  · rename_i v
    cases hq : asRow v with
    | none => rw [hq] at hg; cases hg
    | some q =>
      obtain ⟨p0, l⟩ := q
      rw [hq] at hg
      cases hg
      exact (rcount_fun l hp.2).args fun C vs hv => by
        match vs, hv with
        | [x, y], ⟨h1, h2, _⟩ => exact ⟨asRow_ok hq hp.1 h1, h2, trivial⟩
  · cases hg
def dcL5 : List (Nat × Spec) := (103, spRcount) :: dcL4
theorem dc5_ok : ∀ p ∈ dcL5, SpecOk Tryd.prog ShaMem p.1 p.2 := by
  intro p hp
  rcases List.mem_cons.1 hp with rfl | hp
  · exact rcount_ok
  · exact dc4_ok p hp
theorem dc5M : Mach Tryd.prog ShaMem (find dcL5) := ⟨specs_of dc5_ok, mixed_⟩
set_option maxRecDepth 100000 in
theorem rgetBytes_fun (L : List UInt8) (hL : shortL L) : FunOk Tryd.prog ShaMem 69 true [rowV L] (bsPV (getBS L)) := by
  have M := dc5M
  have hle := getS_le L
  have hrg := getS_range L
  have hL' : L.length < 4611686018427387904 := hL
  refine funOk_of Tryd.func69 rfl rfl sha_ext (fun A hS hn hI => ?_)
  refine tri_reg M hI hn (outs := ?_) (s' := ?_) ?_ ?_ ?_ ?_
  rotate_left 2
  · rfl
  · kernel_rfl
  · simp
  refine tri_reg M hI hn (outs := ?_) (s' := ?_) ?_ ?_ ?_ ?_
  rotate_left 2
  · rfl
  · kernel_rfl
  · simp [hL]
  refine tri_conv (s' := ⟨[(0, none, rowV L), (5, none, pvI (rcntS L).1), (6, none, pvI ((rcntS L).2.1 : Int)), (7, none, pvI (rcntS L).2.2)], []⟩) (fun a w hg => (hg.reset (kT := [0, 5, 6, 7]) (kO := []) (by rfl) (by simp)).same ?_ ?_) ?_
  · rw [rowB_byF]
    exact .cons rfl (.cons rfl (.cons rfl (.cons rfl .nil)))
  · exact .nil
  have hcc := cntS_code L
  rw [getBS_cnt L]
  unfold rcntS
  generalize (cntS L).2.2 = e at *
  generalize getS L = g at *
  obtain ⟨n, k, e'⟩ := g
  dsimp only at *
  refine tri_seq ?_
  refine tri_reg M hI hn (outs := ?_) (s' := ?_) ?_ ?_ ?_ ?_
  rotate_left 2
  · rfl
  · kernel_rfl
  · simp
  refine tri_cond (b := ?_) ?_ (fun hc => ?_) (fun hc => ?_)
  rotate_left 1
  · rfl
  · have he : e ≠ 0 := by
      intro h
      rw [if_pos h] at hc
      simp at hc
    refine tri_reg M hI hn (outs := ?_) (s' := ?_) ?_ ?_ ?_ ?_
    rotate_left 2
    · rfl
    · kernel_rfl
    · simp
    refine tri_ret (fun a w hg => ⟨.inr rfl, _, ?_, hg⟩)
    refine retTo_cold (out := ?_) ?_ ?_ ?_ ?_ ?_
    rotate_left 1
    · rfl
    · simp
    · rfl
    · rfl
    rw [if_pos he, if_neg he]
    rfl
  · have he : e = 0 := by
      rcases Decidable.em (e = 0) with h | h
      · exact h
      · rw [if_neg h] at hc
        exact absurd (by simpa using hc) h
    subst he
    obtain ⟨_, hn0, hn1⟩ := hcc rfl
    have e1 : IntKind.i64.wrap ((k : Int) + n) = ((k + n.toNat : Nat) : Int) := by rw [wrap_i64_id (by omega) (by omega)]; omega
    refine tri_skip ?_
    change Tri _ _ _ _ _
    simp only [if_pos]
    refine tri_reg M hI hn (outs := ?_) (s' := ?_) ?_ ?_ ?_ ?_
    rotate_left 2
    · rfl
    · kernel_rfl
    · simp
      rw [e1]
      omega
    refine tri_ret (fun a w hg => ⟨.inr rfl, _, ?_, hg⟩)
    refine retTo_cold (out := ?_) ?_ ?_ ?_ ?_ ?_
    rotate_left 1
    · rfl
    · simp
    · rfl
    · rfl
    rw [if_neg (by simp), e1]
    have e2 : (((k + n.toNat : Nat) : Int) - (k : Int)).toNat = n.toNat := by omega
    unfold bsPV
    rw [e2, Int.toNat_natCast, rowB_drop (by omega)]
    rfl

/-! ### The decoder -/
/-- What a part leaves of a decoder: the value is z if the decoder, or the part, has an error. -/
def takeS {α : Type} (z : α) (g : List UInt8 → α × Nat × Int) (b : List UInt8) (e : Int) : α × List UInt8 × Int :=
  if e ≠ 0 then (z, b, e) else if (g b).2.2 ≠ 0 then (z, b, (g b).2.2) else ((g b).1, b.drop (g b).2.1, 0)
def decPL (b : List UInt8) (e : Int) : List PC := [.sl 1 b.length (byF b), .lit (.int .i64 e)]
def digPV (l : List UInt8) : PV := .w (.agg [.bs 16 l])
def strPV (l : List UInt8) : PV := lit1 (.string (strOf l))
theorem dec_end {s : St} {L : List UInt8} {k : Nat} (h : k ≤ L.length) : ExL s false [.sl 1 ((L.length : Int) - (k : Int)).toNat (fun i => byF L ((k : Int).toNat + i)), .lit (.int .i64 0)] (decPL (L.drop k) 0) := by
  unfold decPL
  rw [show ((L.length : Int) - (k : Int)).toNat = (L.drop k).length from by rw [List.length_drop]; omega, Int.toNat_natCast, byF_drop]
  exact exL_refl rfl
set_option maxRecDepth 100000 in
set_option maxHeartbeats 1000000 in
theorem takeInt_x (L : List UInt8) (e : Int) (hL : shortL L) : FunX Tryd.prog ShaMem 64 false [⟨px, 103, decPL L e, decPL (takeS (0 : Int) getS L e).2.1 (takeS (0 : Int) getS L e).2.2⟩] (fun _ => none) none (fun _ => False) [pv1 (.pt px 0 0), lit1 (.func (.func 65) #[] #[])] (pvI (takeS (0 : Int) getS L e).1) := by
  have M := dc5M
  have hle : (getS L).2.1 ≤ L.length ∨ (getS L).2.2 ≠ 0 := .inl (getS_le L).1
  have hL' : L.length < 4611686018427387904 := hL
  refine funX_of Tryd.func64 rfl rfl (by rfl) (fun A hn hI => ?_)
  refine tri_reg M hI hn (outs := ?_) (s' := ?_) ?_ ?_ ?_ ?_
  rotate_left 2
  · rfl
  · kernel_rfl
  · simp
  refine tri_reg M hI hn (outs := ?_) (s' := ?_) ?_ ?_ ?_ ?_
  rotate_left 2
  · rfl
  · kernel_rfl
  · simp
  refine tri_seq ?_
  refine tri_reg M hI hn (outs := ?_) (s' := ?_) ?_ ?_ ?_ ?_
  rotate_left 2
  · rfl
  · kernel_rfl
  · simp
  refine tri_cond (b := ?_) ?_ (fun hc => ?_) (fun hc => ?_)
  rotate_left 1
  · rfl
  · have he : e ≠ 0 := by simpa using hc
    have hT : takeS (0 : Int) getS L e = ((0 : Int), L, e) := if_pos he
    rw [hT]
    refine tri_reg M hI hn (outs := ?_) (s' := ?_) ?_ ?_ ?_ ?_
    rotate_left 2
    · rfl
    · kernel_rfl
    · simp
    refine tri_ret (fun a w hg => ⟨.inr rfl, _, ⟨?_, fun o ho => ?_, fun p hp => by cases hp⟩, hg⟩)
    rotate_left 1
    · obtain rfl := List.mem_singleton.1 ho
      refine ⟨_, rfl, ?_⟩
      exact exL_refl rfl
    refine retTo_cold (out := ?_) ?_ ?_ ?_ ?_ ?_
    rotate_left 1
    · rfl
    · simp
    · rfl
    · rfl
    rfl
  · have he : e = 0 := by simpa using hc
    subst he
    refine tri_skip ?_
    change Tri _ _ _ _ _
    refine tri_reg M hI hn (outs := ?_) (s' := ?_) ?_ ?_ ?_ ?_
    rotate_left 2
    · rfl
    · kernel_rfl
    · simp [hL]
    have hrow := rowB_byF L
    refine tri_seq ?_
    refine tri_reg M hI hn (outs := ?_) (s' := ?_) ?_ ?_ ?_ ?_
    rotate_left 2
    · rfl
    · kernel_rfl
    · simp
    refine tri_cond (b := ?_) ?_ (fun hc => ?_) (fun hc => ?_)
    rotate_left 1
    · rfl
    · have hne : (getS L).2.2 ≠ 0 := by
        rw [hrow] at hc
        simpa using hc
      have hT : takeS (0 : Int) getS L 0 = ((0 : Int), L, (getS L).2.2) := by
        unfold takeS
        rw [if_neg (by simp), if_pos hne]
      rw [hT]
      refine tri_reg M hI hn (outs := ?_) (s' := ?_) ?_ ?_ ?_ ?_
      rotate_left 2
      · rfl
      · kernel_rfl
      · simp
      refine tri_reg M hI hn (outs := ?_) (s' := ?_) ?_ ?_ ?_ ?_
      rotate_left 2
      · rfl
      · kernel_rfl
      · simp
      refine tri_ret (fun a w hg => ⟨.inr rfl, _, ⟨?_, fun o ho => ?_, fun p hp => by cases hp⟩, hg⟩)
      rotate_left 1
      · obtain rfl := List.mem_singleton.1 ho
        refine ⟨_, rfl, ?_⟩
        rw [hrow]; exact exL_refl rfl
      refine retTo_cold (out := ?_) ?_ ?_ ?_ ?_ ?_
      rotate_left 1
      · rfl
      · simp
      · rfl
      · rfl
      rfl
    · have heq : (getS L).2.2 = 0 := by
        rw [hrow] at hc
        simpa using hc
      have hle2 : (getS L).2.1 ≤ L.length := hle.resolve_right (fun h => h heq)
      have hT : takeS (0 : Int) getS L 0 = ((getS L).1, L.drop (getS L).2.1, 0) := by
        unfold takeS
        rw [if_neg (by simp), if_neg (fun h => h heq)]
      rw [hT]
      refine tri_skip ?_
      change Tri _ _ _ _ _
      refine tri_reg M hI hn (outs := ?_) (s' := ?_) ?_ ?_ ?_ ?_
      rotate_left 2
      · rfl
      · kernel_rfl
      · simp
        omega
      refine tri_reg M hI hn (outs := ?_) (s' := ?_) ?_ ?_ ?_ ?_
      rotate_left 2
      · rfl
      · kernel_rfl
      · simp
      refine tri_ret (fun a w hg => ⟨.inr rfl, _, ⟨?_, fun o ho => ?_, fun p hp => by cases hp⟩, hg⟩)
      rotate_left 1
      · obtain rfl := List.mem_singleton.1 ho
        refine ⟨_, rfl, ?_⟩
        rw [hrow]; exact dec_end hle2
      refine retTo_cold (out := ?_) ?_ ?_ ?_ ?_ ?_
      rotate_left 1
      · rfl
      · simp
      · rfl
      · rfl
      rw [hrow]
      try rfl
set_option maxRecDepth 100000 in
set_option maxHeartbeats 1000000 in
theorem takeBoxes_x (L : List UInt8) (e : Int) (hL : shortL L) : FunX Tryd.prog ShaMem 64 false [⟨px, 103, decPL L e, decPL (takeS (0 : Int) boxesS L e).2.1 (takeS (0 : Int) boxesS L e).2.2⟩] (fun _ => none) none (fun _ => False) [pv1 (.pt px 0 0), pv1 (.fn (.func 66) [.any] [])] (pvI (takeS (0 : Int) boxesS L e).1) := by
  have M := dc5M
  have hle : (boxesS L).2.1 ≤ L.length ∨ (boxesS L).2.2 ≠ 0 := .inl (getS_le L).1
  have hL' : L.length < 4611686018427387904 := hL
  refine funX_of Tryd.func64 rfl rfl (by rfl) (fun A hn hI => ?_)
  refine tri_reg M hI hn (outs := ?_) (s' := ?_) ?_ ?_ ?_ ?_
  rotate_left 2
  · rfl
  · kernel_rfl
  · simp
  refine tri_reg M hI hn (outs := ?_) (s' := ?_) ?_ ?_ ?_ ?_
  rotate_left 2
  · rfl
  · kernel_rfl
  · simp
  refine tri_seq ?_
  refine tri_reg M hI hn (outs := ?_) (s' := ?_) ?_ ?_ ?_ ?_
  rotate_left 2
  · rfl
  · kernel_rfl
  · simp
  refine tri_cond (b := ?_) ?_ (fun hc => ?_) (fun hc => ?_)
  rotate_left 1
  · rfl
  · have he : e ≠ 0 := by simpa using hc
    have hT : takeS (0 : Int) boxesS L e = ((0 : Int), L, e) := if_pos he
    rw [hT]
    refine tri_reg M hI hn (outs := ?_) (s' := ?_) ?_ ?_ ?_ ?_
    rotate_left 2
    · rfl
    · kernel_rfl
    · simp
    refine tri_ret (fun a w hg => ⟨.inr rfl, _, ⟨?_, fun o ho => ?_, fun p hp => by cases hp⟩, hg⟩)
    rotate_left 1
    · obtain rfl := List.mem_singleton.1 ho
      refine ⟨_, rfl, ?_⟩
      exact exL_refl rfl
    refine retTo_cold (out := ?_) ?_ ?_ ?_ ?_ ?_
    rotate_left 1
    · rfl
    · simp
    · rfl
    · rfl
    rfl
  · have he : e = 0 := by simpa using hc
    subst he
    refine tri_skip ?_
    change Tri _ _ _ _ _
    refine tri_reg M hI hn (outs := ?_) (s' := ?_) ?_ ?_ ?_ ?_
    rotate_left 2
    · rfl
    · kernel_rfl
    · simp [hL]
    have hrow := rowB_byF L
    refine tri_seq ?_
    refine tri_reg M hI hn (outs := ?_) (s' := ?_) ?_ ?_ ?_ ?_
    rotate_left 2
    · rfl
    · kernel_rfl
    · simp
    refine tri_cond (b := ?_) ?_ (fun hc => ?_) (fun hc => ?_)
    rotate_left 1
    · rfl
    · have hne : (boxesS L).2.2 ≠ 0 := by
        rw [hrow] at hc
        simpa using hc
      have hT : takeS (0 : Int) boxesS L 0 = ((0 : Int), L, (boxesS L).2.2) := by
        unfold takeS
        rw [if_neg (by simp), if_pos hne]
      rw [hT]
      refine tri_reg M hI hn (outs := ?_) (s' := ?_) ?_ ?_ ?_ ?_
      rotate_left 2
      · rfl
      · kernel_rfl
      · simp
      refine tri_reg M hI hn (outs := ?_) (s' := ?_) ?_ ?_ ?_ ?_
      rotate_left 2
      · rfl
      · kernel_rfl
      · simp
      refine tri_ret (fun a w hg => ⟨.inr rfl, _, ⟨?_, fun o ho => ?_, fun p hp => by cases hp⟩, hg⟩)
      rotate_left 1
      · obtain rfl := List.mem_singleton.1 ho
        refine ⟨_, rfl, ?_⟩
        rw [hrow]; exact exL_refl rfl
      refine retTo_cold (out := ?_) ?_ ?_ ?_ ?_ ?_
      rotate_left 1
      · rfl
      · simp
      · rfl
      · rfl
      rfl
    · have heq : (boxesS L).2.2 = 0 := by
        rw [hrow] at hc
        simpa using hc
      have hle2 : (boxesS L).2.1 ≤ L.length := hle.resolve_right (fun h => h heq)
      have hT : takeS (0 : Int) boxesS L 0 = ((boxesS L).1, L.drop (boxesS L).2.1, 0) := by
        unfold takeS
        rw [if_neg (by simp), if_neg (fun h => h heq)]
      rw [hT]
      refine tri_skip ?_
      change Tri _ _ _ _ _
      refine tri_reg M hI hn (outs := ?_) (s' := ?_) ?_ ?_ ?_ ?_
      rotate_left 2
      · rfl
      · kernel_rfl
      · simp
        omega
      refine tri_reg M hI hn (outs := ?_) (s' := ?_) ?_ ?_ ?_ ?_
      rotate_left 2
      · rfl
      · kernel_rfl
      · simp
      refine tri_ret (fun a w hg => ⟨.inr rfl, _, ⟨?_, fun o ho => ?_, fun p hp => by cases hp⟩, hg⟩)
      rotate_left 1
      · obtain rfl := List.mem_singleton.1 ho
        refine ⟨_, rfl, ?_⟩
        rw [hrow]; exact dec_end hle2
      refine retTo_cold (out := ?_) ?_ ?_ ?_ ?_ ?_
      rotate_left 1
      · rfl
      · simp
      · rfl
      · rfl
      rw [hrow]
      try rfl
set_option maxRecDepth 100000 in
set_option maxHeartbeats 1000000 in
theorem takeStr_x (L : List UInt8) (e : Int) (hL : shortL L) : FunX Tryd.prog ShaMem 62 false [⟨px, 103, decPL L e, decPL (takeS ([] : List UInt8) getBS L e).2.1 (takeS ([] : List UInt8) getBS L e).2.2⟩] (fun _ => none) none (fun _ => False) [pv1 (.pt px 0 0), lit1 (.func (.func 63) #[] #[])] (strPV (takeS ([] : List UInt8) getBS L e).1) := by
  have M := dc5M
  have hle : (getBS L).2.1 ≤ L.length ∨ (getBS L).2.2 ≠ 0 := .inl (getBS_le L)
  have hL' : L.length < 4611686018427387904 := hL
  refine funX_of Tryd.func62 rfl rfl (by rfl) (fun A hn hI => ?_)
  refine tri_reg M hI hn (outs := ?_) (s' := ?_) ?_ ?_ ?_ ?_
  rotate_left 2
  · rfl
  · kernel_rfl
  · simp
  refine tri_reg M hI hn (outs := ?_) (s' := ?_) ?_ ?_ ?_ ?_
  rotate_left 2
  · rfl
  · kernel_rfl
  · simp
  refine tri_seq ?_
  refine tri_reg M hI hn (outs := ?_) (s' := ?_) ?_ ?_ ?_ ?_
  rotate_left 2
  · rfl
  · kernel_rfl
  · simp
  refine tri_cond (b := ?_) ?_ (fun hc => ?_) (fun hc => ?_)
  rotate_left 1
  · rfl
  · have he : e ≠ 0 := by simpa using hc
    have hT : takeS ([] : List UInt8) getBS L e = (([] : List UInt8), L, e) := if_pos he
    rw [hT]
    refine tri_reg M hI hn (outs := ?_) (s' := ?_) ?_ ?_ ?_ ?_
    rotate_left 2
    · rfl
    · kernel_rfl
    · simp
    refine tri_ret (fun a w hg => ⟨.inr rfl, _, ⟨?_, fun o ho => ?_, fun p hp => by cases hp⟩, hg⟩)
    rotate_left 1
    · obtain rfl := List.mem_singleton.1 ho
      refine ⟨_, rfl, ?_⟩
      exact exL_refl rfl
    refine retTo_cold (out := ?_) ?_ ?_ ?_ ?_ ?_
    rotate_left 1
    · rfl
    · simp
    · rfl
    · rfl
    rfl
  · have he : e = 0 := by simpa using hc
    subst he
    refine tri_skip ?_
    change Tri _ _ _ _ _
    refine tri_reg M hI hn (outs := ?_) (s' := ?_) ?_ ?_ ?_ ?_
    rotate_left 2
    · rfl
    · kernel_rfl
    · simp [hL]
    have hrow := rowB_byF L
    refine tri_seq ?_
    refine tri_reg M hI hn (outs := ?_) (s' := ?_) ?_ ?_ ?_ ?_
    rotate_left 2
    · rfl
    · kernel_rfl
    · simp
    refine tri_cond (b := ?_) ?_ (fun hc => ?_) (fun hc => ?_)
    rotate_left 1
    · rfl
    · have hne : (getBS L).2.2 ≠ 0 := by
        rw [hrow] at hc
        simpa using hc
      have hT : takeS ([] : List UInt8) getBS L 0 = (([] : List UInt8), L, (getBS L).2.2) := by
        unfold takeS
        rw [if_neg (by simp), if_pos hne]
      rw [hT]
      refine tri_reg M hI hn (outs := ?_) (s' := ?_) ?_ ?_ ?_ ?_
      rotate_left 2
      · rfl
      · kernel_rfl
      · simp
      refine tri_reg M hI hn (outs := ?_) (s' := ?_) ?_ ?_ ?_ ?_
      rotate_left 2
      · rfl
      · kernel_rfl
      · simp
      refine tri_ret (fun a w hg => ⟨.inr rfl, _, ⟨?_, fun o ho => ?_, fun p hp => by cases hp⟩, hg⟩)
      rotate_left 1
      · obtain rfl := List.mem_singleton.1 ho
        refine ⟨_, rfl, ?_⟩
        rw [hrow]; exact exL_refl rfl
      refine retTo_cold (out := ?_) ?_ ?_ ?_ ?_ ?_
      rotate_left 1
      · rfl
      · simp
      · rfl
      · rfl
      rfl
    · have heq : (getBS L).2.2 = 0 := by
        rw [hrow] at hc
        simpa using hc
      have hle2 : (getBS L).2.1 ≤ L.length := hle.resolve_right (fun h => h heq)
      have hT : takeS ([] : List UInt8) getBS L 0 = ((getBS L).1, L.drop (getBS L).2.1, 0) := by
        unfold takeS
        rw [if_neg (by simp), if_neg (fun h => h heq)]
      rw [hT]
      refine tri_skip ?_
      change Tri _ _ _ _ _
      refine tri_reg M hI hn (outs := ?_) (s' := ?_) ?_ ?_ ?_ ?_
      rotate_left 2
      · rfl
      · kernel_rfl
      · simp
        omega
      refine tri_reg M hI hn (outs := ?_) (s' := ?_) ?_ ?_ ?_ ?_
      rotate_left 2
      · rfl
      · kernel_rfl
      · simp
      refine tri_ret (fun a w hg => ⟨.inr rfl, _, ⟨?_, fun o ho => ?_, fun p hp => by cases hp⟩, hg⟩)
      rotate_left 1
      · obtain rfl := List.mem_singleton.1 ho
        refine ⟨_, rfl, ?_⟩
        rw [hrow]; exact dec_end hle2
      refine retTo_cold (out := ?_) ?_ ?_ ?_ ?_ ?_
      rotate_left 1
      · rfl
      · simp
      · rfl
      · rfl
      rw [hrow]
      try rfl
theorem tagG_le (L : List UInt8) : (tagG L).2.1 ≤ L.length := by unfold tagG; split <;> simp; omega
set_option maxRecDepth 100000 in
set_option maxHeartbeats 1000000 in
theorem takeTag_x (L : List UInt8) (e : Int) (hL : shortL L) : FunX Tryd.prog ShaMem 67 false [⟨px, 103, decPL L e, decPL (takeS (List.replicate 16 0 : List UInt8) tagG L e).2.1 (takeS (List.replicate 16 0 : List UInt8) tagG L e).2.2⟩] (fun _ => none) none (fun _ => False) [pv1 (.pt px 0 0), pv1 (.fn (.func 68) [.any] [])] (digPV (takeS (List.replicate 16 0 : List UInt8) tagG L e).1) := by
  have M := dc5M
  have hle : (tagG L).2.1 ≤ L.length ∨ (tagG L).2.2 ≠ 0 := .inl (tagG_le L)
  have hL' : L.length < 4611686018427387904 := hL
  refine funX_of Tryd.func67 rfl rfl (by rfl) (fun A hn hI => ?_)
  refine tri_reg M hI hn (outs := ?_) (s' := ?_) ?_ ?_ ?_ ?_
  rotate_left 2
  · rfl
  · kernel_rfl
  · simp
  refine tri_reg M hI hn (outs := ?_) (s' := ?_) ?_ ?_ ?_ ?_
  rotate_left 2
  · rfl
  · kernel_rfl
  · simp
  refine tri_seq ?_
  refine tri_reg M hI hn (outs := ?_) (s' := ?_) ?_ ?_ ?_ ?_
  rotate_left 2
  · rfl
  · kernel_rfl
  · simp
  refine tri_cond (b := ?_) ?_ (fun hc => ?_) (fun hc => ?_)
  rotate_left 1
  · rfl
  · have he : e ≠ 0 := by simpa using hc
    have hT : takeS (List.replicate 16 0 : List UInt8) tagG L e = ((List.replicate 16 0 : List UInt8), L, e) := if_pos he
    rw [hT]
    refine tri_reg M hI hn (outs := ?_) (s' := ?_) ?_ ?_ ?_ ?_
    rotate_left 2
    · rfl
    · kernel_rfl
    · simp
    refine tri_ret (fun a w hg => ⟨.inr rfl, _, ⟨?_, fun o ho => ?_, fun p hp => by cases hp⟩, hg⟩)
    rotate_left 1
    · obtain rfl := List.mem_singleton.1 ho
      refine ⟨_, rfl, ?_⟩
      exact exL_refl rfl
    refine retTo_cold (out := ?_) ?_ ?_ ?_ ?_ ?_
    rotate_left 1
    · rfl
    · simp
    · rfl
    · rfl
    rfl
  · have he : e = 0 := by simpa using hc
    subst he
    refine tri_skip ?_
    change Tri _ _ _ _ _
    refine tri_reg M hI hn (outs := ?_) (s' := ?_) ?_ ?_ ?_ ?_
    rotate_left 2
    · rfl
    · kernel_rfl
    · simp [hL]
    have hrow := rowB_byF L
    refine tri_seq ?_
    refine tri_reg M hI hn (outs := ?_) (s' := ?_) ?_ ?_ ?_ ?_
    rotate_left 2
    · rfl
    · kernel_rfl
    · simp
    refine tri_cond (b := ?_) ?_ (fun hc => ?_) (fun hc => ?_)
    rotate_left 1
    · rfl
    · have hne : (tagG L).2.2 ≠ 0 := by
        rw [hrow] at hc
        simpa using hc
      have hT : takeS (List.replicate 16 0 : List UInt8) tagG L 0 = ((List.replicate 16 0 : List UInt8), L, (tagG L).2.2) := by
        unfold takeS
        rw [if_neg (by simp), if_pos hne]
      rw [hT]
      refine tri_reg M hI hn (outs := ?_) (s' := ?_) ?_ ?_ ?_ ?_
      rotate_left 2
      · rfl
      · kernel_rfl
      · simp
      refine tri_reg M hI hn (outs := ?_) (s' := ?_) ?_ ?_ ?_ ?_
      rotate_left 2
      · rfl
      · kernel_rfl
      · simp
      refine tri_ret (fun a w hg => ⟨.inr rfl, _, ⟨?_, fun o ho => ?_, fun p hp => by cases hp⟩, hg⟩)
      rotate_left 1
      · obtain rfl := List.mem_singleton.1 ho
        refine ⟨_, rfl, ?_⟩
        rw [hrow]; exact exL_refl rfl
      refine retTo_cold (out := ?_) ?_ ?_ ?_ ?_ ?_
      rotate_left 1
      · rfl
      · simp
      · rfl
      · rfl
      rfl
    · have heq : (tagG L).2.2 = 0 := by
        rw [hrow] at hc
        simpa using hc
      have hle2 : (tagG L).2.1 ≤ L.length := hle.resolve_right (fun h => h heq)
      have hT : takeS (List.replicate 16 0 : List UInt8) tagG L 0 = ((tagG L).1, L.drop (tagG L).2.1, 0) := by
        unfold takeS
        rw [if_neg (by simp), if_neg (fun h => h heq)]
      rw [hT]
      refine tri_skip ?_
      change Tri _ _ _ _ _
      refine tri_reg M hI hn (outs := ?_) (s' := ?_) ?_ ?_ ?_ ?_
      rotate_left 2
      · rfl
      · kernel_rfl
      · simp
        omega
      refine tri_reg M hI hn (outs := ?_) (s' := ?_) ?_ ?_ ?_ ?_
      rotate_left 2
      · rfl
      · kernel_rfl
      · simp
      refine tri_ret (fun a w hg => ⟨.inr rfl, _, ⟨?_, fun o ho => ?_, fun p hp => by cases hp⟩, hg⟩)
      rotate_left 1
      · obtain rfl := List.mem_singleton.1 ho
        refine ⟨_, rfl, ?_⟩
        rw [hrow]; exact dec_end hle2
      refine retTo_cold (out := ?_) ?_ ?_ ?_ ?_ ?_
      rotate_left 1
      · rfl
      · simp
      · rfl
      · rfl
      rw [hrow]
      try rfl

end Go.Proofs.YtgndblhpfjkfhaaDoor.Pv

/-
  Package seal by the abstract machine: sealed secrets; encoding.
-/
namespace Go.Proofs.YtgndblhpfjkfhaaDoor.Pv
open Go.RowKit

structure SealS where
  pol : ByteArray
  epo : Int
  boxes : List BoxS
  deriving Inhabited
def sealL (s : SealS) : List PC := [.lit (.string s.pol), .lit (.int .i64 s.epo), .sl 18 s.boxes.length (boxF s.boxes)]
def sealPV (s : SealS) : PV := .w (.agg (sealL s))
def encB (b : BoxS) : List UInt8 := wInt b.nonce ++ wBytes b.cipher.data.toList ++ b.tag
def encP (s : SealS) (k : Nat) : List UInt8 := wBytes s.pol.data.toList ++ wInt s.epo ++ wInt s.boxes.length ++ (s.boxes.take k).flatMap encB
def encS (s : SealS) : List UInt8 := encP s s.boxes.length
structure BoxOk (b : BoxS) : Prop where
  nonce : i64P b.nonce
  cipher : b.cipher.size ≤ 10000
  tag : b.tag.length = 16
structure SealOk (s : SealS) : Prop where
  pol : s.pol.size ≤ 10000
  epo : i64P s.epo
  len : s.boxes.length ≤ 1000
  box : ∀ b ∈ s.boxes, BoxOk b
def asSeal : PV → Option (Prop × SealS)
  | .w (.agg [.lit (.string p), .lit (.int .i64 e), .sl 18 n f]) => some (IsBoxRow n f, ⟨p, e, rowBox n f⟩)
  | .w (.agg [.lit (.string p), .lit (.int .i64 e), .lit (.slice none 0 0)]) => some (True, ⟨p, e, []⟩)
  | _ => none
theorem asSeal_ok {C : Ctx} {v : PV} {p : Prop} {m : SealS} {x : Value} (h : asSeal v = some (p, m)) (hp : p) (hv : RV C v x) : RV C (sealPV m) x := by
  unfold asSeal at h
  split at h
  · rename_i n f
    cases h
    cases hv with
    | w hv => cases hv with
      | agg hv =>
        generalize hq : Array.toList _ = q at hv
        cases hv with
        | cons h1 hv => cases hv with
          | cons h2 hv => cases hv with
            | cons h3 hv =>
              refine .w (.agg ?_)
              rw [hq]
              refine .cons h1 (.cons h2 (.cons ?_ hv))
              simp only [rowBox_length]
              exact h3.sl_ext (boxF_row hp)
  · cases h
    cases hv with
    | w hv => cases hv with
      | agg hv =>
        generalize hq : Array.toList _ = q at hv
        cases hv with
        | cons h1 hv => cases hv with
          | cons h2 hv => cases hv with
            | cons h3 hv =>
              refine .w (.agg ?_)
              rw [hq]
              refine .cons h1 (.cons h2 (.cons ?_ hv))
              cases h3
              exact .sl (Reads.nil _ _) (fun g hg => by simp [Value.ownBlock] at hg) (fun i hi => by simp at hi)
  · cases h
theorem byF_app (X Y : List UInt8) : appF X.length (byF X) (byF Y) = byF (X ++ Y) := by
  funext i
  unfold appF byF
  by_cases h : i < X.length
  · rw [if_pos h, List.getD_eq_getElem?_getD, List.getD_eq_getElem?_getD, List.getElem?_append_left h]
  · rw [if_neg h, List.getD_eq_getElem?_getD, List.getD_eq_getElem?_getD, List.getElem?_append_right (by omega)]
theorem byF_zero (X : List UInt8) : (fun i => byF X (0 + i)) = byF X := by funext i; rw [Nat.zero_add]
theorem cold_app {n : Nat} {f g : Nat → List PC} (h1 : ∀ i, (f i).all (coldPC false) = true) (h2 : ∀ i, (g i).all (coldPC false) = true) : ∀ i, (appF n f g i).all (coldPC false) = true := fun i => by
  unfold appF
  split
  · exact h1 i
  · exact h2 _
theorem encP_succ (s : SealS) {k : Nat} (h : k < s.boxes.length) : encP s (k + 1) = encP s k ++ (wInt (s.boxes.getD k default).nonce ++ wBytes (s.boxes.getD k default).cipher.data.toList ++ (s.boxes.getD k default).tag) := by
  unfold encP
  rw [List.take_add_one, List.getElem?_eq_getElem h, List.flatMap_append, List.getD_eq_getElem?_getD, List.getElem?_eq_getElem h]
  simp [encB]
theorem encB_len {b : BoxS} (h : BoxOk b) : (encB b).length ≤ 10036 := by
  have h1 := wInt_length b.nonce
  have h2 := wBytes_length b.cipher.data.toList
  have h3 : b.cipher.data.toList.length = b.cipher.size := Array.length_toList
  have h4 := h.cipher
  have h5 := h.tag
  unfold encB
  simp only [List.length_append]
  omega
theorem encP_len {s : SealS} (h : SealOk s) (k : Nat) (hk : k ≤ s.boxes.length) : (encP s k).length ≤ 20030 + 10036 * k := by
  induction k with
  | zero =>
    have h1 := wInt_length s.epo
    have h2 := wBytes_length s.pol.data.toList
    have h3 : s.pol.data.toList.length = s.pol.size := Array.length_toList
    have h4 := h.pol
    have h5 := wInt_length (s.boxes.length : Int)
    unfold encP
    simp only [List.length_append, List.take_zero, List.flatMap_nil, List.length_nil]
    omega
  | succ k ih =>
    have h1 := ih (by omega)
    have h2 := encB_len (h.box _ (getD_mem (show k < s.boxes.length by omega) default))
    rw [encP_succ s (by omega), List.length_append]
    unfold encB at h2
    omega
def enSt (s : SealS) (k : Nat) : St := ⟨[(1, none, pv1 (.pt 0 0 0)), (3, none, pv1 (.ow 1002 0 1 0 (encP s k).length)), (20, none, pv1 (.sl 18 s.boxes.length (boxF s.boxes))), (21, none, pvI s.boxes.length), (22, none, pvI k)],
  [(0, none, 0, .box 41 (sealL s)), (1002, none, 0, .arr 5 1 (encP s k).length (byF (encP s k)))]⟩
set_option maxRecDepth 100000 in
set_option maxHeartbeats 1000000 in
theorem encode_fun (s : SealS) (hs : SealOk s) : FunOk Tryd.prog ShaMem 28 true [sealPV s] (lit1 (.string (strOf (encS s)))) := by
  have M := dc5M
  have hb1 : Tryd.prog.types[5].bytes = 1 := by kernel_rfl
  have hs1 : Tryd.prog.types[5].size = 1 := by kernel_rfl
  have e0 : encP s 0 = wBytes s.pol.data.toList ++ wInt s.epo ++ wInt s.boxes.length := by unfold encP; simp
  have hp := hs.pol
  have he := hs.epo
  have hl := hs.len
  have w1 := wInt_length s.epo
  have w2 := wBytes_length s.pol.data.toList
  have w3 : s.pol.data.toList.length = s.pol.size := Array.length_toList
  have w4 := wInt_length (s.boxes.length : Int)
  refine funOk_of Tryd.func28 rfl rfl sha_ext (fun A hS hn hI => ?_)
  refine tri_reg M hI hn (outs := ?_) (s' := ?_) ?_ ?_ ?_ ?_
  rotate_left 2
  · rfl
  · kernel_rfl
  · simp
  refine tri_reg M hI hn (outs := ?_) (s' := ?_) ?_ ?_ ?_ ?_
  rotate_left 2
  · rfl
  · kernel_rfl
  · simp
    rw [hb1]
    exact ⟨by omega, he, by omega⟩
  refine tri_reg M hI hn (outs := ?_) (s' := ?_) ?_ ?_ ?_ ?_
  rotate_left 2
  · rfl
  · kernel_rfl
  · simp
    rw [hb1]
    exact ⟨by unfold i64P; omega, by omega⟩
  refine tri_seq ?_
  refine tri_reg M hI hn (outs := ?_) (s' := ?_) ?_ ?_ ?_ ?_
  rotate_left 2
  · rfl
  · kernel_rfl
  · simp
  refine tri_conv (s' := enSt s 0) (fun a w hg => (hg.reset (kT := [1, 3, 20, 21, 22]) (kO := [0, 1002]) (by rfl) ?_).same ?_ ?_) ?_
  · simp only [All, and_true, List.append_nil, List.nil_append]
    exact fun i _ => cold_app (cold_app (fun _ => rfl) (fun _ => rfl)) (fun _ => rfl) i
  · refine .cons rfl (.cons ?_ (.cons rfl (.cons rfl (.cons rfl .nil))))
    rw [hs1, e0, List.length_append, List.length_append]
  · refine .cons (.box rfl) (.cons (.arr ?_ (fun i hi => ?_)) .nil)
    · rw [e0, List.length_append, List.length_append]
    · rw [byF_zero, byF_zero, byF_app, ← List.length_append, byF_app, e0]
  refine tri_block ?_
  refine tri_loop s.boxes.length (fun k t => t = enSt s k) 0 rfl (by omega) (fun k t hJ hk => ?_)
  subst hJ
  refine tri_reg M hI hn (outs := ?_) (s' := ?_) ?_ ?_ ?_ ?_
  rotate_left 2
  · rfl
  · kernel_rfl
  · simp
  refine tri_seq ?_
  refine tri_cond (b := ?_) ?_ (fun hc => ?_) (fun hc => ?_)
  rotate_left 1
  · rfl
  · have hk2 : k < s.boxes.length := by simpa using hc
    have hbk := hs.box _ (getD_mem hk2 default)
    have hlen := encP_len hs k hk
    have hes := encP_succ s hk2
    have hesl : (encP s k ++ (wInt (s.boxes.getD k default).nonce ++ wBytes (s.boxes.getD k default).cipher.data.toList ++ (s.boxes.getD k default).tag)).length = (encP s k).length + (wInt (s.boxes.getD k default).nonce).length + (wBytes (s.boxes.getD k default).cipher.data.toList).length + 16 := by
      simp only [List.length_append, hbk.tag]
      omega
    refine tri_skip ?_
    change Tri _ _ _ _ _
    refine tri_seq ?_
    refine tri_block ?_
    have v1 := wInt_length (s.boxes.getD k default).nonce
    have v2 := wBytes_length (s.boxes.getD k default).cipher.data.toList
    have v3 : (s.boxes.getD k default).cipher.data.toList.length = (s.boxes.getD k default).cipher.size := Array.length_toList
    have v4 := hbk.cipher
    have v5 := hbk.nonce
    have v6 := hbk.tag
    simp only [List.getD_eq_getElem?_getD] at v1 v2 v3 v4 v5 v6
    refine tri_reg M hI hn (outs := ?_) (s' := ?_) ?_ ?_ ?_ ?_
    rotate_left 2
    · rfl
    · kernel_rfl
    · simp
      exact hk2
    refine tri_reg M hI hn (outs := ?_) (s' := ?_) ?_ ?_ ?_ ?_
    rotate_left 2
    · rfl
    · kernel_rfl
    · simp
      rw [hb1]
      exact ⟨v5, by omega⟩
    refine tri_reg M hI hn (outs := ?_) (s' := ?_) ?_ ?_ ?_ ?_
    rotate_left 2
    · rfl
    · kernel_rfl
    · simp
      rw [hb1]
      exact ⟨by omega, by omega⟩
    refine tri_region M hI hn (outs := ?_) (s' := ?_) ?_ ?_ ?_ ?_
    rotate_left 2
    · rfl
    · kernel_rfl
    · simp
      rw [hb1]
      omega
    change Tri _ _ _ _ _
    refine tri_region M hI hn (outs := ?_) (s' := ?_) ?_ ?_ ?_ ?_
    rotate_left 2
    · rfl
    · kernel_rfl
    · simp
    intro a w hg
    refine ⟨k + 1, _, by omega, by omega, rfl, (hg.reset (kT := [1, 3, 20, 21, 22]) (kO := [0, 1002]) (by rfl) ?_).same ?_ ?_⟩
    · simp only [All, and_true, List.append_nil, List.nil_append]
      exact fun i _ => cold_app (cold_app (cold_app (fun _ => rfl) (fun _ => rfl)) (fun _ => rfl)) (fun _ => rfl) i
    · refine .cons rfl (.cons ?_ (.cons rfl (.cons rfl (.cons (by rw [wrap_nat k (by omega)]) .nil))))
      rw [hs1, Int.toNat_natCast, hes, hesl]
    · refine .cons (.box rfl) (.cons (.arr ?_ (fun i hi => ?_)) .nil)
      · rw [Int.toNat_natCast, hes, hesl]
      · rw [Int.toNat_natCast, byF_zero, byF_zero, byF_app, ← List.length_append, byF_app, ← List.length_append, hes, ← List.append_assoc, ← List.append_assoc]
        exact congrFun (byF_app _ _) i
  · have hkk : k = s.boxes.length := by
      have : ¬ k < s.boxes.length := by simpa using hc
      omega
    refine tri_exit ?_   -- exit 0
    change Tri _ _ _ _ _
    refine tri_reg M hI hn (outs := ?_) (s' := ?_) ?_ ?_ ?_ ?_
    rotate_left 2
    · rfl
    · kernel_rfl
    · simp
    refine tri_ret (fun a w hg => ⟨.inr rfl, _, ?_, hg⟩)
    refine retTo_cold (out := ?_) ?_ ?_ ?_ ?_ ?_
    rotate_left 1
    · rfl
    · simp
    · rfl
    · rfl
    rw [rowB_byF, hkk]
    rfl

end Go.Proofs.YtgndblhpfjkfhaaDoor.Pv
