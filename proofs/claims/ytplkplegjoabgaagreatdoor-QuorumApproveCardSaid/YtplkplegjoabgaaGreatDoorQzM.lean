/-
  Several texts in one file: each has its own heading below.
-/
import Derived.Test.YtplkplegjoabgaaGreatDoorQzD
import Derived.Test.YtplkplegjoabgaaGreatDoorQzL
import Derived.Test.YtplkplegjoabgaaGreatDoorQzE
import Derived.WalkMore

/-
  The abstract machine: functions that hand out a row of their own, into which the caller may write. Plain: no function of the program is named here.
-/
namespace Go.Proofs.YtplkplegjoabgaaGreatDoor.Pv
open Go.RowKit

theorem flat_rl {C C' : Ctx} : ∀ {l : List PC} {xs : List Value}, RL C l xs → l.all (coldPC true) = true → RL C' l xs
  | [], _, h, _ => by cases h; exact .nil
  | c :: l, xs, h, hc => by
    rw [List.all_cons, Bool.and_eq_true] at hc
    cases h with
    | cons h3 h4 =>
      refine .cons ?_ (flat_rl h4 hc.2)
      have hc1 := hc.1
      cases h3 <;> first | exact .lit (by assumption) | exact .bs (by assumption) | (cases hc1; done)
/-- A function's contract: it returns a row of its own, of flat cells. -/
def FunRow (P : Program) (I : World → Prop) (f : Nat) (args : List PV) (e n len : Nat) (f' : Nat → List PC) : Prop :=
  ∀ (w : World) (ok0 : Nat → Prop) (vs : List Value), I w → Vals { w, ok := ok0, env := fun _ => none } args vs →
    Calls P f vs.toArray w fun r w' => ∃ val xs, r = .returned val ∧ Ext w w' ∧ w'.ownsRow w.heap.size e n val len xs ∧ ∀ (C : Ctx) i, i < len → RL C (f' i) ((xs.drop (i * n)).take n)
def RowTo (P : Program) (fn : Func) (e n len : Nat) (f' : Nat → List PC) (s : St) : Prop :=
  ∃ x ver g f, (retM P fn.results).ok none s (fun _ v' wr => v' = pv1 (.ow x ver n 0 len) ∧ wr = []) ∧ find s.o x = some (g, ver, .arr e n len f) ∧ gT g ∧ ∀ i, i < len → f i = f' i ∧ (f' i).all (coldPC true) = true
def RQR (P : Program) (A : Amb) (fn : Func) (e n len : Nat) (f' : Nat → List PC) : Exit → Act → World → Prop
  | .panic chain, a, w => a.defers = [] ∧ PanG A chain w
  | x, a, w => (x = .normal ∨ x = .ret) ∧ ∃ s, RowTo P fn e n len f' s ∧ Gam A s a w
theorem rowTo_of {P : Program} {fn : Func} {e n len x ver : Nat} {g : Option Bool} {f f' : Nat → List PC} {s : St} {out : Out} (h : (retM P fn.results).exec none s [] [] [] [] = some out) (hc : All out.conds) (hw : out.wr = []) (hx : out.val = pv1 (.ow x ver n 0 len)) (hf : find s.o x = some (g, ver, .arr e n len f)) (hg : gT g) (hff : ∀ i, i < len → f i = f' i ∧ (f' i).all (coldPC true) = true) : RowTo P fn e n len f' s := by
  rw [exec_nil] at h
  exact ⟨x, ver, g, f, M.ok_of_run _ none s out _ h (fun p hp => hc.mem p hp) ⟨hx, hw⟩, hf, hg, hff⟩
theorem funRow_of {P : Program} {I : World → Prop} {f : Nat} {fn : Func} {c : Code} {args : List PV} {e n len : Nat} {f' : Nat → List PC} (hf : P.funcs[f]? = some fn) (hb : fn.body = some c) (hnb : Nat.ble args.length fn.ntmps = true) (hI : ∀ w w', Ext w w' → I w → I w')
    (hT : ∀ A : Amb, A.S = Non → A.nt = fn.ntmps → AmbOk P I A → Tri P A ⟨slots 0 args, []⟩ c (RQR P A fn e n len f')) (hmk : Nat.blt e mkT = true := by rfl) : FunRow P I f args e n len f' := by
  intro w ok0 vs hIw hv
  have hn := Nat.le_of_ble_eq_true hnb
  have hlen := hv.length
  have hg : Gam (Amb.plain w ok0 fn.ntmps) ⟨slots 0 args, []⟩ { tmps := vs.toArray ++ Array.replicate (fn.ntmps - vs.toArray.size) undef, defers := [] } w := by
    refine ⟨fun _ => none, { chg := Chg.refl _ _, size := ?_, dom := fun x _ => rfl, objs := fun x g ver o h => (by cases h), live := fun x ver hd b h => (by cases h), inj := fun x y v1 h1 v2 h2 b h => (by cases h), tmps := fun t g pv h hgt => ?_, defers := rfl, und := fun t pv h => (by obtain ⟨k, _, h2⟩ := find_slotsG h; cases h2), exts := fun x hd h => (by cases h), dev := fun g ver O stp l h => (by cases h) }⟩
    · simp [Amb.plain]; omega
    · obtain ⟨k, h1, h2⟩ := find_slots h
      obtain ⟨v, h3, h4⟩ := hv.at h2
      rw [Nat.zero_add] at h1
      subst h1
      have hk : t < vs.length := (List.getElem?_eq_some_iff.1 h3).1
      refine ⟨v, ?_, ?_⟩
      · rw [Array.getElem?_append_left (by simpa using hk)]
        simpa using h3
      · refine h4.le ⟨Nat.le_refl _, fun b _ hb => ⟨⟨.inl hb, fun _ _ _ h => by cases h⟩, rfl⟩, fun _ _ _ h => by cases h⟩
  refine calls_of_wp hf hb (wp_mono (hT (Amb.plain w ok0 fn.ntmps) rfl rfl (AmbOk.plain fun w' hc => hI w w' hc hIw) _ w hg (fun _ _ _ hd h => ⟨hd, h⟩)) (fun x a' w' he => ?_))
  have he' : (x = .normal ∨ x = .ret) ∧ ∃ s, RowTo P fn e n len f' s ∧ Gam (Amb.plain w ok0 fn.ntmps) s a' w' := by
    cases x with
    | panic chain => obtain ⟨_, l, hl, _⟩ := he; exact hl.elim
    | _ => exact he
  obtain ⟨h1, s, ⟨x0, ver, g, f0, h2, hfo, hgt, hff⟩, h4⟩ := he'
  obtain ⟨env, hE⟩ := h4
  obtain ⟨v', val, h5, h6, h7, _⟩ := retM_ok hE h2
  subst h7
  obtain ⟨hd, hev, hob⟩ := obj_at hE hfo hgt
  obtain ⟨A0, n0, c0, rfl, hle0, rfl⟩ := h6.ow_inv hev
  obtain ⟨xs, hown, hel⟩ := hob
  have hn0 : n0 = len := by
    obtain ⟨_, A1, c1, e1, _⟩ := Reads.of_ownX hown
    cases e1; rfl
  have hown := hown.plain hmk
  subst hn0
  have hA : A0.map (fun p => p.add (0 * n)) = A0 := by
    cases A0 with
    | none => rfl
    | some ad => simp [Addr.add]
  have hown2 : w'.ownsRow w.heap.size e n (.slice A0 n0 c0) n0 xs := ⟨hown.1, hown.2.imp id (fun ⟨g, cap, cur, h1, _, h3⟩ => ⟨g, cap, cur, h1, by
    have := (hE.live x0 ver _ g hev (by rw [h1]; rfl)).2
    exact this.resolve_right (fun h => h), h3⟩)⟩
  have this : a'.defers = [] ∧ ∃ v, (results fn a'.tmps).run P w' = .ok v w' ∧ ∃ val xs, Ending.returned v = .returned val ∧ Ext w w' ∧ w'.ownsRow w.heap.size e n val n0 xs ∧ ∀ (C : Ctx) i, i < n0 → RL C (f' i) ((xs.drop (i * n)).take n) := by
    refine ⟨hE.defers, _, h5, _, xs, rfl, hE.chg, ?_, fun C i hi => ?_⟩
    · first | exact hown2 | (simp only [Nat.zero_mul, Nat.sub_zero] at hA ⊢; rw [hA]; exact hown2)
    · have h8 := hel i hi
      rw [(hff i hi).1] at h8
      exact flat_rl h8 (hff i hi).2
  rcases h1 with rfl | rfl <;> exact this
/-- The specification of such a function. -/
def rowSpec (g : List PV → Option (Prop × Nat × Nat × Nat × (Nat → List PC))) : Spec := fun nm xs => expVs xs fun ys => match g ys with
  | some (p, e, n, len, f) => .need p (.new nm (.arr e n len f) fun v => .ret (pv1 (.ow nm v n 0 len)))
  | none => .fail
theorem rowSpec_ok {P : Program} {I : World → Prop} {f : Nat} {g : List PV → Option (Prop × Nat × Nat × Nat × (Nat → List PC))} (hent : ∀ args w, (callFunc f args).run P w = .ok (.enter f args) w) (hg : ∀ xs p e n len f', g xs = some (p, e, n, len, f') → p → FunRow P I f xs e n len f') : SpecOk P I f (rowSpec g) := by
  refine ⟨hent, fun A s a w env nm pvs vs F h hI hv hk => ?_⟩
  unfold rowSpec at hk
  obtain ⟨ys, h1, hk⟩ := expVs_ok h hv hk
  cases hq : g ys with
  | none => rw [hq] at hk; exact hk.elim
  | some q =>
    obtain ⟨p, e, n, len, f'⟩ := q
    rw [hq] at hk
    obtain ⟨hp, hk⟩ := hk
    refine (hg ys p e n len f' hq hp w (fun _ => True) vs (hI.mem w h.chg) h1).mono ?_
    rintro r w' ⟨val, xs, rfl, hE, ho, hr⟩
    obtain ⟨env', h3, h4⟩ := h.new_own nm e n len (f := f') hE ho hr
    exact .inl ⟨_, _, _, env', rfl, hk, h3, h4⟩

@[simp] theorem polB_true (b : Bool) : polB true b = b := rfl
@[simp] theorem polB_false (b : Bool) : polB false b = !b := rfl
@[simp] theorem all_nil_ : All [] = True := rfl
@[simp] theorem all_cons_ (p : Prop) (l : List Prop) : All (p :: l) = (p ∧ All l) := rfl
@[simp] theorem hP_none (p : Prop) : hP none p = p := rfl
@[simp] theorem hP_some (b : Bool) (p : Prop) : hP (some b) p = (b = true → p) := rfl

end Go.Proofs.YtplkplegjoabgaaGreatDoor.Pv

/-
  Package quorum by the abstract machine: encodings of manifests and keysets.
-/
namespace Go.Proofs.YtplkplegjoabgaaGreatDoor.Pv
open Go.RowKit

theorem byF_app (X Y : List UInt8) : appF X.length (byF X) (byF Y) = byF (X ++ Y) := by
  funext i
  unfold appF byF
  by_cases h : i < X.length
  · rw [if_pos h, List.getD_eq_getElem?_getD, List.getD_eq_getElem?_getD, List.getElem?_append_left h]
  · rw [if_neg h, List.getD_eq_getElem?_getD, List.getD_eq_getElem?_getD, List.getElem?_append_right (by omega)]
theorem byF_zero (X : List UInt8) : (fun i => byF X (0 + i)) = byF X := by funext i; rw [Nat.zero_add]
theorem cold_app {n : Nat} {f g : Nat → List PC} (h1 : ∀ i, (f i).all (coldPC false) = true) (h2 : ∀ i, (g i).all (coldPC false) = true) : ∀ i, (appF n f g i).all (coldPC false) = true := fun i => by
  unfold appF
  split
  · exact h1 i
  · exact h2 _
def intsP (l : List Int) (k : Nat) : List UInt8 := (l.take k).flatMap wInt
def encInts (l : List Int) : List UInt8 := intsP l l.length
def dgsP (l : List (List UInt8)) (k : Nat) : List UInt8 := wInt l.length ++ (l.take k).flatMap id
def encDigs (l : List (List UInt8)) : List UInt8 := dgsP l l.length
theorem intsP_succ (l : List Int) {k : Nat} (h : k < l.length) : intsP l (k + 1) = intsP l k ++ wInt (l.getD k 0) := by
  unfold intsP
  rw [List.take_add_one, List.getElem?_eq_getElem h, List.flatMap_append, List.getD_eq_getElem?_getD, List.getElem?_eq_getElem h]
  simp
theorem intsP_len (l : List Int) (k : Nat) (hk : k ≤ l.length) : (intsP l k).length ≤ 10 * k := by
  induction k with
  | zero => simp [intsP]
  | succ k ih =>
    have := ih (by omega)
    have h1 := wInt_length (l.getD k 0)
    rw [intsP_succ l (by omega), List.length_append]
    omega
theorem dgsP_succ (l : List (List UInt8)) {k : Nat} (h : k < l.length) : dgsP l (k + 1) = dgsP l k ++ l.getD k [] := by
  unfold dgsP
  rw [List.take_add_one, List.getElem?_eq_getElem h, List.flatMap_append, List.getD_eq_getElem?_getD, List.getElem?_eq_getElem h]
  simp
theorem dgsP_len {l : List (List UInt8)} (hd : D16 l) (k : Nat) (hk : k ≤ l.length) : (dgsP l k).length ≤ 10 + 16 * k := by
  induction k with
  | zero =>
    have h1 := wInt_length (l.length : Int)
    simp [dgsP]
    omega
  | succ k ih =>
    have := ih (by omega)
    have h1 := hd _ (getD_mem (show k < l.length by omega) [])
    rw [dgsP_succ l (by omega), List.length_append, h1]
    omega
def intsSt (l : List Int) (k : Nat) : St := ⟨[(3, none, pv1 (.ow 7000 0 1 0 (intsP l k).length)), (6, none, pv1 (.sl 1 l.length (intF l))), (7, none, pvI l.length), (8, none, pvI k)], [(7000, none, 0, .arr 5 1 (intsP l k).length (byF (intsP l k)))]⟩
set_option maxRecDepth 100000 in
theorem ints_fun (l : List Int) (hl : l.length ≤ 100) (hz : ∀ z ∈ l, i64P z) : FunRow Tryz.prog ShaMem 126 [pv1 (.sl 1 l.length (intF l))] 5 1 (encInts l).length (byF (encInts l)) := by
  have M := lowM
  have hb1 : Tryz.prog.types[5].bytes = 1 := by kernel_rfl
  have hs1 : Tryz.prog.types[5].size = 1 := by kernel_rfl
  refine funRow_of Tryz.func126 rfl rfl sha_ext (fun A hS hn hI => ?_)
  refine tri_reg M hI hn (outs := ?_) (s' := ?_) ?_ ?_ ?_ ?_
  rotate_left 2
  · rfl
  · kernel_rfl
  · simp
  refine tri_reg M hI hn (outs := ?_) (s' := ?_) ?_ ?_ ?_ ?_
  rotate_left 2
  · rfl
  · kernel_rfl
  · simp
  refine tri_seq ?_
  refine tri_reg M hI hn (outs := ?_) (s' := ?_) ?_ ?_ ?_ ?_
  rotate_left 2
  · rfl
  · kernel_rfl
  · simp
  refine tri_block ?_
  refine tri_conv (s' := intsSt l 0) (fun a w hg => ((hg.nilRow (x := 7000) (e := 5) (n := 1) (t := 3) (by rfl) (by rfl)).reset (kT := [3, 6, 7, 8]) (kO := [7000]) (by rfl) (by simp)).same ?_ ?_) ?_
  · exact .cons rfl (.cons rfl (.cons rfl (.cons rfl .nil)))
  · exact .cons (.arr rfl (fun i hi => by omega)) .nil
  refine tri_loop l.length (fun k t => t = intsSt l k) 0 rfl (by omega) (fun k t hJ hk => ?_)
  subst hJ
  refine tri_reg M hI hn (outs := ?_) (s' := ?_) ?_ ?_ ?_ ?_
  rotate_left 2
  · rfl
  · kernel_rfl
  · simp
  refine tri_seq ?_
  refine tri_cond (b := ?_) ?_ (fun hc => ?_) (fun hc => ?_)
  rotate_left 1
  · rfl
  · have hk2 : k < l.length := by simpa using hc
    have hb := hz _ (getD_mem hk2 0)
    have hlen := intsP_len l k hk
    have hes := intsP_succ l hk2
    have v1 := wInt_length (l.getD k 0)
    simp only [List.getD_eq_getElem?_getD] at v1 hb
    refine tri_skip ?_
    change Tri _ _ _ _ _
    refine tri_seq ?_
    refine tri_block ?_
    refine tri_reg M hI hn (outs := ?_) (s' := ?_) ?_ ?_ ?_ ?_
    rotate_left 2
    · rfl
    · kernel_rfl
    · simp
      exact hk2
    refine tri_region M hI hn (outs := ?_) (s' := ?_) ?_ ?_ ?_ ?_
    rotate_left 2
    · rfl
    · kernel_rfl
    · simp
      rw [hb1]
      exact ⟨hb, by omega⟩
    change Tri _ _ _ _ _
    refine tri_region M hI hn (outs := ?_) (s' := ?_) ?_ ?_ ?_ ?_
    rotate_left 2
    · rfl
    · kernel_rfl
    · simp
    intro a w hg
    refine ⟨k + 1, _, by omega, by omega, rfl, (hg.reset (kT := [3, 6, 7, 8]) (kO := [7000]) (by rfl) ?_).same ?_ ?_⟩
    · simp only [All, and_true, List.append_nil]
      exact fun i _ => cold_app (fun _ => rfl) (fun _ => rfl) i
    · refine .cons ?_ (.cons rfl (.cons rfl (.cons (by rw [wrap_nat k (by omega)]) .nil)))
      rw [Int.toNat_natCast, hes, List.length_append, hs1]
    · refine .cons (.arr ?_ (fun i hi => ?_)) .nil
      · rw [Int.toNat_natCast, hes, List.length_append]
      · rw [Int.toNat_natCast, byF_zero, byF_app, hes]
  · have hkk : k = l.length := by
      have : ¬ k < l.length := by simpa using hc
      omega
    subst hkk
    refine tri_exit ?_   -- exit 0
    change Tri _ _ _ _ _
    refine tri_reg M hI hn (outs := ?_) (s' := ?_) ?_ ?_ ?_ ?_
    rotate_left 2
    · rfl
    · kernel_rfl
    · simp
    refine tri_ret (fun a w hg => ⟨.inr rfl, _, ?_, hg⟩)
    refine rowTo_of (x := 7000) (ver := 0) (g := none) (f := ?_) (out := ?_) ?_ ?_ ?_ ?_ ?_ trivial ?_
    rotate_left 2
    · rfl
    · simp
    · rfl
    · rfl
    · rfl
    intro i hi
    exact ⟨rfl, rfl⟩
def spInts : Spec := rowSpec fun xs => match xs with
  | [.w (.one (.sl 1 n f))] => some (IsIntRow n f ∧ n ≤ 100 ∧ (∀ z ∈ rowInt n f, i64P z), 5, 1, (encInts (rowInt n f)).length, byF (encInts (rowInt n f)))
  | _ => none
theorem ints_ok : SpecOk Tryz.prog ShaMem 126 spInts := by
  refine rowSpec_ok (call_enters Tryz.func126 (by kernel_rfl) rfl) (fun xs p e n len f' hg hp => ?_)
  split at hg
  · rename_i m f
    cases hg
    obtain ⟨h1, h2, h3⟩ := hp
    have h4 := ints_fun (rowInt m f) (by simpa using h2) h3
    rw [rowInt_length] at h4
    intro w ok0 vs hI hV
    refine h4 w ok0 vs hI ?_
    match vs, hV with
    | [v], ⟨k1, _⟩ => exact ⟨.w (.one (k1.inv.sl_ext (intF_row h1))), trivial⟩
  · cases hg
def dgsSt (l : List (List UInt8)) (k : Nat) : St := ⟨[(3, none, pv1 (.ow 1002 0 1 0 (dgsP l k).length)), (9, none, pv1 (.sl 16 l.length (digF l))), (10, none, pvI l.length), (11, none, pvI k)], [(1002, none, 0, .arr 5 1 (dgsP l k).length (byF (dgsP l k)))]⟩
set_option maxRecDepth 100000 in
theorem digs_fun (l : List (List UInt8)) (hl : l.length ≤ 1000) (hd : D16 l) : FunRow Tryz.prog ShaMem 127 [pv1 (.sl 16 l.length (digF l))] 5 1 (encDigs l).length (byF (encDigs l)) := by
  have M := lowM
  have hb1 : Tryz.prog.types[5].bytes = 1 := by kernel_rfl
  have hs1 : Tryz.prog.types[5].size = 1 := by kernel_rfl
  have w1 := wInt_length (l.length : Int)
  have e0 : dgsP l 0 = wInt l.length := by simp [dgsP]
  refine funRow_of Tryz.func127 rfl rfl sha_ext (fun A hS hn hI => ?_)
  refine tri_reg M hI hn (outs := ?_) (s' := ?_) ?_ ?_ ?_ ?_
  rotate_left 2
  · rfl
  · kernel_rfl
  · simp
  refine tri_reg M hI hn (outs := ?_) (s' := ?_) ?_ ?_ ?_ ?_
  rotate_left 2
  · rfl
  · kernel_rfl
  · simp
    unfold i64P
    omega
  refine tri_seq ?_
  refine tri_reg M hI hn (outs := ?_) (s' := ?_) ?_ ?_ ?_ ?_
  rotate_left 2
  · rfl
  · kernel_rfl
  · simp
  refine tri_block ?_
  refine tri_conv (s' := dgsSt l 0) (fun a w hg => (hg.reset (kT := [3, 9, 10, 11]) (kO := [1002]) (by rfl) ?_).same ?_ ?_) ?_
  · simp only [All, and_true, List.append_nil]
    exact fun i _ => rfl
  · exact .cons (by rw [e0]) (.cons rfl (.cons rfl (.cons rfl .nil)))
  · exact .cons (.arr (by rw [e0]) (fun i hi => by rw [e0])) .nil
  refine tri_loop l.length (fun k t => t = dgsSt l k) 0 rfl (by omega) (fun k t hJ hk => ?_)
  subst hJ
  refine tri_reg M hI hn (outs := ?_) (s' := ?_) ?_ ?_ ?_ ?_
  rotate_left 2
  · rfl
  · kernel_rfl
  · simp
  refine tri_seq ?_
  refine tri_cond (b := ?_) ?_ (fun hc => ?_) (fun hc => ?_)
  rotate_left 1
  · rfl
  · have hk2 : k < l.length := by simpa using hc
    have hb := hd _ (getD_mem hk2 [])
    have hlen := dgsP_len hd k hk
    have hes := dgsP_succ l hk2
    refine tri_skip ?_
    change Tri _ _ _ _ _
    refine tri_seq ?_
    refine tri_block ?_
    refine tri_reg M hI hn (outs := ?_) (s' := ?_) ?_ ?_ ?_ ?_
    rotate_left 2
    · rfl
    · kernel_rfl
    · simp
      exact hk2
    refine tri_region M hI hn (outs := ?_) (s' := ?_) ?_ ?_ ?_ ?_
    rotate_left 2
    · rfl
    · kernel_rfl
    · simp
      rw [hb1]
      omega
    change Tri _ _ _ _ _
    refine tri_region M hI hn (outs := ?_) (s' := ?_) ?_ ?_ ?_ ?_
    rotate_left 2
    · rfl
    · kernel_rfl
    · simp
    intro a w hg
    refine ⟨k + 1, _, by omega, by omega, rfl, (hg.reset (kT := [3, 9, 10, 11]) (kO := [1002]) (by rfl) ?_).same ?_ ?_⟩
    · simp only [All, and_true, List.append_nil]
      exact fun i _ => cold_app (fun _ => rfl) (fun _ => rfl) i
    · refine .cons ?_ (.cons rfl (.cons rfl (.cons (by rw [wrap_nat k (by omega)]) .nil)))
      rw [hes, List.length_append, hb, hs1]
    · refine .cons (.arr ?_ (fun i hi => ?_)) .nil
      · rw [hes, List.length_append, hb]
      · change appF _ _ (byF (l.getD k [])) i = _
        rw [byF_app, hes]
  · have hkk : k = l.length := by
      have : ¬ k < l.length := by simpa using hc
      omega
    subst hkk
    refine tri_exit ?_   -- exit 0
    change Tri _ _ _ _ _
    refine tri_reg M hI hn (outs := ?_) (s' := ?_) ?_ ?_ ?_ ?_
    rotate_left 2
    · rfl
    · kernel_rfl
    · simp
    refine tri_ret (fun a w hg => ⟨.inr rfl, _, ?_, hg⟩)
    refine rowTo_of (x := 1002) (ver := 0) (g := none) (f := ?_) (out := ?_) ?_ ?_ ?_ ?_ ?_ trivial ?_
    rotate_left 2
    · rfl
    · simp
    · rfl
    · rfl
    · rfl
    intro i hi
    exact ⟨rfl, rfl⟩
/-- A row of digests as an argument. -/
theorem dgOf_sl {C : Ctx} {c : PC} {xs : List Value} {p : Prop} {l : List (List UInt8)} (h : dgOf c = some (p, l)) (hp : p) (hr : R C c xs) : R C (.sl 16 l.length (digF l)) xs ∧ D16 l := by
  unfold dgOf at h
  split at h
  · rename_i len f
    cases h
    have h2 := hr
    cases h2 with
    | sl hr2 hb he =>
      have hD := (drow_cells hr2.1 he hp).2
      refine ⟨?_, hD⟩
      rw [rowD_length]
      refine hr.sl_ext (fun i hi => ?_)
      unfold digF
      rw [rowD, getD_map_range len i _ hi]
      have := hp i hi
      have h3 := (he i hi)
      revert this
      generalize f i = c
      intro this
      unfold isDig at this
      split at this
      · rw [beqT this]; rfl
      · cases this
  · cases h
    cases hr
    exact ⟨.sl (Reads.nil _ _) (fun g hg => by simp [Value.ownBlock] at hg) (fun i hi => by simp at hi), D16.nil⟩
  · cases h
def spDigs : Spec := rowSpec fun xs => match xs with
  | [.w (.one c)] => (match dgOf c with
    | some (p, l) => some (p ∧ l.length ≤ 1000, 5, 1, (encDigs l).length, byF (encDigs l))
    | none => none)
  | _ => none
theorem digs_ok : SpecOk Tryz.prog ShaMem 127 spDigs := by
  refine rowSpec_ok (call_enters Tryz.func127 (by kernel_rfl) rfl) (fun xs p e n len f' hg hp => ?_)
  split at hg
  · rename_i c
    split at hg
    · rename_i q l he
      cases hg
      intro w ok0 vs hI hV
      match vs, hV with
      | [v], ⟨k1, _⟩ =>
        obtain ⟨k2, k3⟩ := dgOf_sl he hp.1 k1.inv
        exact digs_fun l hp.2 k3 w ok0 [v] hI ⟨.w (.one k2), trivial⟩
    · cases hg
  · cases hg
def quL1 : List (Nat × Spec) := (126, spInts) :: (127, spDigs) :: lowL
theorem qu1_ok : ∀ p ∈ quL1, SpecOk Tryz.prog ShaMem p.1 p.2 := by
  intro p hp
  simp only [quL1, List.mem_cons] at hp
  rcases hp with rfl | rfl | hp
  · exact ints_ok
  · exact digs_ok
  · exact low_ok p hp
theorem qu1M : Mach Tryz.prog ShaMem (find quL1) := ⟨specs_of qu1_ok, mixed_⟩
/-! ### Three integers and a row of digests: manifests, keysets -/
structure R4 where
  a : Int
  b : Int
  c : Int
  l : List (List UInt8)
  deriving Inhabited
structure R4Ok (s : R4) : Prop where
  a : i64P s.a
  b : i64P s.b
  c : i64P s.c
  l : D16 s.l
def r4L (s : R4) : List PC := [.lit (.int .i64 s.a), .lit (.int .i64 s.b), .lit (.int .i64 s.c), .sl 16 s.l.length (digF s.l)]
def r4PV (s : R4) : PV := .w (.agg (r4L s))
def encR4 (s : R4) : List UInt8 := encInts [s.a, s.b, s.c] ++ encDigs s.l
def asR4 : PV → Option (Prop × R4)
  | .w (.agg [.lit (.int .i64 a), .lit (.int .i64 b), .lit (.int .i64 c), d]) => (match dgOf d with
    | some (p, l) => some (p ∧ i64P a ∧ i64P b ∧ i64P c, ⟨a, b, c, l⟩)
    | none => none)
  | _ => none
theorem asR4_ok {C : Ctx} {v : PV} {p : Prop} {m : R4} {x : Value} (h : asR4 v = some (p, m)) (hp : p) (hv : RV C v x) : RV C (r4PV m) x ∧ R4Ok m := by
  unfold asR4 at h
  split at h
  · rename_i a b c d
    split at h
    · rename_i q l he
      cases h
      obtain ⟨hq, ha, hb, hc⟩ := hp
      cases hv with
      | w hv => cases hv with
        | agg hv =>
          generalize hq2 : Array.toList _ = qq at hv
          cases hv with
          | cons h1 hv => cases hv with
            | cons h2 hv => cases hv with
              | cons h3 hv => cases hv with
                | cons h4 hv =>
                  obtain ⟨k2, k3⟩ := dgOf_sl he hq h4
                  refine ⟨.w (.agg ?_), ⟨ha, hb, hc, k3⟩⟩
                  rw [hq2]
                  exact .cons h1 (.cons h2 (.cons h3 (.cons k2 hv)))
    · cases h
  · cases h
theorem encR4_len {s : R4} (h : R4Ok s) : (encR4 s).length ≤ 40 + 16 * s.l.length := by
  have h1 := intsP_len [s.a, s.b, s.c] 3 (by simp)
  have h2 := dgsP_len h.l s.l.length (Nat.le_refl _)
  unfold encR4 encInts encDigs
  rw [List.length_append]
  have h3 : (intsP [s.a, s.b, s.c] [s.a, s.b, s.c].length).length ≤ 30 := h1
  omega
set_option maxRecDepth 100000 in
theorem manifest_fun (s : R4) (hs : R4Ok s) (hl : s.l.length ≤ 1000) : FunRow Tryz.prog ShaMem 100 [r4PV s] 5 1 (encR4 s).length (byF (encR4 s)) := by
  have M := qu1M
  have hb1 : Tryz.prog.types[5].bytes = 1 := by kernel_rfl
  have hs1 : Tryz.prog.types[5].size = 1 := by kernel_rfl
  have hlen := encR4_len hs
  refine funRow_of Tryz.func100 rfl rfl sha_ext (fun A hS hn hI => ?_)
  refine tri_reg M hI hn (outs := ?_) (s' := ?_) ?_ ?_ ?_ ?_
  rotate_left 2
  · rfl
  · kernel_rfl
  · simp
  refine tri_reg M hI hn (outs := ?_) (s' := ?_) ?_ ?_ ?_ ?_
  rotate_left 2
  · rfl
  · kernel_rfl
  · simp
    refine ⟨fun i hi x hx => ?_, ⟨fun i hi => ?_, ?_⟩, hl, ?_⟩
    · have : i = 0 ∨ i = 1 ∨ i = 2 := by omega
      rcases this with rfl | rfl | rfl <;> (change x ∈ [_] at hx; rw [List.mem_singleton] at hx; subst hx; rfl)
    · have : i = 0 ∨ i = 1 ∨ i = 2 := by omega
      rcases this with rfl | rfl | rfl <;> rfl
    · change ∀ z ∈ [s.a, s.b, s.c], i64P z
      simp
      exact ⟨hs.a, hs.b, hs.c⟩
    · rw [hb1]
      change ((encInts [s.a, s.b, s.c]).length + (encDigs s.l).length) * 1 ≤ _
      rw [encR4, List.length_append] at hlen
      omega
  refine tri_conv (s' := ⟨[(2, none, pv1 (.ow 1007 0 1 0 (encR4 s).length))], [(1007, none, 0, .arr 5 1 (encR4 s).length (byF (encR4 s)))]⟩) (fun a w hg => (hg.reset (kT := [2]) (kO := [1007]) (by rfl) ?_).same ?_ ?_) ?_
  · simp only [All, and_true, List.append_nil]
    exact fun i _ => cold_app (fun _ => rfl) (fun _ => rfl) i
  · refine .cons ?_ .nil
    rw [hs1, rowD_digF, encR4, List.length_append]
    rfl
  · refine .cons (.arr ?_ (fun i hi => ?_)) .nil
    · rw [rowD_digF, encR4, List.length_append]
      rfl
    · simp only [rowD_digF, Nat.zero_add]
      exact congrFun (byF_app (encInts [s.a, s.b, s.c]) (encDigs s.l)) i
  refine tri_ret (fun a w hg => ⟨.inr rfl, _, ?_, hg⟩)
  refine rowTo_of (x := 1007) (ver := 0) (g := none) (f := ?_) (out := ?_) ?_ ?_ ?_ ?_ ?_ trivial ?_
  rotate_left 2
  · rfl
  · simp
  · rfl
  · rfl
  · rfl
  intro i hi
  exact ⟨rfl, rfl⟩
set_option maxRecDepth 100000 in
theorem kset_fun (s : R4) (hs : R4Ok s) (hl : s.l.length ≤ 1000) : FunRow Tryz.prog ShaMem 97 [r4PV s] 5 1 (encR4 s).length (byF (encR4 s)) := by
  have M := qu1M
  have hb1 : Tryz.prog.types[5].bytes = 1 := by kernel_rfl
  have hs1 : Tryz.prog.types[5].size = 1 := by kernel_rfl
  have hlen := encR4_len hs
  refine funRow_of Tryz.func97 rfl rfl sha_ext (fun A hS hn hI => ?_)
  refine tri_reg M hI hn (outs := ?_) (s' := ?_) ?_ ?_ ?_ ?_
  rotate_left 2
  · rfl
  · kernel_rfl
  · simp
  refine tri_reg M hI hn (outs := ?_) (s' := ?_) ?_ ?_ ?_ ?_
  rotate_left 2
  · rfl
  · kernel_rfl
  · simp
    refine ⟨fun i hi x hx => ?_, ⟨fun i hi => ?_, ?_⟩, hl, ?_⟩
    · have : i = 0 ∨ i = 1 ∨ i = 2 := by omega
      rcases this with rfl | rfl | rfl <;> (change x ∈ [_] at hx; rw [List.mem_singleton] at hx; subst hx; rfl)
    · have : i = 0 ∨ i = 1 ∨ i = 2 := by omega
      rcases this with rfl | rfl | rfl <;> rfl
    · change ∀ z ∈ [s.a, s.b, s.c], i64P z
      simp
      exact ⟨hs.a, hs.b, hs.c⟩
    · rw [hb1]
      change ((encInts [s.a, s.b, s.c]).length + (encDigs s.l).length) * 1 ≤ _
      rw [encR4, List.length_append] at hlen
      omega
  refine tri_conv (s' := ⟨[(2, none, pv1 (.ow 1007 0 1 0 (encR4 s).length))], [(1007, none, 0, .arr 5 1 (encR4 s).length (byF (encR4 s)))]⟩) (fun a w hg => (hg.reset (kT := [2]) (kO := [1007]) (by rfl) ?_).same ?_ ?_) ?_
  · simp only [All, and_true, List.append_nil]
    exact fun i _ => cold_app (fun _ => rfl) (fun _ => rfl) i
  · refine .cons ?_ .nil
    rw [hs1, rowD_digF, encR4, List.length_append]
    rfl
  · refine .cons (.arr ?_ (fun i hi => ?_)) .nil
    · rw [rowD_digF, encR4, List.length_append]
      rfl
    · simp only [rowD_digF, Nat.zero_add]
      exact congrFun (byF_app (encInts [s.a, s.b, s.c]) (encDigs s.l)) i
  refine tri_ret (fun a w hg => ⟨.inr rfl, _, ?_, hg⟩)
  refine rowTo_of (x := 1007) (ver := 0) (g := none) (f := ?_) (out := ?_) ?_ ?_ ?_ ?_ ?_ trivial ?_
  rotate_left 2
  · rfl
  · simp
  · rfl
  · rfl
  · rfl
  intro i hi
  exact ⟨rfl, rfl⟩
def spR4 : Spec := rowSpec fun xs => match xs with
  | [v] => (match asR4 v with
    | some (p, m) => some (p ∧ m.l.length ≤ 1000, 5, 1, (encR4 m).length, byF (encR4 m))
    | none => none)
  | _ => none
theorem spR4_ok {f : Nat} (hent : ∀ args w, (callFunc f args).run Tryz.prog w = .ok (.enter f args) w) (h : ∀ s, R4Ok s → s.l.length ≤ 1000 → FunRow Tryz.prog ShaMem f [r4PV s] 5 1 (encR4 s).length (byF (encR4 s))) : SpecOk Tryz.prog ShaMem f spR4 := by
  refine rowSpec_ok hent (fun xs p e n len f' hg hp => ?_)
  split at hg
  · rename_i c
    split at hg
    · rename_i q l he
      cases hg
      intro w ok0 vs hI hV
      match vs, hV with
      | [v], ⟨k1, _⟩ =>
        obtain ⟨k2, k3⟩ := asR4_ok he hp.1 k1
        exact h l k3 hp.2 w ok0 [v] hI ⟨k2, trivial⟩
    · cases hg
  · cases hg
def quL2 : List (Nat × Spec) := (100, spR4) :: (97, spR4) :: quL1
theorem qu2_ok : ∀ p ∈ quL2, SpecOk Tryz.prog ShaMem p.1 p.2 := by
  intro p hp
  simp only [quL2, List.mem_cons] at hp
  rcases hp with rfl | rfl | hp
  · exact spR4_ok (call_enters Tryz.func100 (by kernel_rfl) rfl) manifest_fun
  · exact spR4_ok (call_enters Tryz.func97 (by kernel_rfl) rfl) kset_fun
  · exact qu1_ok p hp
theorem qu2M : Mach Tryz.prog ShaMem (find quL2) := ⟨specs_of qu2_ok, mixed_⟩
/-! ### Digests -/
def r4Dig (tag : Int) (s : R4) : List UInt8 := digestS tag [encR4 s]
set_option maxRecDepth 100000 in
theorem mdig_fun (s : R4) (hs : R4Ok s) (hl : s.l.length ≤ 600) : FunOk Tryz.prog ShaMem 60 true [r4PV s] (.w (.agg [.bs 16 (r4Dig 12 s)])) := by
  have M := qu2M
  have hlen := encR4_len hs
  refine funOk_of Tryz.func60 rfl rfl sha_ext (fun A hS hn hI => ?_)
  refine tri_reg M hI hn (outs := ?_) (s' := ?_) ?_ ?_ ?_ ?_
  rotate_left 2
  · rfl
  · kernel_rfl
  · simp
  refine tri_reg M hI hn (outs := ?_) (s' := ?_) ?_ ?_ ?_ ?_
  rotate_left 2
  · rfl
  · kernel_rfl
  · simp
    exact ⟨⟨⟨hs.a, hs.b, hs.c⟩, by omega⟩, by show (encR4 s).length ≤ _; omega⟩
  refine tri_ret (fun a w hg => ⟨.inr rfl, _, ?_, hg⟩)
  refine retTo_cold (out := ?_) ?_ ?_ ?_ ?_ ?_
  rotate_left 1
  · rfl
  · simp
  · rfl
  · rfl
  simp only [rowD_digF, rowB_byF]
  rfl
set_option maxRecDepth 100000 in
theorem kdig_fun (s : R4) (hs : R4Ok s) (hl : s.l.length ≤ 600) : FunOk Tryz.prog ShaMem 54 true [r4PV s] (.w (.agg [.bs 16 (r4Dig 13 s)])) := by
  have M := qu2M
  have hlen := encR4_len hs
  refine funOk_of Tryz.func54 rfl rfl sha_ext (fun A hS hn hI => ?_)
  refine tri_reg M hI hn (outs := ?_) (s' := ?_) ?_ ?_ ?_ ?_
  rotate_left 2
  · rfl
  · kernel_rfl
  · simp
  refine tri_reg M hI hn (outs := ?_) (s' := ?_) ?_ ?_ ?_ ?_
  rotate_left 2
  · rfl
  · kernel_rfl
  · simp
    exact ⟨⟨⟨hs.a, hs.b, hs.c⟩, by omega⟩, by show (encR4 s).length ≤ _; omega⟩
  refine tri_ret (fun a w hg => ⟨.inr rfl, _, ?_, hg⟩)
  refine retTo_cold (out := ?_) ?_ ?_ ?_ ?_ ?_
  rotate_left 1
  · rfl
  · simp
  · rfl
  · rfl
  simp only [rowD_digF, rowB_byF]
  rfl
def stDig (c : ByteArray) : List UInt8 := digestS 6 [c.data.toList]
set_option maxRecDepth 100000 in
theorem sdig_fun (c : ByteArray) (hl : c.size ≤ 10000) : FunOk Tryz.prog ShaMem 59 true [lit1 (.string c)] (.w (.agg [.bs 16 (stDig c)])) := by
  have M := qu2M
  refine funOk_of Tryz.func59 rfl rfl sha_ext (fun A hS hn hI => ?_)
  refine tri_reg M hI hn (outs := ?_) (s' := ?_) ?_ ?_ ?_ ?_
  rotate_left 2
  · rfl
  · kernel_rfl
  · simp
  refine tri_reg M hI hn (outs := ?_) (s' := ?_) ?_ ?_ ?_ ?_
  rotate_left 2
  · rfl
  · kernel_rfl
  · simp
    rw [show c.size = c.data.toList.length from Array.length_toList.symm] at hl ⊢
    rw [rowB_byF]
    exact ⟨by omega, hl⟩
  refine tri_ret (fun a w hg => ⟨.inr rfl, _, ?_, hg⟩)
  refine retTo_cold (out := ?_) ?_ ?_ ?_ ?_ ?_
  rotate_left 1
  · rfl
  · simp
  · rfl
  · rfl
  rw [show c.size = c.data.toList.length from Array.length_toList.symm, rowB_byF]
  rfl

end Go.Proofs.YtplkplegjoabgaaGreatDoor.Pv

/-
  Package quorum by the abstract machine: keysets, lists of signatures.
-/
namespace Go.Proofs.YtplkplegjoabgaaGreatDoor.Pv
open Go.RowKit

def ksValid (s : R4) : Bool := decide (0 ≤ s.a ∧ s.a ≤ 16 ∧ 0 ≤ s.c ∧ s.c ≤ 4 ∧ s.l.length ≤ 5 ∧ 1 ≤ s.b ∧ s.b ≤ s.l.length)
def sgdF (l : List Sgd) : Nat → List PC := fun i => sgdPC (l.getD i default)
def prevM (l : List Sgd) (k : Nat) : Int := if k = 0 then -1 else (l.getD (k - 1) default).maker
def mkStep (n : Nat) (l : List Sgd) (k : Nat) : Bool := decide (prevM l k < (l.getD k default).maker ∧ (l.getD k default).maker < n)
def mksOk (n : Nat) (l : List Sgd) : Bool := (List.range l.length).all (mkStep n l)
def sgStep (s : R4) (m : List UInt8) (l : List Sgd) (k : Nat) : Bool := verS (s.l.getD (l.getD k default).maker.toNat []) s.c m (l.getD k default).sig
def sgsOk (s : R4) (m : List UInt8) (l : List Sgd) : Bool := (List.range l.length).all (sgStep s m l)
def checkS (s : R4) (m : List UInt8) (l : List Sgd) : Int :=
  if ksValid s = true then (if mksOk s.l.length l = true then (if sgsOk s m l = true then (if (l.length : Int) < s.b then 10 else 0) else 9) else 1) else 1
structure SgdOk (s : Sgd) : Prop where
  maker : i64P s.maker
  index : i64P s.sig.index
  path : s.sig.path.length ≤ 1000
def reqL (s : R4) (m : List UInt8) (l : List Sgd) : List PC := [.lit (.int .i64 s.a), .lit (.int .i64 s.b), .lit (.int .i64 s.c), .sl 16 s.l.length (digF s.l), .bs 16 m, .sl 4 l.length (sgdF l)]
def reqPV (s : R4) (m : List UInt8) (l : List Sgd) : PV := .w (.agg (reqL s m l))
set_option maxRecDepth 100000 in
theorem qvalid_fun (s : R4) : FunOk Tryz.prog ShaMem 52 true [r4PV s] (pvB (ksValid s)) := by
  have M := qu2M
  refine funOk_of Tryz.func52 rfl rfl sha_ext (fun A hS hn hI => ?_)
  refine tri_reg M hI hn (outs := ?_) (s' := ?_) ?_ ?_ ?_ ?_
  rotate_left 2
  · rfl
  · kernel_rfl
  · simp
  refine tri_reg M hI hn (outs := ?_) (s' := ?_) ?_ ?_ ?_ ?_
  rotate_left 2
  · rfl
  · kernel_rfl
  · simp
  refine tri_reg M hI hn (outs := ?_) (s' := ?_) ?_ ?_ ?_ ?_
  rotate_left 2
  · rfl
  · kernel_rfl
  · simp
  refine tri_ret (fun a w hg => ⟨.inr rfl, _, ?_, hg⟩)
  refine retTo_cold (out := ?_) ?_ ?_ ?_ ?_ ?_
  rotate_left 1
  · rfl
  · simp
  · rfl
  · rfl
  change pvB _ = pvB _
  refine congrArg pvB (Bool.eq_iff_iff.2 ?_)
  unfold ksValid
  simp
  omega
set_option maxRecDepth 100000 in
theorem rqvalid_fun (s : R4) : FunOk Tryz.prog ShaMem 55 true [r4PV s] (pvB (ksValid s)) := by
  have M := qu2M
  refine funOk_of Tryz.func55 rfl rfl sha_ext (fun A hS hn hI => ?_)
  refine tri_reg M hI hn (outs := ?_) (s' := ?_) ?_ ?_ ?_ ?_
  rotate_left 2
  · rfl
  · kernel_rfl
  · simp
  refine tri_seq ?_
  refine tri_reg M hI hn (outs := ?_) (s' := ?_) ?_ ?_ ?_ ?_
  rotate_left 2
  · rfl
  · kernel_rfl
  · simp
  refine tri_cond (b := ?_) ?_ (fun hc => ?_) (fun hc => ?_)
  rotate_left 1
  · rfl
  · refine tri_reg M hI hn (outs := ?_) (s' := ?_) ?_ ?_ ?_ ?_
    rotate_left 2
    · rfl
    · kernel_rfl
    · simp
    refine tri_ret (fun a w hg => ⟨.inr rfl, _, ?_, hg⟩)
    refine retTo_cold (out := ?_) ?_ ?_ ?_ ?_ ?_
    rotate_left 1
    · rfl
    · simp
    · rfl
    · rfl
    change pvB _ = pvB _
    refine congrArg pvB (Bool.eq_iff_iff.2 ?_)
    unfold ksValid
    simp at hc
    simp
    omega
  · refine tri_skip ?_
    change Tri _ _ _ _ _
    refine tri_reg M hI hn (outs := ?_) (s' := ?_) ?_ ?_ ?_ ?_
    rotate_left 2
    · rfl
    · kernel_rfl
    · simp
    refine tri_ret (fun a w hg => ⟨.inr rfl, _, ?_, hg⟩)
    refine retTo_cold (out := ?_) ?_ ?_ ?_ ?_ ?_
    rotate_left 1
    · rfl
    · simp
    · rfl
    · rfl
    change pvB _ = pvB _
    refine congrArg pvB (Bool.eq_iff_iff.2 ?_)
    unfold ksValid
    simp at hc
    simp
    omega
def r4Sp (pre : R4 → Prop) (res : R4 → PV) : Spec := funSpec true fun xs => match xs with
  | [v] => (match asR4 v with
    | some (p, m) => some (p ∧ pre m, res m)
    | none => none)
  | _ => none
theorem r4Sp_ok {f : Nat} {pre : R4 → Prop} {res : R4 → PV} (hent : ∀ args w, (callFunc f args).run Tryz.prog w = .ok (.enter f args) w) (h : ∀ m, R4Ok m → pre m → FunOk Tryz.prog ShaMem f true [r4PV m] (res m)) : SpecOk Tryz.prog ShaMem f (r4Sp pre res) := by
  refine funSpec_ok hent (fun xs p r hg hp => ?_)
  split at hg
  · rename_i v
    cases hq : asR4 v with
    | none => rw [hq] at hg; cases hg
    | some q =>
      obtain ⟨p0, m⟩ := q
      rw [hq] at hg
      cases hg
      intro w ok0 vs hI hV
      match vs, hV with
      | [x], ⟨h1, _⟩ =>
        obtain ⟨k1, k2⟩ := asR4_ok hq hp.1 h1
        exact h m k2 hp.2 w ok0 [x] hI ⟨k1, trivial⟩
  · cases hg
def spStage : Spec := funSpec true fun xs => match xs with
  | [.w (.one (.lit (.string c)))] => some (c.size ≤ 10000, .w (.agg [.bs 16 (stDig c)]))
  | _ => none
theorem stage_ok : SpecOk Tryz.prog ShaMem 59 spStage := by
  refine funSpec_ok (call_enters Tryz.func59 (by kernel_rfl) rfl) (fun xs p r hg hp => ?_)
  split at hg
  · cases hg
    exact sdig_fun _ hp
  · cases hg
def quL3 : List (Nat × Spec) := (52, r4Sp (fun _ => True) fun s => pvB (ksValid s)) :: (55, r4Sp (fun _ => True) fun s => pvB (ksValid s)) ::
  (60, r4Sp (fun s => s.l.length ≤ 600) fun s => .w (.agg [.bs 16 (r4Dig 12 s)])) :: (54, r4Sp (fun s => s.l.length ≤ 600) fun s => .w (.agg [.bs 16 (r4Dig 13 s)])) ::
  (59, spStage) ::
  (122, funSpec true verG) :: (17, funSpec true verG) :: (50, funSpec true rootG) :: (14, funSpec true rootG) ::
  (20, funSpec true signG) :: lowL
theorem qu3_ok : ∀ p ∈ quL3, SpecOk Tryz.prog ShaMem p.1 p.2 := by
  intro p hp
  simp only [quL3, List.mem_cons] at hp
  rcases hp with rfl | rfl | rfl | rfl | rfl | rfl | rfl | rfl | rfl | rfl | hp
  · exact r4Sp_ok (call_enters Tryz.func52 (by kernel_rfl) rfl) (fun s _ _ => qvalid_fun s)
  · exact r4Sp_ok (call_enters Tryz.func55 (by kernel_rfl) rfl) (fun s _ _ => rqvalid_fun s)
  · exact r4Sp_ok (call_enters Tryz.func60 (by kernel_rfl) rfl) mdig_fun
  · exact r4Sp_ok (call_enters Tryz.func54 (by kernel_rfl) rfl) kdig_fun
  · exact stage_ok
  · exact tver_spec
  · exact rtver_spec
  · exact troot_spec
  · exact rtroot_spec
  · exact rtsign_spec
  · exact low_ok p hp
theorem qu3M : Mach Tryz.prog ShaMem (find quL3) := ⟨specs_of qu3_ok, mixed_⟩
/-! ### The four checks -/
set_option maxRecDepth 100000 in
theorem chk0_fun (s : R4) (hs : R4Ok s) (m : List UInt8) (l : List Sgd) : FunOk Tryz.prog ShaMem 92 true [reqPV s m l] (pvI (if ksValid s = true then 0 else 1)) := by
  have M := qu3M
  refine funOk_of Tryz.func92 rfl rfl sha_ext (fun A hS hn hI => ?_)
  refine tri_reg M hI hn (outs := ?_) (s' := ?_) ?_ ?_ ?_ ?_
  rotate_left 2
  · rfl
  · kernel_rfl
  · simp
  refine tri_seq ?_
  refine tri_reg M hI hn (outs := ?_) (s' := ?_) ?_ ?_ ?_ ?_
  rotate_left 2
  · rfl
  · kernel_rfl
  · simp
    exact ⟨hs.a, hs.b, hs.c⟩
  refine tri_cond (b := ?_) ?_ (fun hc => ?_) (fun hc => ?_)
  rotate_left 1
  · rfl
  · refine tri_reg M hI hn (outs := ?_) (s' := ?_) ?_ ?_ ?_ ?_
    rotate_left 2
    · rfl
    · kernel_rfl
    · simp
    refine tri_ret (fun a w hg => ⟨.inr rfl, _, ?_, hg⟩)
    refine retTo_cold (out := ?_) ?_ ?_ ?_ ?_ ?_
    rotate_left 1
    · rfl
    · simp
    · rfl
    · rfl
    rw [rowD_digF] at hc
    have hv : ksValid s = false := by simpa using hc
    rw [if_neg (by simp [hv])]
  · refine tri_skip ?_
    change Tri _ _ _ _ _
    refine tri_reg M hI hn (outs := ?_) (s' := ?_) ?_ ?_ ?_ ?_
    rotate_left 2
    · rfl
    · kernel_rfl
    · simp
    refine tri_ret (fun a w hg => ⟨.inr rfl, _, ?_, hg⟩)
    refine retTo_cold (out := ?_) ?_ ?_ ?_ ?_ ?_
    rotate_left 1
    · rfl
    · simp
    · rfl
    · rfl
    rw [rowD_digF] at hc
    have hv : ksValid s = true := by simpa using hc
    rw [if_pos hv]
set_option maxRecDepth 100000 in
theorem chk3_fun (s : R4) (m : List UInt8) (l : List Sgd) : FunOk Tryz.prog ShaMem 95 true [reqPV s m l] (pvI (if (l.length : Int) < s.b then 10 else 0)) := by
  have M := qu3M
  refine funOk_of Tryz.func95 rfl rfl sha_ext (fun A hS hn hI => ?_)
  refine tri_reg M hI hn (outs := ?_) (s' := ?_) ?_ ?_ ?_ ?_
  rotate_left 2
  · rfl
  · kernel_rfl
  · simp
  refine tri_seq ?_
  refine tri_reg M hI hn (outs := ?_) (s' := ?_) ?_ ?_ ?_ ?_
  rotate_left 2
  · rfl
  · kernel_rfl
  · simp
  refine tri_cond (b := ?_) ?_ (fun hc => ?_) (fun hc => ?_)
  rotate_left 1
  · rfl
  · refine tri_reg M hI hn (outs := ?_) (s' := ?_) ?_ ?_ ?_ ?_
    rotate_left 2
    · rfl
    · kernel_rfl
    · simp
    refine tri_ret (fun a w hg => ⟨.inr rfl, _, ?_, hg⟩)
    refine retTo_cold (out := ?_) ?_ ?_ ?_ ?_ ?_
    rotate_left 1
    · rfl
    · simp
    · rfl
    · rfl
    rw [if_pos (by simpa using hc)]
  · refine tri_skip ?_
    change Tri _ _ _ _ _
    refine tri_reg M hI hn (outs := ?_) (s' := ?_) ?_ ?_ ?_ ?_
    rotate_left 2
    · rfl
    · kernel_rfl
    · simp
    refine tri_ret (fun a w hg => ⟨.inr rfl, _, ?_, hg⟩)
    refine retTo_cold (out := ?_) ?_ ?_ ?_ ?_ ?_
    rotate_left 1
    · rfl
    · simp
    · rfl
    · rfl
    rw [if_neg (by simpa using hc)]
def mkSt (s : R4) (m : List UInt8) (l : List Sgd) (k : Nat) : St := ⟨[(1, none, pv1 (.pt 0 0 0)), (3, none, pvI (prevM l k)), (7, none, pv1 (.sl 4 l.length (sgdF l))), (8, none, pvI l.length), (9, none, pvI k)],
  [(0, none, 0, .box 158 (reqL s m l))]⟩
theorem all_range {n : Nat} {p : Nat → Bool} : (List.range n).all p = true ↔ ∀ i, i < n → p i = true := by
  rw [List.all_eq_true]
  exact ⟨fun h i hi => h i (List.mem_range.2 hi), fun h i hi => h i (List.mem_range.1 hi)⟩
theorem not_all {n k : Nat} {p : Nat → Bool} (hk : k < n) (h : p k = false) : ¬ (List.range n).all p = true := fun hh => by
  have := all_range.1 hh k hk
  rw [h] at this
  cases this
set_option maxRecDepth 100000 in
set_option maxHeartbeats 1000000 in
theorem chk1_fun (s : R4) (m : List UInt8) (l : List Sgd) (hl : l.length < 9223372036854775807) : FunOk Tryz.prog ShaMem 93 true [reqPV s m l] (pvI (if mksOk s.l.length l = true then 0 else 1)) := by
  have M := qu3M
  refine funOk_of Tryz.func93 rfl rfl sha_ext (fun A hS hn hI => ?_)
  refine tri_reg M hI hn (outs := ?_) (s' := ?_) ?_ ?_ ?_ ?_
  rotate_left 2
  · rfl
  · kernel_rfl
  · simp
  refine tri_reg M hI hn (outs := ?_) (s' := ?_) ?_ ?_ ?_ ?_
  rotate_left 2
  · rfl
  · kernel_rfl
  · simp
  refine tri_seq ?_
  refine tri_reg M hI hn (outs := ?_) (s' := ?_) ?_ ?_ ?_ ?_
  rotate_left 2
  · rfl
  · kernel_rfl
  · simp
  refine tri_block ?_
  refine tri_conv (s' := mkSt s m l 0) (fun a w hg => (hg.reset (kT := [1, 3, 7, 8, 9]) (kO := [0]) (by rfl) (by simp)).same ?_ ?_) ?_
  · exact .cons rfl (.cons rfl (.cons rfl (.cons rfl (.cons rfl .nil))))
  · exact .cons (.box rfl) .nil
  refine tri_loop l.length (fun k t => t = mkSt s m l k ∧ ∀ i, i < k → mkStep s.l.length l i = true) 0 ⟨rfl, fun i hi => by omega⟩ (by omega) (fun k t hJ hk => ?_)
  obtain ⟨rfl, hJ⟩ := hJ
  refine tri_reg M hI hn (outs := ?_) (s' := ?_) ?_ ?_ ?_ ?_
  rotate_left 2
  · rfl
  · kernel_rfl
  · simp
  refine tri_seq ?_
  refine tri_cond (b := ?_) ?_ (fun hc => ?_) (fun hc => ?_)
  rotate_left 1
  · rfl
  · have hk2 : k < l.length := by simpa using hc
    refine tri_skip ?_
    change Tri _ _ _ _ _
    refine tri_seq ?_
    refine tri_block ?_
    refine tri_reg M hI hn (outs := ?_) (s' := ?_) ?_ ?_ ?_ ?_
    rotate_left 2
    · rfl
    · kernel_rfl
    · simp
      exact hk2
    refine tri_seq ?_
    refine tri_reg M hI hn (outs := ?_) (s' := ?_) ?_ ?_ ?_ ?_
    rotate_left 2
    · rfl
    · kernel_rfl
    · simp
    have hbad : ∀ b : Bool, (bif decide ((l.getD k default).maker ≤ prevM l k) then true else decide ((l.getD k default).maker ≥ (s.l.length : Int))) = b → mkStep s.l.length l k = !b := fun b hb => by
      subst hb
      rw [Bool.eq_iff_iff]
      unfold mkStep
      simp
    refine tri_cond (b := ?_) ?_ (fun hc => ?_) (fun hc => ?_)
    rotate_left 1
    · rfl
    · refine tri_reg M hI hn (outs := ?_) (s' := ?_) ?_ ?_ ?_ ?_
      rotate_left 2
      · rfl
      · kernel_rfl
      · simp
      refine tri_ret (fun a w hg => ⟨.inr rfl, _, ?_, hg⟩)
      refine retTo_cold (out := ?_) ?_ ?_ ?_ ?_ ?_
      rotate_left 1
      · rfl
      · simp
      · rfl
      · rfl
      rw [if_neg (show ¬ mksOk s.l.length l = true from not_all hk2 (hbad _ hc))]
    · have hok := hbad _ hc
      refine tri_skip ?_
      change Tri _ _ _ _ _
      refine tri_region M hI hn (outs := ?_) (s' := ?_) ?_ ?_ ?_ ?_
      rotate_left 2
      · rfl
      · kernel_rfl
      · simp
      change Tri _ _ _ _ _
      refine tri_region M hI hn (outs := ?_) (s' := ?_) ?_ ?_ ?_ ?_
      rotate_left 2
      · rfl
      · kernel_rfl
      · simp
      intro a w hg
      refine ⟨k + 1, _, by omega, by omega, ⟨rfl, fun i hi => ?_⟩, (hg.reset (kT := [1, 3, 7, 8, 9]) (kO := [0]) (by rfl) (by simp)).same ?_ ?_⟩
      · rcases Nat.lt_or_ge i k with h | h
        · exact hJ i h
        · obtain rfl : i = k := by omega
          exact hok
      · exact .cons rfl (.cons rfl (.cons rfl (.cons rfl (.cons (by rw [wrap_nat k (by omega)]) .nil))))
      · exact .cons (.box rfl) .nil
  · have hkk : k = l.length := by
      have : ¬ k < l.length := by simpa using hc
      omega
    subst hkk
    refine tri_exit ?_   -- exit 0
    change Tri _ _ _ _ _
    refine tri_reg M hI hn (outs := ?_) (s' := ?_) ?_ ?_ ?_ ?_
    rotate_left 2
    · rfl
    · kernel_rfl
    · simp
    refine tri_ret (fun a w hg => ⟨.inr rfl, _, ?_, hg⟩)
    refine retTo_cold (out := ?_) ?_ ?_ ?_ ?_ ?_
    rotate_left 1
    · rfl
    · simp
    · rfl
    · rfl
    rw [if_pos (show mksOk s.l.length l = true from all_range.2 hJ)]
def sgSt (s : R4) (m : List UInt8) (l : List Sgd) (k : Nat) : St := ⟨[(1, none, pv1 (.pt 0 0 0)), (6, none, pv1 (.sl 4 l.length (sgdF l))), (7, none, pvI l.length), (8, none, pvI k)],
  [(0, none, 0, .box 158 (reqL s m l))]⟩
theorem mks_at {n : Nat} {l : List Sgd} (h : mksOk n l = true) {k : Nat} (hk : k < l.length) : 0 ≤ (l.getD k default).maker ∧ (l.getD k default).maker < n := by
  have h1 := all_range.1 h
  have : ∀ i, i < l.length → 0 ≤ (l.getD i default).maker := by
    intro i
    induction i with
    | zero =>
      intro hi
      have := of_decide_eq_true (h1 0 hi)
      unfold prevM at this
      rw [if_pos rfl] at this
      omega
    | succ i ih =>
      intro hi
      have := of_decide_eq_true (h1 (i + 1) hi)
      unfold prevM at this
      rw [if_neg (by omega), Nat.add_sub_cancel] at this
      have := ih (by omega)
      omega
  exact ⟨this k hk, (of_decide_eq_true (h1 k hk)).2⟩
set_option maxRecDepth 100000 in
set_option maxHeartbeats 1000000 in
theorem chk2_fun (s : R4) (m : List UInt8) (l : List Sgd) (hl : l.length < 9223372036854775807) (ho : ∀ x ∈ l, x.sig.path.length ≤ 1000) (hm : mksOk s.l.length l = true) : FunOk Tryz.prog ShaMem 94 true [reqPV s m l] (pvI (if sgsOk s m l = true then 0 else 9)) := by
  have M := qu3M
  refine funOk_of Tryz.func94 rfl rfl sha_ext (fun A hS hn hI => ?_)
  refine tri_reg M hI hn (outs := ?_) (s' := ?_) ?_ ?_ ?_ ?_
  rotate_left 2
  · rfl
  · kernel_rfl
  · simp
  refine tri_seq ?_
  refine tri_reg M hI hn (outs := ?_) (s' := ?_) ?_ ?_ ?_ ?_
  rotate_left 2
  · rfl
  · kernel_rfl
  · simp
  refine tri_block ?_
  refine tri_conv (s' := sgSt s m l 0) (fun a w hg => (hg.reset (kT := [1, 6, 7, 8]) (kO := [0]) (by rfl) (by simp)).same ?_ ?_) ?_
  · exact .cons rfl (.cons rfl (.cons rfl (.cons rfl .nil)))
  · exact .cons (.box rfl) .nil
  refine tri_loop l.length (fun k t => t = sgSt s m l k ∧ ∀ i, i < k → sgStep s m l i = true) 0 ⟨rfl, fun i hi => by omega⟩ (by omega) (fun k t hJ hk => ?_)
  obtain ⟨rfl, hJ⟩ := hJ
  refine tri_reg M hI hn (outs := ?_) (s' := ?_) ?_ ?_ ?_ ?_
  rotate_left 2
  · rfl
  · kernel_rfl
  · simp
  refine tri_seq ?_
  refine tri_cond (b := ?_) ?_ (fun hc => ?_) (fun hc => ?_)
  rotate_left 1
  · rfl
  · have hk2 : k < l.length := by simpa using hc
    refine tri_skip ?_
    change Tri _ _ _ _ _
    refine tri_seq ?_
    refine tri_block ?_
    refine tri_reg M hI hn (outs := ?_) (s' := ?_) ?_ ?_ ?_ ?_
    rotate_left 2
    · rfl
    · kernel_rfl
    · simp
      exact hk2
    have hmk := mks_at hm hk2
    have hpth := ho _ (getD_mem hk2 default)
    refine tri_reg M hI hn (outs := ?_) (s' := ?_) ?_ ?_ ?_ ?_
    rotate_left 2
    · rfl
    · kernel_rfl
    · simp
      simp only [List.getD_eq_getElem?_getD] at hmk hpth
      exact ⟨hmk, hpth⟩
    refine tri_cond (b := ?_) ?_ (fun hc => ?_) (fun hc => ?_)
    rotate_left 1
    · rfl
    · refine tri_reg M hI hn (outs := ?_) (s' := ?_) ?_ ?_ ?_ ?_
      rotate_left 2
      · rfl
      · kernel_rfl
      · simp
      refine tri_ret (fun a w hg => ⟨.inr rfl, _, ?_, hg⟩)
      refine retTo_cold (out := ?_) ?_ ?_ ?_ ?_ ?_
      rotate_left 1
      · rfl
      · simp
      · rfl
      · rfl
      rw [rowD_digF, rowD_digF] at hc
      have h : (!sgStep s m l k) = true := hc
      have hv : sgStep s m l k = false := by simpa using h
      rw [if_neg (show ¬ sgsOk s m l = true from not_all hk2 hv)]
    · rw [rowD_digF, rowD_digF] at hc
      have h : (!sgStep s m l k) = false := hc
      have hv : sgStep s m l k = true := by simpa using h
      clear h hc
      refine tri_skip ?_
      change Tri _ _ _ _ _
      refine tri_region M hI hn (outs := ?_) (s' := ?_) ?_ ?_ ?_ ?_
      rotate_left 2
      · rfl
      · kernel_rfl
      · simp
      intro a w hg
      refine ⟨k + 1, _, by omega, by omega, ⟨rfl, fun i hi => ?_⟩, (hg.reset (kT := [1, 6, 7, 8]) (kO := [0]) (by rfl) (by simp)).same ?_ ?_⟩
      · rcases Nat.lt_or_ge i k with h | h
        · exact hJ i h
        · obtain rfl : i = k := by omega
          exact hv
      · exact .cons rfl (.cons rfl (.cons rfl (.cons (by rw [wrap_nat k (by omega)]) .nil)))
      · exact .cons (.box rfl) .nil
  · have hkk : k = l.length := by
      have : ¬ k < l.length := by simpa using hc
      omega
    subst hkk
    refine tri_exit ?_   -- exit 0
    change Tri _ _ _ _ _
    refine tri_reg M hI hn (outs := ?_) (s' := ?_) ?_ ?_ ?_ ?_
    rotate_left 2
    · rfl
    · kernel_rfl
    · simp
    refine tri_ret (fun a w hg => ⟨.inr rfl, _, ?_, hg⟩)
    refine retTo_cold (out := ?_) ?_ ?_ ?_ ?_ ?_
    rotate_left 1
    · rfl
    · simp
    · rfl
    · rfl
    rw [if_pos (show sgsOk s m l = true from all_range.2 hJ)]
def fewStep (l : List Sgd) (k : Nat) : Bool := decide ((l.getD k default).sig.chain.length ≤ 100 ∧ (l.getD k default).sig.path.length ≤ 10)
def fewS (l : List Sgd) : Bool := decide (l.length ≤ 8) && (List.range l.length).all (fewStep l)
def fewSt (l : List Sgd) (k : Nat) : St := ⟨[(0, none, pv1 (.sl 4 l.length (sgdF l))), (3, none, pvI k)], []⟩
set_option maxRecDepth 100000 in
theorem few_fun (l : List Sgd) : FunOk Tryz.prog ShaMem 25 true [pv1 (.sl 4 l.length (sgdF l))] (pvB (fewS l)) := by
  have M := qu3M
  refine funOk_of Tryz.func25 rfl rfl sha_ext (fun A hS hn hI => ?_)
  refine tri_reg M hI hn (outs := ?_) (s' := ?_) ?_ ?_ ?_ ?_
  rotate_left 2
  · rfl
  · kernel_rfl
  · simp
  refine tri_seq ?_
  refine tri_reg M hI hn (outs := ?_) (s' := ?_) ?_ ?_ ?_ ?_
  rotate_left 2
  · rfl
  · kernel_rfl
  · simp
  refine tri_cond (b := ?_) ?_ (fun hc => ?_) (fun hc => ?_)
  rotate_left 1
  · rfl
  · refine tri_reg M hI hn (outs := ?_) (s' := ?_) ?_ ?_ ?_ ?_
    rotate_left 2
    · rfl
    · kernel_rfl
    · simp
    refine tri_ret (fun a w hg => ⟨.inr rfl, _, ?_, hg⟩)
    refine retTo_cold (out := ?_) ?_ ?_ ?_ ?_ ?_
    rotate_left 1
    · rfl
    · simp
    · rfl
    · rfl
    have h8 : ¬ l.length ≤ 8 := by
      have : (8 : Int) < l.length := by simpa using hc
      omega
    have hv : fewS l = false := by unfold fewS; simp [h8]
    rw [hv]
  · have h8 : l.length ≤ 8 := by
      have : (l.length : Int) ≤ 8 := by simpa using hc
      omega
    refine tri_skip ?_
    change Tri _ _ _ _ _
    refine tri_seq ?_
    refine tri_reg M hI hn (outs := ?_) (s' := ?_) ?_ ?_ ?_ ?_
    rotate_left 2
    · rfl
    · kernel_rfl
    · simp
    refine tri_block ?_
    refine tri_conv (s' := fewSt l 0) (fun a w hg => (hg.reset (kT := [0, 3]) (kO := []) (by rfl) (by simp)).same ?_ ?_) ?_
    · exact .cons rfl (.cons rfl .nil)
    · exact .nil
    refine tri_loop l.length (fun k t => t = fewSt l k ∧ ∀ i, i < k → fewStep l i = true) 0 ⟨rfl, fun i hi => by omega⟩ (by omega) (fun k t hJ hk => ?_)
    obtain ⟨rfl, hJ⟩ := hJ
    refine tri_seq ?_
    refine tri_reg M hI hn (outs := ?_) (s' := ?_) ?_ ?_ ?_ ?_
    rotate_left 2
    · rfl
    · kernel_rfl
    · simp
    refine tri_cond (b := ?_) ?_ (fun hc => ?_) (fun hc => ?_)
    rotate_left 1
    · rfl
    · have hk2 : k < l.length := by simpa using hc
      refine tri_skip ?_
      change Tri _ _ _ _ _
      refine tri_seq ?_
      refine tri_block ?_
      have hbad : ∀ b : Bool, (bif decide (((l.getD k default).sig.chain.length : Int) > 100) then true else decide (((l.getD k default).sig.path.length : Int) > 10)) = b → fewStep l k = !b := fun b hb => by
        subst hb
        rw [Bool.eq_iff_iff]
        unfold fewStep
        simp only [decide_eq_true_eq, Bool.not_eq_true', gt_iff_lt]
        by_cases h1 : (100 : Int) < (l.getD k default).sig.chain.length
        · simp only [h1, decide_true, cond_true, Bool.true_eq_false, iff_false]
          omega
        · simp only [h1, decide_false, cond_false, decide_eq_false_iff_not]
          omega
      refine tri_reg M hI hn (outs := ?_) (s' := ?_) ?_ ?_ ?_ ?_
      rotate_left 2
      · rfl
      · kernel_rfl
      · simp
        exact ⟨hk2, fun _ => hk2⟩
      refine tri_cond (b := ?_) ?_ (fun hc => ?_) (fun hc => ?_)
      rotate_left 1
      · rfl
      · refine tri_reg M hI hn (outs := ?_) (s' := ?_) ?_ ?_ ?_ ?_
        rotate_left 2
        · rfl
        · kernel_rfl
        · simp
        refine tri_ret (fun a w hg => ⟨.inr rfl, _, ?_, hg⟩)
        refine retTo_cold (out := ?_) ?_ ?_ ?_ ?_ ?_
        rotate_left 1
        · rfl
        · simp
        · rfl
        · rfl
        have hv : fewS l = false := by
          have := not_all hk2 (hbad _ hc)
          unfold fewS
          rw [Bool.eq_false_iff.2 this, Bool.and_false]
        rw [hv]
      · have hok := hbad _ hc
        refine tri_skip ?_
        change Tri _ _ _ _ _
        refine tri_region M hI hn (outs := ?_) (s' := ?_) ?_ ?_ ?_ ?_
        rotate_left 2
        · rfl
        · kernel_rfl
        · simp
        intro a w hg
        refine ⟨k + 1, _, by omega, by omega, ⟨rfl, fun i hi => ?_⟩, (hg.reset (kT := [0, 3]) (kO := []) (by rfl) (by simp)).same ?_ ?_⟩
        · rcases Nat.lt_or_ge i k with h | h
          · exact hJ i h
          · obtain rfl : i = k := by omega
            exact hok
        · exact .cons rfl (.cons (by rw [wrap_nat k (by omega)]) .nil)
        · exact .nil
    · have hkk : k = l.length := by
        have : ¬ k < l.length := by simpa using hc
        omega
      subst hkk
      refine tri_exit ?_   -- exit 0
      change Tri _ _ _ _ _
      refine tri_reg M hI hn (outs := ?_) (s' := ?_) ?_ ?_ ?_ ?_
      rotate_left 2
      · rfl
      · kernel_rfl
      · simp
      refine tri_ret (fun a w hg => ⟨.inr rfl, _, ?_, hg⟩)
      refine retTo_cold (out := ?_) ?_ ?_ ?_ ?_ ?_
      rotate_left 1
      · rfl
      · simp
      · rfl
      · rfl
      have hv : fewS l = true := by unfold fewS; rw [decide_eq_true h8, all_range.2 hJ]; rfl
      rw [hv]

end Go.Proofs.YtplkplegjoabgaaGreatDoor.Pv

/-
  quorum.first, at whatever four method values.
-/
namespace Go.Proofs.YtplkplegjoabgaaGreatDoor
open Go.RowKit

def firstE (e : Nat → Int) : Nat → Int
  | 0 => 0
  | n + 1 => if firstE e n = 0 then e n else firstE e n
theorem firstE_hit (e : Nat → Int) (k : Nat) (h : firstE e k = 0) (hk : e k ≠ 0) : ∀ n, k < n → firstE e n = e k := by
  intro n
  induction n with
  | zero => intro h; omega
  | succ n ih =>
    intro hn
    unfold firstE
    rcases Nat.lt_or_ge k n with h1 | h1
    · rw [ih h1, if_neg hk]
    · obtain rfl : k = n := by omega
      rw [if_pos h]
theorem firstE_zero (e : Nat → Int) : ∀ n, firstE e n = 0 → ∀ i, i < n → e i = 0
  | 0, _, i, hi => by omega
  | n + 1, h, i, hi => by
    unfold firstE at h
    by_cases h0 : firstE e n = 0
    · rw [if_pos h0] at h
      rcases Nat.lt_or_ge i n with h1 | h1
      · exact firstE_zero e n h0 i h1
      · obtain rfl : i = n := by omega
        exact h
    · rw [if_neg h0] at h
      exact absurd h h0
def mvals (F : Nat → Nat) (rq : Value) : List Value := (List.range 4).map fun k => .func (.func (F k)) #[rq] #[]
set_option maxRecDepth 100000 in
set_option maxHeartbeats 4000000 in
theorem qfirst_any {F : Nat → Nat} (hcall : ∀ (k : Nat) (args : Array Value) (w : World), (callFunc (F k) args).run Tryz.prog w = .ok (.enter (F k) args) w) (rq : Value) (e : Nat → Int) (b c : Nat) (w : World)
    (hrow : Reads w 1 (.slice (some ⟨b, 0, none⟩) 4 c) 4 (mvals F rq))
    (hS : ∀ k, k < 4 → firstE e k = 0 → ∀ W, Ext w W → Calls Tryz.prog (F k) #[rq] W fun r w' => r = .returned (.int .i64 (e k)) ∧ Ext W w') :
    Calls Tryz.prog 91 #[.slice (some ⟨b, 0, none⟩) 4 c] w fun r w' => r = .returned (.int .i64 (firstE e 4)) ∧ Ext w w' := by
  have HR := hide hrow
  have HS := hide hS
  clear hrow hS
  go_enter Tryz.func91, Tryz.ntmps91
  go_wp2_with fail
  apply wp_scope_straight
  go_wp2_with fail
  apply wp_label
  go_wp2_with fail
  go_loopw [3, 8] (fun x i wr => ∃ j : Nat, j ≤ 4 ∧ i = .int .i64 j ∧ x = .int .i64 0 ∧ Hid (firstE e j = 0 ∧ Ext w wr)) (fun _ i _ => 4 - (intOf i).toNat)
  case atStart => exact ⟨0, by omega, rfl, rfl, hide ⟨rfl, Ext.refl w⟩⟩
  case round =>
    obtain ⟨k, hk, rfl, rfl, HI⟩ := hrel
    by_cases hlt : k < 4
    · have hcell : wr.cell? ⟨b, 0 + k, none⟩ = some (.func (.func (F k)) #[rq] #[]) := ((unhide HR).ext (unhide HI).2).at_ (by unfold mvals; rw [List.getElem?_map, List.getElem?_range hlt]; rfl)
      rw [Nat.zero_add] at hcell
      have HC := hide (unhide HS k hlt (unhide HI).1 wr (unhide HI).2)
      have hcc := hcall k
      generalize F k = f at *
      go_wp2_with fail
      refine (unhide HC).mono ?_
      rintro r w1 ⟨rfl, hE1⟩
      have H1 := hide ((unhide HI).2.trans hE1)
      clear hE1
      by_cases h0 : e k = 0
      · rw [h0]
        go_wp2_with fail
        exact ⟨⟨k + 1, by omega, rfl, rfl, hide ⟨by unfold firstE; rw [if_pos (unhide HI).1]; exact h0, unhide H1⟩⟩, by simp [intOf]; omega⟩
      · have h0b : (e k == 0) = false := beq_eq_false_iff_ne.2 h0
        go_wp2_with fail
        rw [Exit.noGoto_ret]
        go_ret
        exact ⟨by rw [firstE_hit e k (unhide HI).1 h0 4 hlt]; rfl, unhide H1⟩
    · obtain rfl : k = 4 := by omega
      go_wp2
      rw [Exit.noGoto_ret]
      go_ret
      exact ⟨by rw [(unhide HI).1]; rfl, (unhide HI).2⟩
theorem req_wide : Wide Tryz.prog 158 21 := ⟨⟨_, Tryz.underlying158, rfl⟩, by kernel_rfl⟩
theorem ks_wide : Wide Tryz.prog 70 4 := ⟨⟨_, Tryz.underlying70, rfl⟩, by kernel_rfl⟩
def chkF : Nat → Nat
  | 0 => 92
  | 1 => 93
  | 2 => 94
  | _ => 95
theorem chkF_call (k : Nat) (args : Array Value) (w : World) : (callFunc (chkF k) args).run Tryz.prog w = .ok (.enter (chkF k) args) w := by
  unfold chkF
  split
  · exact call_enters Tryz.func92 (by kernel_rfl) rfl args w
  · exact call_enters Tryz.func93 (by kernel_rfl) rfl args w
  · exact call_enters Tryz.func94 (by kernel_rfl) rfl args w
  · exact call_enters Tryz.func95 (by kernel_rfl) rfl args w
theorem bytes16 {l : List UInt8} (h : l.length = 16) : ∃ t0 t1 t2 t3 t4 t5 t6 t7 t8 t9 t10 t11 t12 t13 t14 t15, l = [t0, t1, t2, t3, t4, t5, t6, t7, t8, t9, t10, t11, t12, t13, t14, t15] := by
  match l, h with
  | [t0, t1, t2, t3, t4, t5, t6, t7, t8, t9, t10, t11, t12, t13, t14, t15], _ => exact ⟨t0, t1, t2, t3, t4, t5, t6, t7, t8, t9, t10, t11, t12, t13, t14, t15, rfl⟩
theorem two_boxes (w : World) (x y : Array Value) (s t : TypeId) : Ext w ((w.alloc (.cells x s)).alloc (.cells y t)) ∧ Blk ((w.alloc (.cells x s)).alloc (.cells y t)) w.heap.size s x ∧ Blk ((w.alloc (.cells x s)).alloc (.cells y t)) (w.heap.size + 1) t y ∧ ((w.alloc (.cells x s)).alloc (.cells y t)).heap.size = w.heap.size + 1 + 1 :=
  ⟨((Ext.refl w).alloc _).alloc _, (Blk.new w _ _).alloc _, Blk.new' (g := w.heap.size + 1) _ _ _ (by simp), by simp⟩
def reqV (a b c : Int) (kv : Value) (m : List UInt8) (sv : Value) : Array Value := ([.int .i64 a, .int .i64 b, .int .i64 c, kv] ++ (m.map u8v ++ [sv])).toArray
set_option maxRecDepth 100000 in
set_option maxHeartbeats 4000000 in
theorem qcheck_any (a b' c : Int) (K1 K2 : Option Addr) (n1 c1 n2 c2 : Nat) (m : List UInt8) (w : World) (hm : m.length = 16) (e : Nat → Int)
    (hS : ∀ k, k < 4 → firstE e k = 0 → ∀ W, Ext w W → Calls Tryz.prog (chkF k) #[.agg (reqV a b' c (.slice K1 n1 c1) m (.slice K2 n2 c2))] W fun r w' => r = .returned (.int .i64 (e k)) ∧ Ext W w') :
    Calls Tryz.prog 53 #[.agg #[.int .i64 a, .int .i64 b', .int .i64 c, .slice K1 n1 c1], .agg (m.map u8v).toArray, .slice K2 n2 c2] w fun r w' => r = .returned (.int .i64 (firstE e 4)) ∧ Ext w w' := by
  have HS := hide (fun (b : Nat) W (hE : Ext w W) hrow => qfirst_any chkF_call (.agg (reqV a b' c (.slice K1 n1 c1) m (.slice K2 n2 c2))) e b 4 W hrow (fun k hk h0 W' hE' => hS k hk h0 W' (hE.trans hE')))
  clear hS
  obtain ⟨rv, hrv⟩ : ∃ x, reqV a b' c (.slice K1 n1 c1) m (.slice K2 n2 c2) = x := ⟨_, rfl⟩
  rw [hrv] at HS
  obtain ⟨m0, m1, m2, m3, m4, m5, m6, m7, m8, m9, m10, m11, m12, m13, m14, m15, rfl⟩ := bytes16 hm
  go_enter Tryz.func53, Tryz.ntmps53
  go_upto_region 1 with fail
  have HZ := hide (two_boxes w #[.int .i64 a, .int .i64 b', .int .i64 c, .slice K1 n1 c1] #[u8v m0, u8v m1, u8v m2, u8v m3, u8v m4, u8v m5, u8v m6, u8v m7, u8v m8, u8v m9, u8v m10, u8v m11, u8v m12, u8v m13, u8v m14, u8v m15] 70 23)
  generalize (w.alloc (.cells #[.int .i64 a, .int .i64 b', .int .i64 c, .slice K1 n1 c1] 70)).alloc (.cells #[u8v m0, u8v m1, u8v m2, u8v m3, u8v m4, u8v m5, u8v m6, u8v m7, u8v m8, u8v m9, u8v m10, u8v m11, u8v m12, u8v m13, u8v m14, u8v m15] 23) = W0 at *
  have q0 : W0.cell? ⟨w.heap.size, 0, none⟩ = some (.int .i64 a) := by rw [(unhide HZ).2.1.cell]; rfl
  have q1 : W0.cell? ⟨w.heap.size, 1, none⟩ = some (.int .i64 b') := by rw [(unhide HZ).2.1.cell]; rfl
  have q2 : W0.cell? ⟨w.heap.size, 2, none⟩ = some (.int .i64 c) := by rw [(unhide HZ).2.1.cell]; rfl
  have q3 : W0.cell? ⟨w.heap.size, 3, none⟩ = some (.slice K1 n1 c1) := by rw [(unhide HZ).2.1.cell]; rfl
  go_upto_region 2 with (first
    | (refine wpList_loadB (ty := 23) (t := 23) (x := .tmp 4) rfl rfl digest_wide rfl (cs := #[u8v m0, u8v m1, u8v m2, u8v m3, u8v m4, u8v m5, u8v m6, u8v m7, u8v m8, u8v m9, u8v m10, u8v m11, u8v m12, u8v m13, u8v m14, u8v m15]) (unhide HZ).2.2.1 rfl ?_)
    | (refine wpList_storeB (ty := 158) (t := 158) (x := .tmp 7) (y := .tmp 11) rfl rfl req_wide rfl rfl (Blk.new W0 _ _) rfl rfl (by rw [← Array.all_toList]; rfl) ?_; intro w3 hb3 hc3 hz3; have H3 := hide (And.intro (made_ext (unhide HZ).1 hc3) (show Blk w3 W0.heap.size 158 rv from by rw [← hrv]; exact hb3)); clear hb3 hc3 hz3))
  have hsz := hide (show rv.size = 21 from by rw [← hrv]; rfl)
  generalize W0.heap.size = g at *
  clear q0 q1 q2 q3 hrv HZ
  go_wp2_with (first
    | (refine wpList_loadB (ty := 158) (t := 158) (x := .tmp 7) rfl rfl req_wide rfl (cs := rv) (unhide H3).2 (unhide hsz) ?_))
  refine (unhide HS _ _ ((unhide H3).1.alloc _) (Reads.new w3 _ _ 1 4 4 _ rfl (by omega) (by unfold maxLen; omega) rfl)).mono ?_
  rintro r w5 ⟨rfl, hE5⟩
  have H5 := hide (((unhide H3).1.alloc _).trans hE5)
  clear hE5
  go_wp2_with fail
  go_ret
  exact ⟨rfl, unhide H5⟩

end Go.Proofs.YtplkplegjoabgaaGreatDoor

/-
  Package quorum by the abstract machine: Check and the reference's.
-/
namespace Go.Proofs.YtplkplegjoabgaaGreatDoor.Pv
open Go.RowKit

def chkE (s : R4) (m : List UInt8) (l : List Sgd) : Nat → Int
  | 0 => if ksValid s = true then 0 else 1
  | 1 => if mksOk s.l.length l = true then 0 else 1
  | 2 => if sgsOk s m l = true then 0 else 9
  | _ => if (l.length : Int) < s.b then 10 else 0
theorem chkE_first (s : R4) (m : List UInt8) (l : List Sgd) : firstE (chkE s m l) 4 = checkS s m l := by
  simp only [firstE, chkE, checkS]
  by_cases h0 : ksValid s = true <;> by_cases h1 : mksOk s.l.length l = true <;> by_cases h2 : sgsOk s m l = true <;> by_cases h3 : (l.length : Int) < s.b <;> simp [h0, h1, h2, h3]
theorem sl_form {C : Ctx} {n len : Nat} {f : Nat → List PC} {xs : List Value} (h : R C (.sl n len f) xs) : ∃ A c, xs = [.slice A len c] := by
  cases h with
  | sl hr _ _ => obtain ⟨_, A, c, rfl, _⟩ := hr; exact ⟨A, c, rfl⟩
theorem ext_le {w W : World} (hE : Ext w W) (ok0 : Nat → Prop) : ({ w := w, ok := ok0, env := fun _ => none } : Ctx).Le { w := W, ok := fun _ => True, env := fun _ => none } :=
  ⟨hE.size', fun b hb _ => ⟨trivial, hE.block b hb (fun h => h)⟩, fun _ _ _ h => by cases h⟩
theorem check_fun (s : R4) (hs : R4Ok s) (m : List UInt8) (l : List Sgd) (hl : l.length < 9223372036854775807) (ho : ∀ x ∈ l, x.sig.path.length ≤ 1000) :
    FunOk Tryz.prog ShaMem 53 true [r4PV s, .w (.agg [.bs 16 m]), pv1 (.sl 4 l.length (sgdF l))] (pvI (checkS s m l)) := by
  intro w ok0 vs hI hV
  match vs, hV with
  | [v1, v2, v3], ⟨k1, k2, k3, _⟩ =>
    obtain ⟨hm, rfl⟩ := rv_dig16 k2
    obtain ⟨K2, c2, e3⟩ := sl_form k3.inv
    cases e3
    have h3 := k3.inv
    cases k1 with
    | w k1 => cases k1 with
      | @agg _ cs k1 =>
        obtain ⟨cs⟩ := cs
        dsimp only at k1
        cases k1 with
        | cons a1 k1 => cases k1 with
          | cons a2 k1 => cases k1 with
            | cons a3 k1 => cases k1 with
              | cons a4 k1 =>
                cases k1
                obtain ⟨K1, c1, rfl⟩ := sl_form a4
                cases a1
                cases a2
                cases a3
                have hreq : RV { w := w, ok := ok0, env := fun _ => none } (reqPV s m l) (.agg (reqV s.a s.b s.c (.slice K1 s.l.length c1) m (.slice K2 l.length c2))) := by
                  refine .w (.agg ?_)
                  unfold reqV reqL
                  exact .cons (xs := [_]) (.lit rfl) (.cons (xs := [_]) (.lit rfl) (.cons (xs := [_]) (.lit rfl) (.cons (xs := [_]) a4 (.cons (.bs hm) (.cons (xs := [_]) h3 .nil)))))
                refine (qcheck_any s.a s.b s.c K1 K2 _ _ _ _ m w hm (chkE s m l) (fun k hk h0 W hE => ?_)).mono ?_
                · have hIW := hI.ext hE
                  have hv : Vals { w := W, ok := fun _ => True, env := fun _ => none } [reqPV s m l] [.agg (reqV s.a s.b s.c (.slice K1 s.l.length c1) m (.slice K2 l.length c2))] := ⟨hreq.le (ext_le hE ok0), trivial⟩
                  have fin : ∀ {F : Nat} {z : Int}, FunOk Tryz.prog ShaMem F true [reqPV s m l] (pvI z) → Calls Tryz.prog F #[.agg (reqV s.a s.b s.c (.slice K1 s.l.length c1) m (.slice K2 l.length c2))] W fun r w' => r = .returned (.int .i64 z) ∧ Ext W w' := fun h => by
                    refine (h W (fun _ => True) _ hIW hv).mono ?_
                    rintro r w' ⟨val, rfl, hE, hr⟩
                    exact ⟨congrArg Ending.returned hr.lit_inv, hE⟩
                  have hz := firstE_zero (chkE s m l) k h0
                  match k, hk with
                  | 0, _ => exact fin (chk0_fun s hs m l)
                  | 1, _ => exact fin (chk1_fun s m l hl)
                  | 2, _ =>
                    have h1 := hz 1 (by omega)
                    have hmk : mksOk s.l.length l = true := by
                      by_cases h : mksOk s.l.length l = true
                      · exact h
                      · simp [chkE, h] at h1
                    exact fin (chk2_fun s m l hl ho hmk)
                  | 3, _ => exact fin (chk3_fun s m l)
                · rintro r w' ⟨rfl, hE⟩
                  rw [chkE_first]
                  exact ⟨_, rfl, hE, .w (.one (.lit rfl))⟩
/-! ### Rows of signatures -/
def sgdOf : List PC → Sgd
  | [.lit (.int _ a), .lit (.int _ b), .sl _ n f, .sl _ m g] => ⟨a, ⟨b, rowD n f, rowD m g⟩⟩
  | _ => default
@[simp] theorem sgdOf_pc (s : Sgd) : sgdOf (sgdPC s) = s := by
  unfold sgdPC sigPC sgdOf
  simp
def IsSgdRow (n : Nat) (f : Nat → List PC) : Prop := ∀ i, i < n → ∃ s, f i = sgdPC s
def rowSgd (n : Nat) (f : Nat → List PC) : List Sgd := (List.range n).map fun i => sgdOf (f i)
@[simp] theorem rowSgd_length (n : Nat) (f : Nat → List PC) : (rowSgd n f).length = n := by simp [rowSgd]
theorem sgdF_row {n : Nat} {f : Nat → List PC} (h : IsSgdRow n f) : ∀ i, i < n → f i = sgdF (rowSgd n f) i := fun i hi => by
  unfold sgdF rowSgd
  rw [getD_map_range n i _ hi]
  obtain ⟨s, hs⟩ := h i hi
  rw [hs, sgdOf_pc]
@[simp] theorem isSgdRow_sgdF (n : Nat) (l : List Sgd) : IsSgdRow n (sgdF l) := fun _ _ => ⟨_, rfl⟩
@[simp] theorem rowSgd_sgdF (l : List Sgd) : rowSgd l.length (sgdF l) = l := by
  apply List.ext_getElem (by simp)
  intro i h1 h2
  simp only [rowSgd, List.getElem_map, List.getElem_range, sgdF, sgdOf_pc]
  rw [List.getD_eq_getElem?_getD, List.getElem?_eq_getElem h2]
  rfl
def sgOf : PC → Option (Prop × List Sgd)
  | .sl 4 n f => some (IsSgdRow n f, rowSgd n f)
  | .lit (.slice none 0 0) => some (True, [])
  | _ => none
theorem sgOf_ok {C : Ctx} {c : PC} {xs : List Value} {p : Prop} {l : List Sgd} (h : sgOf c = some (p, l)) (hp : p) (hr : R C c xs) : R C (.sl 4 l.length (sgdF l)) xs := by
  unfold sgOf at h
  split at h
  · cases h
    rw [rowSgd_length]
    exact hr.sl_ext (sgdF_row hp)
  · cases h
    cases hr
    exact .sl (Reads.nil _ _) (fun g hg => by simp [Value.ownBlock] at hg) (fun i hi => by simp at hi)
  · cases h
def fewP (l : List Sgd) : Prop := l.length < 9223372036854775807 ∧ ∀ x ∈ l, x.sig.path.length ≤ 1000
def spCheck : Spec := funSpec true fun xs => match xs with
  | [k, .w (.agg [.bs 16 m]), .w (.one c)] => (match asR4 k, sgOf c with
    | some (p, s), some (q, l) => some (p ∧ q ∧ fewP l, pvI (checkS s m l))
    | _, _ => none)
  | _ => none
theorem spCheck_ok {f : Nat} (hent : ∀ args w, (callFunc f args).run Tryz.prog w = .ok (.enter f args) w)
    (h : ∀ s, R4Ok s → ∀ (m : List UInt8) (l : List Sgd), l.length < 9223372036854775807 → (∀ x ∈ l, x.sig.path.length ≤ 1000) → FunOk Tryz.prog ShaMem f true [r4PV s, .w (.agg [.bs 16 m]), pv1 (.sl 4 l.length (sgdF l))] (pvI (checkS s m l))) : SpecOk Tryz.prog ShaMem f spCheck := by
  refine funSpec_ok hent (fun xs p r hg hp => ?_)
  split at hg
  · rename_i k m c
    split at hg
    · rename_i p1 s q l e1 e2
      cases hg
      obtain ⟨h1, h2, h3, h4⟩ := hp
      intro w ok0 vs hI hV
      match vs, hV with
      | [x, y, z], ⟨k1, k2, k3, _⟩ =>
        obtain ⟨j1, j2⟩ := asR4_ok e1 h1 k1
        exact h s j2 m l h3 h4 w ok0 [x, y, z] hI ⟨j1, k2, .w (.one (sgOf_ok e2 h2 k3.inv)), trivial⟩
    · cases hg
  · cases hg
/-! ### The reference's -/
theorem prevM_ge {n : Nat} {l : List Sgd} : ∀ {k : Nat}, (∀ i, i < k → mkStep n l i = true) → -1 ≤ prevM l k := by
  intro k
  induction k with
  | zero => intro _; unfold prevM; rw [if_pos rfl]; omega
  | succ k ih =>
    intro h
    have h1 := ih (fun i hi => h i (by omega))
    have h2 := of_decide_eq_true (h k (by omega))
    unfold prevM
    rw [if_neg (by omega), Nat.add_sub_cancel]
    omega
def rcSt (s : R4) (m : List UInt8) (l : List Sgd) (j k : Nat) : St := ⟨[(2, none, pv1 (.sl 4 l.length (sgdF l))), (3, none, pv1 (.pt 0 0 0)), (4, none, pv1 (.pt 1 0 0)), (j, none, pvI k)],
  [(0, none, 0, .box 70 (r4L s)), (1, none, 0, .box 23 [.bs 16 m])]⟩
set_option maxRecDepth 100000 in
set_option maxHeartbeats 1000000 in
theorem rcheck_fun (s : R4) (hs : R4Ok s) (m : List UInt8) (l : List Sgd) (hl : l.length < 9223372036854775807) (ho : ∀ x ∈ l, x.sig.path.length ≤ 1000) :
    FunOk Tryz.prog ShaMem 56 true [r4PV s, .w (.agg [.bs 16 m]), pv1 (.sl 4 l.length (sgdF l))] (pvI (checkS s m l)) := by
  have M := qu3M
  refine funOk_of Tryz.func56 rfl rfl sha_ext (fun A hS hn hI => ?_)
  refine tri_reg M hI hn (outs := ?_) (s' := ?_) ?_ ?_ ?_ ?_
  rotate_left 2
  · rfl
  · kernel_rfl
  · simp
  refine tri_reg M hI hn (outs := ?_) (s' := ?_) ?_ ?_ ?_ ?_
  rotate_left 2
  · rfl
  · kernel_rfl
  · simp
    exact ⟨hs.a, hs.b, hs.c⟩
  refine tri_seq ?_
  refine tri_reg M hI hn (outs := ?_) (s' := ?_) ?_ ?_ ?_ ?_
  rotate_left 2
  · rfl
  · kernel_rfl
  · simp
  rw [rowD_digF]
  refine tri_cond (b := ?_) ?_ (fun hc => ?_) (fun hc => ?_)
  rotate_left 1
  · rfl
  · refine tri_reg M hI hn (outs := ?_) (s' := ?_) ?_ ?_ ?_ ?_
    rotate_left 2
    · rfl
    · kernel_rfl
    · simp
    refine tri_ret (fun a w hg => ⟨.inr rfl, _, ?_, hg⟩)
    refine retTo_cold (out := ?_) ?_ ?_ ?_ ?_ ?_
    rotate_left 1
    · rfl
    · simp
    · rfl
    · rfl
    have hv : ksValid s = false := by simpa using hc
    unfold checkS
    rw [if_neg (by simp [hv])]
  · have hv : ksValid s = true := by simpa using hc
    refine tri_skip ?_
    change Tri _ _ _ _ _
    refine tri_seq ?_
    refine tri_reg M hI hn (outs := ?_) (s' := ?_) ?_ ?_ ?_ ?_
    rotate_left 2
    · rfl
    · kernel_rfl
    · simp
    refine tri_block ?_
    refine tri_conv (s' := rcSt s m l 8 0) (fun a w hg => (hg.reset (kT := [2, 3, 4, 8]) (kO := [0, 1]) (by rfl) (by simp)).same ?_ ?_) ?_
    · exact .cons rfl (.cons rfl (.cons rfl (.cons rfl .nil)))
    · exact .cons (.box rfl) (.cons (.box rfl) .nil)
    refine tri_loop l.length (fun k t => t = rcSt s m l 8 k ∧ ∀ i, i < k → mkStep s.l.length l i = true) 0 ⟨rfl, fun i hi => by omega⟩ (by omega) (fun k t hJ hk => ?_)
    obtain ⟨rfl, hJ⟩ := hJ
    refine tri_seq ?_
    refine tri_reg M hI hn (outs := ?_) (s' := ?_) ?_ ?_ ?_ ?_
    rotate_left 2
    · rfl
    · kernel_rfl
    · simp
    refine tri_cond (b := ?_) ?_ (fun hc => ?_) (fun hc => ?_)
    rotate_left 1
    · rfl
    · have hk2 : k < l.length := by simpa using hc
      have hpm := prevM_ge hJ
      refine tri_skip ?_
      change Tri _ _ _ _ _
      refine tri_seq ?_
      refine tri_block ?_
      refine tri_seq ?_
      have hidx : 0 < k → max (IntKind.i64.wrap ((k : Int) - 1)) 0 = ((k - 1 : Nat) : Int) := fun h => by rw [IntKind.wrap_i64]; omega
      have hb1 : ∀ b : Bool, (bif decide ((l.getD k default).maker < 0) then true else decide ((l.getD k default).maker ≥ (s.l.length : Int))) = b → (b = true → mkStep s.l.length l k = false) ∧ (b = false → 0 ≤ (l.getD k default).maker ∧ (l.getD k default).maker < (s.l.length : Int)) := fun b hb => by
        subst hb
        unfold mkStep
        by_cases h1 : (l.getD k default).maker < 0
        · simp only [h1, decide_true, cond_true, Bool.true_eq_false, false_implies, and_true, true_implies, decide_eq_false_iff_not]
          omega
        · simp only [h1, decide_false, cond_false, decide_eq_true_eq, decide_eq_false_iff_not]
          omega
      have hb2 : ∀ b : Bool, (0 ≤ (l.getD k default).maker ∧ (l.getD k default).maker < (s.l.length : Int)) → (bif decide ((k : Int) > 0) then decide ((l.getD (max (IntKind.i64.wrap ((k : Int) - 1)) 0).toNat default).maker ≥ (l.getD k default).maker) else false) = b → mkStep s.l.length l k = !b := fun b hr hb => by
        subst hb
        unfold mkStep prevM
        by_cases h1 : 0 < k
        · rw [hidx h1, Int.toNat_natCast, decide_eq_true (show (k : Int) > 0 by omega), if_neg (by omega), cond_true, Bool.eq_iff_iff]
          simp only [decide_eq_true_eq, Bool.not_eq_true', decide_eq_false_iff_not]
          omega
        · rw [decide_eq_false (show ¬ (k : Int) > 0 by omega), if_pos (by omega), cond_false, Bool.eq_iff_iff]
          simp only [decide_eq_true_eq, Bool.not_false, iff_true]
          omega
      have hbad : mkStep s.l.length l k = false → checkS s m l = 1 := fun h => by
        unfold checkS
        rw [if_pos hv, if_neg (show ¬ mksOk s.l.length l = true from not_all hk2 h)]
      refine tri_reg M hI hn (outs := ?_) (s' := ?_) ?_ ?_ ?_ ?_
      rotate_left 2
      · rfl
      · kernel_rfl
      · simp
        exact ⟨hk2, fun _ => hk2⟩
      refine tri_cond (b := ?_) ?_ (fun hc => ?_) (fun hc => ?_)
      rotate_left 1
      · rfl
      · refine tri_reg M hI hn (outs := ?_) (s' := ?_) ?_ ?_ ?_ ?_
        rotate_left 2
        · rfl
        · kernel_rfl
        · simp
        refine tri_ret (fun a w hg => ⟨.inr rfl, _, ?_, hg⟩)
        refine retTo_cold (out := ?_) ?_ ?_ ?_ ?_ ?_
        rotate_left 1
        · rfl
        · simp
        · rfl
        · rfl
        rw [hbad ((hb1 _ hc).1 rfl)]
      · have hrg := (hb1 _ hc).2 rfl
        refine tri_skip ?_
        change Tri _ _ _ _ _
        refine tri_reg M hI hn (outs := ?_) (s' := ?_) ?_ ?_ ?_ ?_
        rotate_left 2
        · rfl
        · kernel_rfl
        · simp
          exact ⟨fun h => by rw [hidx h]; omega, fun _ => hk2⟩
        refine tri_cond (b := ?_) ?_ (fun hc => ?_) (fun hc => ?_)
        rotate_left 1
        · rfl
        · refine tri_reg M hI hn (outs := ?_) (s' := ?_) ?_ ?_ ?_ ?_
          rotate_left 2
          · rfl
          · kernel_rfl
          · simp
          refine tri_ret (fun a w hg => ⟨.inr rfl, _, ?_, hg⟩)
          refine retTo_cold (out := ?_) ?_ ?_ ?_ ?_ ?_
          rotate_left 1
          · rfl
          · simp
          · rfl
          · rfl
          rw [hbad (hb2 _ hrg hc)]
        · have hok := hb2 _ hrg hc
          refine tri_skip ?_
          change Tri _ _ _ _ _
          refine tri_region M hI hn (outs := ?_) (s' := ?_) ?_ ?_ ?_ ?_
          rotate_left 2
          · rfl
          · kernel_rfl
          · simp
          intro a w hg
          refine ⟨k + 1, _, by omega, by omega, ⟨rfl, fun i hi => ?_⟩, (hg.reset (kT := [2, 3, 4, 8]) (kO := [0, 1]) (by rfl) (by simp)).same ?_ ?_⟩
          · rcases Nat.lt_or_ge i k with h | h
            · exact hJ i h
            · obtain rfl : i = k := by omega
              exact hok
          · exact .cons rfl (.cons rfl (.cons rfl (.cons (by rw [wrap_nat k (by omega)]) .nil)))
          · exact .cons (.box rfl) (.cons (.box rfl) .nil)
    · have hkk : k = l.length := by
        have : ¬ k < l.length := by simpa using hc
        omega
      subst hkk
      have hmk : mksOk s.l.length l = true := all_range.2 hJ
      refine tri_exit ?_   -- exit 0
      change Tri _ _ _ _ _
      refine tri_seq ?_
      refine tri_reg M hI hn (outs := ?_) (s' := ?_) ?_ ?_ ?_ ?_
      rotate_left 2
      · rfl
      · kernel_rfl
      · simp
      refine tri_block ?_
      refine tri_conv (s' := rcSt s m l 9 0) (fun a w hg => (hg.reset (kT := [2, 3, 4, 9]) (kO := [0, 1]) (by rfl) (by simp)).same ?_ ?_) ?_
      · exact .cons rfl (.cons rfl (.cons rfl (.cons rfl .nil)))
      · exact .cons (.box rfl) (.cons (.box rfl) .nil)
      refine tri_loop l.length (fun k t => t = rcSt s m l 9 k ∧ ∀ i, i < k → sgStep s m l i = true) 0 ⟨rfl, fun i hi => by omega⟩ (by omega) (fun k t hJ2 hk => ?_)
      obtain ⟨rfl, hJ2⟩ := hJ2
      refine tri_seq ?_
      refine tri_reg M hI hn (outs := ?_) (s' := ?_) ?_ ?_ ?_ ?_
      rotate_left 2
      · rfl
      · kernel_rfl
      · simp
      refine tri_cond (b := ?_) ?_ (fun hc => ?_) (fun hc => ?_)
      rotate_left 1
      · rfl
      · have hk2 : k < l.length := by simpa using hc
        have hmk1 := mks_at hmk hk2
        have hpth := ho _ (getD_mem hk2 default)
        refine tri_skip ?_
        change Tri _ _ _ _ _
        refine tri_seq ?_
        refine tri_block ?_
        refine tri_reg M hI hn (outs := ?_) (s' := ?_) ?_ ?_ ?_ ?_
        rotate_left 2
        · rfl
        · kernel_rfl
        · simp
          simp only [List.getD_eq_getElem?_getD] at hmk1 hpth
          exact ⟨hk2, hmk1, hk2, hpth⟩
        refine tri_reg M hI hn (outs := ?_) (s' := ?_) ?_ ?_ ?_ ?_
        rotate_left 2
        · rfl
        · kernel_rfl
        · simp
        refine tri_cond (b := ?_) ?_ (fun hc => ?_) (fun hc => ?_)
        rotate_left 1
        · rfl
        · refine tri_reg M hI hn (outs := ?_) (s' := ?_) ?_ ?_ ?_ ?_
          rotate_left 2
          · rfl
          · kernel_rfl
          · simp
          refine tri_ret (fun a w hg => ⟨.inr rfl, _, ?_, hg⟩)
          refine retTo_cold (out := ?_) ?_ ?_ ?_ ?_ ?_
          rotate_left 1
          · rfl
          · simp
          · rfl
          · rfl
          rw [rowD_digF, rowD_digF] at hc
          have h : (!sgStep s m l k) = true := hc
          have hw : sgStep s m l k = false := by simpa using h
          unfold checkS
          rw [if_pos hv, if_pos hmk, if_neg (show ¬ sgsOk s m l = true from not_all hk2 hw)]
        · rw [rowD_digF, rowD_digF] at hc
          have h : (!sgStep s m l k) = false := hc
          have hw : sgStep s m l k = true := by simpa using h
          clear h hc
          refine tri_skip ?_
          change Tri _ _ _ _ _
          refine tri_region M hI hn (outs := ?_) (s' := ?_) ?_ ?_ ?_ ?_
          rotate_left 2
          · rfl
          · kernel_rfl
          · simp
          intro a w hg
          refine ⟨k + 1, _, by omega, by omega, ⟨rfl, fun i hi => ?_⟩, (hg.reset (kT := [2, 3, 4, 9]) (kO := [0, 1]) (by rfl) (by simp)).same ?_ ?_⟩
          · rcases Nat.lt_or_ge i k with h | h
            · exact hJ2 i h
            · obtain rfl : i = k := by omega
              exact hw
          · exact .cons rfl (.cons rfl (.cons rfl (.cons (by rw [wrap_nat k (by omega)]) .nil)))
          · exact .cons (.box rfl) (.cons (.box rfl) .nil)
      · have hkk : k = l.length := by
          have : ¬ k < l.length := by simpa using hc
          omega
        subst hkk
        have hsg : sgsOk s m l = true := all_range.2 hJ2
        refine tri_exit ?_   -- exit 2
        change Tri _ _ _ _ _
        refine tri_seq ?_
        refine tri_reg M hI hn (outs := ?_) (s' := ?_) ?_ ?_ ?_ ?_
        rotate_left 2
        · rfl
        · kernel_rfl
        · simp
        refine tri_cond (b := ?_) ?_ (fun hc => ?_) (fun hc => ?_)
        rotate_left 1
        · rfl
        · refine tri_reg M hI hn (outs := ?_) (s' := ?_) ?_ ?_ ?_ ?_
          rotate_left 2
          · rfl
          · kernel_rfl
          · simp
          refine tri_ret (fun a w hg => ⟨.inr rfl, _, ?_, hg⟩)
          refine retTo_cold (out := ?_) ?_ ?_ ?_ ?_ ?_
          rotate_left 1
          · rfl
          · simp
          · rfl
          · rfl
          have hlt : (l.length : Int) < s.b := by simpa using hc
          unfold checkS
          rw [if_pos hv, if_pos hmk, if_pos hsg, if_pos hlt]
        · refine tri_skip ?_
          change Tri _ _ _ _ _
          refine tri_reg M hI hn (outs := ?_) (s' := ?_) ?_ ?_ ?_ ?_
          rotate_left 2
          · rfl
          · kernel_rfl
          · simp
          refine tri_ret (fun a w hg => ⟨.inr rfl, _, ?_, hg⟩)
          refine retTo_cold (out := ?_) ?_ ?_ ?_ ?_ ?_
          rotate_left 1
          · rfl
          · simp
          · rfl
          · rfl
          have hlt : ¬ (l.length : Int) < s.b := by simpa using hc
          unfold checkS
          rw [if_pos hv, if_pos hmk, if_pos hsg, if_neg hlt]

end Go.Proofs.YtplkplegjoabgaaGreatDoor.Pv

/-
  Opening the arguments of the laws of quorums.
-/
namespace Go.Proofs.YtplkplegjoabgaaGreatDoor.Pv
open Go.ChangeShapes Go.WideShapes Go.ChangeAt Go.RowKit Go.Joins Go.Deep

section
variable {H : Type} {enc : TypeId × Value → H} {w : World} {base : Nat} {spare : Nat → Bool} {held : Bool}
theorem int_in {z : Int} (hw : (Lit.int .i64 z).wf = true) : i64P z := by
  have hb := bounds_i64 hw
  exact ⟨hb.1, by have := hb.2; omega⟩
theorem trod_sig6 {fuel : Nat} {cs : List Value} {x : DataW H × List MemPlace} (h : DataW.trod enc Tryz.prog w base spare held fuel 32 cs = some x) : ∃ s : Sig, RL (argX w) (sigPC s) cs := by
  obtain ⟨hfl, hf⟩ := trod_split (ns := [1, 1, 1]) Tryz.underlying32 (by kernel_rfl) (by kernel_rfl) h
  obtain ⟨m0, y0, t0⟩ := hf 0 _ rfl
  obtain ⟨m1, y1, t1⟩ := hf 1 _ rfl
  obtain ⟨m2, y2, t2⟩ := hf 2 _ rfl
  have hcs : cs = (splitBy [1, 1, 1] cs).getD 0 [] ++ ((splitBy [1, 1, 1] cs).getD 1 [] ++ ((splitBy [1, 1, 1] cs).getD 2 [] ++ [])) := hfl.symm
  obtain ⟨z, e0, _, hw⟩ := DataW.trod_int Tryz.underlying3 t0
  obtain ⟨v1, l1, e1, r1, b1⟩ := trod_digs t1
  obtain ⟨v2, l2, e2, r2, b2⟩ := trod_digs t2
  rw [e0, e1, e2] at hcs
  refine ⟨⟨z, l1, l2⟩, ?_⟩
  rw [hcs]
  exact .cons (xs := [_]) (.lit rfl) (.cons (xs := [_]) r1 (.cons (xs := [_]) r2 .nil))
theorem trod_sgd6 {fuel : Nat} {cs : List Value} {x : DataW H × List MemPlace} (h : DataW.trod enc Tryz.prog w base spare held fuel 120 cs = some x) : ∃ s : Sgd, RL (argX w) (sgdPC s) cs := by
  obtain ⟨hfl, hf⟩ := trod_split (ns := [1, 3]) Tryz.underlying120 (by kernel_rfl) (by kernel_rfl) h
  obtain ⟨m0, y0, t0⟩ := hf 0 _ rfl
  obtain ⟨m1, y1, t1⟩ := hf 1 _ rfl
  have hcs : cs = (splitBy [1, 3] cs).getD 0 [] ++ ((splitBy [1, 3] cs).getD 1 [] ++ []) := hfl.symm
  obtain ⟨z, e0, _, hw⟩ := DataW.trod_int Tryz.underlying3 t0
  obtain ⟨s, r1⟩ := trod_sig6 t1
  rw [e0, List.append_nil] at hcs
  refine ⟨⟨z, s⟩, ?_⟩
  rw [hcs]
  exact .cons (xs := [_]) (.lit rfl) r1
theorem trod_sgds {fuel : Nat} {cs : List Value} {x : DataW H × List MemPlace} (h : DataW.trod enc Tryz.prog w base spare held fuel 73 cs = some x) : ∃ (v : Value) (l : List Sgd), cs = [v] ∧ R (argX w) (.sl 4 l.length (sgdF l)) [v] := by
  obtain ⟨v, n, E, m, Y, rfl, hr, hE⟩ := trod_reads (k := 4) Tryz.underlying73 (by kernel_rfl) (by omega) h
  have hc : ∀ i, ∃ s : Sgd, i < n → RL (argX w) (sgdPC s) (E i) := fun i => by
    by_cases hi : i < n
    · obtain ⟨s, hs⟩ := trod_sgd6 (hE i hi).2
      exact ⟨s, fun _ => hs⟩
    · exact ⟨default, fun h => absurd h hi⟩
  obtain ⟨S, hS⟩ := Classical.axiomOfChoice hc
  refine ⟨v, (List.range n).map S, rfl, ?_⟩
  rw [List.length_map, List.length_range]
  refine .sl hr (fun b hb hlt => ⟨trivial, hr.own_lt (by omega) hlt b hb⟩) (fun i hi => ?_)
  rw [flat_win E 4 (List.range n) (fun a ha => (hE a (List.mem_range.1 ha)).1) i (by simpa using hi)]
  have := hS i hi
  unfold sgdF
  rw [getD_map_range n i S hi, List.getElem_range]
  exact this
end
section
variable {H : Type} {enc : TypeId × Value → H} {v : Value} {d : DataW H} {p : List MemPlace} {W : World} {base : Nat}
set_option maxRecDepth 100000 in
theorem open_sgds (hv : Value.okWide Tryz.prog W .any base 73 v) (h : DataW.Trod enc Tryz.prog W 0 (fun _ => true) true 73 v d p) :
    ∃ l : List Sgd, RV (argX W) (pv1 (.sl 4 l.length (sgdF l))) v := by
  obtain ⟨A2, len2, cap2, rfl⟩ := okWide_slice Tryz.underlying73 hv
  obtain ⟨m2, h⟩ := h
  obtain ⟨v, l, hl, hp⟩ := trod_sgds h
  simp [Value.cells] at hl
  subst hl
  exact ⟨l, .w (.one hp)⟩
set_option maxRecDepth 100000 in
theorem open_u8 (hv : Value.okWide Tryz.prog W .any base 5 v) (h : DataW.Trod enc Tryz.prog W 0 (fun _ => true) true 5 v d p) : ∃ n : Nat, n ≤ 255 ∧ v = .int .u8 (n : Int) := by
  obtain ⟨z, rfl, _, _, hz⟩ := open_int Tryz.underlying5 hv h
  have hb : 0 ≤ z ∧ z ≤ 255 := by
    simp [Lit.wf, IntKind.min, IntKind.max, IntKind.signed, IntKind.bits] at hz
    omega
  obtain ⟨n, rfl⟩ : ∃ n : Nat, z = (n : Int) := ⟨z.toNat, by omega⟩
  exact ⟨n, by omega, rfl⟩
set_option maxRecDepth 100000 in
theorem open_ks (hv : Value.okWide Tryz.prog W .any base 70 v) (h : DataW.Trod enc Tryz.prog W 0 (fun _ => true) true 70 v d p) :
    ∃ s : R4, R4Ok s ∧ RV (argX W) (r4PV s) v := by
  obtain ⟨cs, rfl, hfl, hf⟩ := open_parts (ns := [1, 1, 1, 1]) Tryz.underlying70 (by kernel_rfl) (by kernel_rfl) hv h
  obtain ⟨m0, y0, t0⟩ := hf 0 _ rfl
  obtain ⟨m1, y1, t1⟩ := hf 1 _ rfl
  obtain ⟨m2, y2, t2⟩ := hf 2 _ rfl
  obtain ⟨m3, y3, t3⟩ := hf 3 _ rfl
  have hcs : cs = (splitBy [1, 1, 1, 1] cs).getD 0 [] ++ ((splitBy [1, 1, 1, 1] cs).getD 1 [] ++ ((splitBy [1, 1, 1, 1] cs).getD 2 [] ++ ((splitBy [1, 1, 1, 1] cs).getD 3 [] ++ []))) := hfl.symm
  obtain ⟨a, e0, _, h0⟩ := DataW.trod_int Tryz.underlying3 t0
  obtain ⟨b, e1, _, h1⟩ := DataW.trod_int Tryz.underlying3 t1
  obtain ⟨c, e2, _, h2⟩ := DataW.trod_int Tryz.underlying3 t2
  obtain ⟨v3, l, e3, r3, b3⟩ := trod_digs t3
  rw [e0, e1, e2, e3] at hcs
  refine ⟨⟨a, b, c, l⟩, ⟨int_in h0, int_in h1, int_in h2, b3⟩, ?_⟩
  rw [hcs]
  exact .w (.agg (.cons (xs := [_]) (.lit rfl) (.cons (xs := [_]) (.lit rfl) (.cons (xs := [_]) (.lit rfl) (.cons (xs := [_]) r3 .nil)))))
end

end Go.Proofs.YtplkplegjoabgaaGreatDoor.Pv

/-
  The abstract machine: functions that hand out a row of their own whose elements hold slices. Plain: no function of the program is named here.
-/
namespace Go.Proofs.YtplkplegjoabgaaGreatDoor.Pv
open Go.RowKit

def resC (w : World) (ok0 : Nat → Prop) (base : Nat) (val : Value) : Ctx := { w := w, ok := fun b => (ok0 b ∨ base ≤ b) ∧ hblk val ≠ some b, env := fun _ => none }
/-- A function's contract: it returns a row of its own, whose elements may hold frozen slices. -/
def FunRowS (P : Program) (I : World → Prop) (f : Nat) (args : List PV) (e n len : Nat) (f' : Nat → List PC) : Prop :=
  ∀ (w : World) (ok0 : Nat → Prop) (vs : List Value), I w → Vals { w, ok := ok0, env := fun _ => none } args vs →
    Calls P f vs.toArray w fun r w' => ∃ val xs, r = .returned val ∧ Ext w w' ∧ w'.ownsRow w.heap.size e n val len xs ∧ ∀ i, i < len → RL (resC w' ok0 w.heap.size val) (f' i) ((xs.drop (i * n)).take n)
def RowToS (P : Program) (fn : Func) (e n len : Nat) (f' : Nat → List PC) (s : St) : Prop :=
  ∃ x ver g f, (retM P fn.results).ok none s (fun _ v' wr => v' = pv1 (.ow x ver n 0 len) ∧ wr = []) ∧ find s.o x = some (g, ver, .arr e n len f) ∧ gT g ∧ ∀ i, i < len → f i = f' i ∧ (f' i).all (coldPC false) = true
def RQRS (P : Program) (A : Amb) (fn : Func) (e n len : Nat) (f' : Nat → List PC) : Exit → Act → World → Prop
  | .panic chain, a, w => a.defers = [] ∧ PanG A chain w
  | x, a, w => (x = .normal ∨ x = .ret) ∧ ∃ s, RowToS P fn e n len f' s ∧ Gam A s a w
theorem rowToS_of {P : Program} {fn : Func} {e n len x ver : Nat} {g : Option Bool} {f f' : Nat → List PC} {s : St} {out : Out} (h : (retM P fn.results).exec none s [] [] [] [] = some out) (hc : All out.conds) (hw : out.wr = []) (hx : out.val = pv1 (.ow x ver n 0 len)) (hf : find s.o x = some (g, ver, .arr e n len f)) (hg : gT g) (hff : ∀ i, i < len → f i = f' i ∧ (f' i).all (coldPC false) = true) : RowToS P fn e n len f' s := by
  rw [exec_nil] at h
  exact ⟨x, ver, g, f, M.ok_of_run _ none s out _ h (fun p hp => hc.mem p hp) ⟨hx, hw⟩, hf, hg, hff⟩
theorem funRowS_of {P : Program} {I : World → Prop} {f : Nat} {fn : Func} {c : Code} {args : List PV} {e n len : Nat} {f' : Nat → List PC} (hf : P.funcs[f]? = some fn) (hb : fn.body = some c) (hnb : Nat.ble args.length fn.ntmps = true) (hI : ∀ w w', Ext w w' → I w → I w')
    (hT : ∀ A : Amb, A.S = Non → A.nt = fn.ntmps → AmbOk P I A → Tri P A ⟨slots 0 args, []⟩ c (RQRS P A fn e n len f')) (hmk : Nat.blt e mkT = true := by rfl) : FunRowS P I f args e n len f' := by
  intro w ok0 vs hIw hv
  have hn := Nat.le_of_ble_eq_true hnb
  have hlen := hv.length
  have hg : Gam (Amb.plain w ok0 fn.ntmps) ⟨slots 0 args, []⟩ { tmps := vs.toArray ++ Array.replicate (fn.ntmps - vs.toArray.size) undef, defers := [] } w := by
    refine ⟨fun _ => none, { chg := Chg.refl _ _, size := ?_, dom := fun x _ => rfl, objs := fun x g ver o h => (by cases h), live := fun x ver hd b h => (by cases h), inj := fun x y v1 h1 v2 h2 b h => (by cases h), tmps := fun t g pv h hgt => ?_, defers := rfl, und := fun t pv h => (by obtain ⟨k, _, h2⟩ := find_slotsG h; cases h2), exts := fun x hd h => (by cases h), dev := fun g ver O stp l h => (by cases h) }⟩
    · simp [Amb.plain]; omega
    · obtain ⟨k, h1, h2⟩ := find_slots h
      obtain ⟨v, h3, h4⟩ := hv.at h2
      rw [Nat.zero_add] at h1
      subst h1
      have hk : t < vs.length := (List.getElem?_eq_some_iff.1 h3).1
      refine ⟨v, ?_, ?_⟩
      · rw [Array.getElem?_append_left (by simpa using hk)]
        simpa using h3
      · refine h4.le ⟨Nat.le_refl _, fun b _ hb => ⟨⟨.inl hb, fun _ _ _ h => by cases h⟩, rfl⟩, fun _ _ _ h => by cases h⟩
  refine calls_of_wp hf hb (wp_mono (hT (Amb.plain w ok0 fn.ntmps) rfl rfl (AmbOk.plain fun w' hc => hI w w' hc hIw) _ w hg (fun _ _ _ hd h => ⟨hd, h⟩)) (fun x a' w' he => ?_))
  have he' : (x = .normal ∨ x = .ret) ∧ ∃ s, RowToS P fn e n len f' s ∧ Gam (Amb.plain w ok0 fn.ntmps) s a' w' := by
    cases x with
    | panic chain => obtain ⟨_, l, hl, _⟩ := he; exact hl.elim
    | _ => exact he
  obtain ⟨h1, s, ⟨x0, ver, g, f0, h2, hfo, hgt, hff⟩, h4⟩ := he'
  obtain ⟨env, hE⟩ := h4
  obtain ⟨v', val, h5, h6, h7, _⟩ := retM_ok hE h2
  subst h7
  obtain ⟨hd, hev, hob⟩ := obj_at hE hfo hgt
  obtain ⟨A0, n0, c0, rfl, hle0, rfl⟩ := h6.ow_inv hev
  obtain ⟨xs, hown, hel⟩ := hob
  have hn0 : n0 = len := by
    obtain ⟨_, A1, c1, e1, _⟩ := Reads.of_ownX hown
    cases e1; rfl
  have hown := hown.plain hmk
  subst hn0
  have hA : A0.map (fun p => p.add (0 * n)) = A0 := by
    cases A0 with
    | none => rfl
    | some ad => simp [Addr.add]
  have hown2 : w'.ownsRow w.heap.size e n (.slice A0 n0 c0) n0 xs := ⟨hown.1, hown.2.imp id (fun ⟨g, cap, cur, h1, _, h3⟩ => ⟨g, cap, cur, h1, by
    have := (hE.live x0 ver _ g hev (by rw [h1]; rfl)).2
    exact this.resolve_right (fun h => h), h3⟩)⟩
  have this : a'.defers = [] ∧ ∃ v, (results fn a'.tmps).run P w' = .ok v w' ∧ ∃ val xs, Ending.returned v = .returned val ∧ Ext w w' ∧ w'.ownsRow w.heap.size e n val n0 xs ∧ ∀ i, i < n0 → RL (resC w' ok0 w.heap.size val) (f' i) ((xs.drop (i * n)).take n) := by
    refine ⟨hE.defers, _, h5, _, xs, rfl, hE.chg, ?_, fun i hi => ?_⟩
    · first | exact hown2 | (simp only [Nat.zero_mul, Nat.sub_zero] at hA ⊢; rw [hA]; exact hown2)
    · have h8 := hel i hi
      rw [(hff i hi).1] at h8
      refine (coldPL_le h8 (hff i hi).2).le ⟨Nat.le_refl _, fun b _ ho => ⟨⟨ho.1, fun e => ho.2 x0 ver _ hev ?_⟩, rfl⟩, fun _ _ _ h => by cases h⟩
      simp only [Nat.zero_mul, Nat.sub_zero] at hA e
      rw [hA] at e
      exact e
  rcases h1 with rfl | rfl <;> exact this

section
variable {P : Program} {I : World → Prop} {A : Amb} {s : St} {a : Act} {w : World} {env : Env}
theorem GamE.new_ownS (h : GamE A s a w env) (nm : Nat) (e n len : Nat) {f : Nat → List PC} {v : Value} {xs : List Value} {w' : World} (hE : Ext w w') (ho : w'.ownsRow w.heap.size e n v len xs) (hr : ∀ i, i < len → RL (resC w' (ctxOf A w env).ok w.heap.size v) (f i) ((xs.drop (i * n)).take n)) :
    ∃ env', GamE A { s with o := [(nm, none, fresh s nm, .arr e n len f)] ++ s.o } a w' env' ∧ RV (ctxOf A w' env') (pv1 (.ow nm (fresh s nm) n 0 len)) v := by
  have ho0 : w'.ownsRow 0 e n v len xs := ⟨ho.1, ho.2.imp id (fun ⟨g, cap, cur, h1, _, h3⟩ => ⟨g, cap, cur, h1, Nat.zero_le _, h3⟩)⟩
  obtain ⟨A0, c0, rfl⟩ := own_slice ho
  obtain ⟨h1, h2⟩ := h.new (w' := w') nm none (.slice A0 len c0) (.arr e n len f) hE (fun b hb => by
      have hb' : (Value.slice A0 len c0).ownBlock = some b := by cases A0 <;> exact hb
      exact ⟨(ho.lt b hb').2, (ho.lt b hb').1⟩)
    (fun hle _ => ⟨xs, ownX_of ho0, fun i hi => (hr i hi).le ⟨Nat.le_refl _, fun b hb hok => ⟨by
      obtain ⟨hq, hne⟩ := hok
      rcases Nat.lt_or_ge b w.heap.size with hlt | hge
      · rcases hq with hq | hq
        · exact (hle.blk b hlt hq).1
        · omega
      · refine ⟨.inr (Nat.le_trans h.chg.size hge), fun x ver hd he hbl => ?_⟩
        by_cases hx : x = nm
        · subst hx
          rw [updE_eq] at he
          cases he
          exact hne hbl
        · rw [updE_ne hx] at he
          have := (h.live x ver hd b he hbl).1
          omega, rfl⟩, fun _ _ _ h => by cases h⟩⟩)
  refine ⟨_, h1, .w (.one (.ow ⟨_, _, rfl⟩ ⟨_, _, updE_eq _ _ _ _, Nat.le_refl _, fun _ => ⟨_, _, _, rfl, by omega, ?_⟩⟩))⟩
  cases A0 with
  | none => simp
  | some ad => simp [Addr.add]
/-- The specification of such a function. -/
def rowSpecS (g : List PV → Option (Prop × Nat × Nat × Nat × (Nat → List PC))) : Spec := fun nm xs => match xs.all isColdV, g xs with
  | true, some (p, e, n, len, f) => .need p (.new nm (.arr e n len f) fun v => .ret (pv1 (.ow nm v n 0 len)))
  | _, _ => .fail
theorem rowSpecS_ok {f : Nat} {g : List PV → Option (Prop × Nat × Nat × Nat × (Nat → List PC))} (hent : ∀ args w, (callFunc f args).run P w = .ok (.enter f args) w) (hg : ∀ xs p e n len f', g xs = some (p, e, n, len, f') → p → FunRowS P I f xs e n len f') : SpecOk P I f (rowSpecS g) := by
  refine ⟨hent, fun A s a w env nm pvs vs F h hI hv hk => ?_⟩
  unfold rowSpecS at hk
  cases hc : pvs.all isColdV <;> cases hq : g pvs <;> simp only [hc, hq] at hk <;> try exact hk.elim
  rename_i q
  obtain ⟨p, e, n, len, f'⟩ := q
  obtain ⟨hp, hk⟩ := hk
  refine (hg pvs p e n len f' hq hp w (ctxOf A w env).ok vs (hI.mem w h.chg) (coldVs_le hv hc)).mono ?_
  rintro r w' ⟨val, xs, rfl, hE, ho, hr⟩
  obtain ⟨env', h3, h4⟩ := h.new_ownS nm e n len (f := f') hE ho hr
  exact .inl ⟨_, _, _, env', rfl, hk, h3, h4⟩
end

end Go.Proofs.YtplkplegjoabgaaGreatDoor.Pv
