/-
  Several texts in one file: each has its own heading below.
-/
import Derived.Test.YtihghljfmlbfhaaDoorTqD
import Derived.Deep.LoopGhost


namespace Go.Proofs.YtihghljfmlbfhaaDoor.Pv
open Go.RowKit
def Tri (P : Program) (A : Amb) (s : St) (c : Code) (Q : Exit → Act → World → Prop) : Prop := ∀ a w, Gam A s a w → PanQ A Q → c.wp P Q a w
def Aft (A : Amb) (s : St) (Q : Act → World → Prop) : Prop := ∀ a w, Gam A s a w → Q a w
def Nxt (P : Program) (A : Amb) (c : Code) (Q : Exit → Act → World → Prop) : Act → World → Prop := fun a w => PanQ A Q → c.wp P Q a w
structure Mach (P : Program) (I : World → Prop) (G : Specs) : Prop where
  specs : SpecsOk P I G
  mixed : P.follows .mixedOrders = true
def dstsB (nt : Nat) (l : List Oper) : Bool := l.all fun o => match o.dst with
  | some d => Nat.blt d nt
  | none => true
def freshK (s : St) (x : Nat) (k : Nat → Option Out) : Option Out := match find s.o x with
  | some (_, vr, _) => k (vr + 1)
  | none => k 0
theorem freshK_eq (s : St) (x : Nat) (k : Nat → Option Out) : freshK s x k = k (fresh s x) := by
  unfold freshK fresh
  cases find s.o x with
  | none => rfl
  | some p => rfl
def M.exec : M → Option Bool → St → List Prop → List Nat → List Nat → Wr → Option Out
  | .ret v, h, _, c, rt, ro, wr => some ⟨h, v, c, rt, ro, wr⟩
  | .fail, _, _, _, _, _, _ => none
  | .need p k, h, s, c, rt, ro, wr => k.exec h s (c ++ [hP h p]) rt ro wr
  | .tmp t k, h, s, c, rt, ro, wr => match find s.t t with
    | some (g, v) => (k g v).exec h s c (rt ++ [t]) ro wr
    | none => none
  | .obj x k, h, s, c, rt, ro, wr => match find s.o x with
    | some (g, vr, ob) => (k g vr ob).exec h s c rt (ro ++ [x]) wr
    | none => none
  | .new x ob k, h, s, c, rt, ro, wr => freshK s x fun v => (k v).exec h s c rt (ro ++ [x]) (wr ++ [(x, h, v, ob)])
  | .upd x vr ob k, h, s, c, rt, ro, wr => match h with
    | none => k.exec none s c rt ro (wr ++ [(x, none, vr, ob)])
    | some _ => none
  | .gate b k, h, s, c, rt, ro, wr => match h with
    | none => k.exec (some b) s c rt ro wr
    | some _ => none
def addTo (c : List Prop) (rt ro : List Nat) (wr : Wr) (o : Out) : Out := ⟨o.g, o.val, c ++ o.conds, rt ++ o.rt, ro ++ o.ro, wr ++ o.wr⟩
theorem exec_eq : ∀ (m : M) (h : Option Bool) (s : St) (c : List Prop) (rt ro : List Nat) (wr : Wr), m.exec h s c rt ro wr = (m.run h s).map (addTo c rt ro wr) := by
  intro m
  induction m with
  | ret v => intro h s c rt ro wr; simp [M.exec, M.run, addTo]
  | fail => intro h s c rt ro wr; rfl
  | need p k ih => intro h s c rt ro wr; rw [M.exec, M.run, ih]; cases k.run h s <;> simp [addTo]
  | tmp t k ih =>
    intro h s c rt ro wr
    rw [M.exec, M.run]
    cases find s.t t with
    | none => rfl
    | some p => obtain ⟨g, v⟩ := p; dsimp only; rw [ih]; cases (k g v).run h s <;> simp [addTo]
  | obj x k ih =>
    intro h s c rt ro wr
    rw [M.exec, M.run]
    cases find s.o x with
    | none => rfl
    | some p => obtain ⟨g, vr, ob⟩ := p; dsimp only; rw [ih]; cases (k g vr ob).run h s <;> simp [addTo]
  | new x ob k ih => intro h s c rt ro wr; rw [M.exec, M.run, freshK_eq, ih]; cases (k (fresh s x)).run h s <;> simp [addTo]
  | upd x vr ob k ih =>
    intro h s c rt ro wr
    cases h with
    | some b => rfl
    | none => rw [M.exec, M.run, ih]; cases k.run none s <;> simp [addTo]
  | gate b k ih =>
    intro h s c rt ro wr
    cases h with
    | some b => rfl
    | none => rw [M.exec, M.run, ih]
theorem exec_nil (m : M) (h : Option Bool) (s : St) : m.exec h s [] [] [] [] = m.run h s := by
  rw [exec_eq]
  cases m.run h s <;> simp [addTo]
def pushW {α : Type} : Wr → Wr → (Wr → α) → α
  | [], o, k => k o
  | p :: l, o, k => pushW l o fun r => k (p :: r)
theorem pushW_eq {α : Type} : ∀ (l o : Wr) (k : Wr → α), pushW l o k = k (l ++ o)
  | [], _, _ => rfl
  | p :: l, o, k => by rw [pushW, pushW_eq l]; rfl
def appK {α : Type} (d : Option Nat) (out : Out) (s : St) (k : St → α) : α := match out, s with
  | ⟨g, v, _, _, _, wr⟩, ⟨t, o⟩ => pushW wr o fun o' => match d with
    | some d => k ⟨(d, g, v) :: t, o'⟩
    | none => k ⟨t, o'⟩
theorem appK_eq {α : Type} (d : Option Nat) (out : Out) (s : St) (k : St → α) : appK d out s k = k (app d out s) := by
  obtain ⟨g, v, c, rt, ro, wr⟩ := out
  obtain ⟨t, o⟩ := s
  unfold appK
  dsimp only
  rw [pushW_eq]
  cases d <;> rfl
def runOpsX (mop : Nat → Oper → M) : Nat → List Oper → St → Option (List (Option Nat × Out) × St)
  | _, [], s => some ([], s)
  | i, o :: l, s => match (mop i o).exec none s [] [] [] [] with
    | some out => appK o.dst out s fun s1 => (match runOpsX mop (i + 1) l s1 with
      | some (outs, s') => some ((o.dst, out) :: outs, s')
      | none => none)
    | none => none
theorem runOpsX_eq (mop : Nat → Oper → M) : ∀ (l : List Oper) (i : Nat) (s : St), runOpsX mop i l s = runOps mop i l s
  | [], _, _ => rfl
  | o :: l, i, s => by
    rw [runOpsX, runOps, exec_nil]
    cases (mop i o).run none s with
    | none => rfl
    | some out =>
      dsimp only
      rw [appK_eq, runOpsX_eq mop l]
      rfl
def All : List Prop → Prop
  | [] => True
  | p :: l => p ∧ All l
theorem All.mem : ∀ {l : List Prop}, All l → ∀ p ∈ l, p
  | [], _, p, h => by cases h
  | q :: l, ⟨h1, h2⟩, p, h => by
    rcases List.mem_cons.1 h with rfl | h
    · exact h1
    · exact h2.mem p h
section
variable {P : Program} {I : World → Prop} {G : Specs} {A : Amb} {s s' : St} {Q : Exit → Act → World → Prop}
theorem tri_region (M : Mach P I G) (hI : AmbOk P I A) {nt : Nat} (hnt : A.nt = nt) {rid : Nat} {ops : Array Oper} {draw : Bool} {outs : List (Option Nat × Out)} (h : runOpsX (mopOf P G rid ops.toList) 0 ops.toList s = some (outs, s')) (hcl : (clashDraw draw ops.toList outs && dstsB nt ops.toList) = true) (hc : All ((outs.map fun q => q.2.conds).flatten)) (hQ : Aft A s' (Q .normal)) : Tri P A s (.region rid ops draw) Q := by
  intro a w hg hPQ
  subst hnt
  rw [runOpsX_eq] at h
  rw [Bool.and_eq_true] at hcl
  refine wp_region_pv (ops_ok M.specs hI hPQ rid ops (fun i o d ho hd => ?_)) (gam_finds A) (fun s a w h => h.drew) M.mixed h (fun q hq p hp => hc.mem p (List.mem_flatten.2 ⟨_, List.mem_map.2 ⟨q, hq, rfl⟩, hp⟩)) hcl.1 hg (fun a' w' hg' => hQ a' w' hg')
  have := List.all_eq_true.1 hcl.2 o (by rw [← Array.getElem?_toList] at ho; exact List.mem_of_getElem? ho)
  rw [hd] at this
  have h3 : d + 1 ≤ A.nt := by simpa [Nat.blt] using this
  exact h3
theorem tri_seq {x y : Code} (h : Tri P A s x (Exit.then (Nxt P A y Q) Q)) : Tri P A s (.seq x y) Q := fun a w hg hPQ =>
  wp_seq (wp_mono (h a w hg hPQ) (fun e a' w' he => by
    cases e <;> first | exact he | exact he hPQ))
theorem tri_reg (M : Mach P I G) (hI : AmbOk P I A) {nt : Nat} (hnt : A.nt = nt) {rid : Nat} {ops : Array Oper} {draw : Bool} {outs : List (Option Nat × Out)} {y : Code} (h : runOpsX (mopOf P G rid ops.toList) 0 ops.toList s = some (outs, s')) (hcl : (clashDraw draw ops.toList outs && dstsB nt ops.toList) = true) (hc : All ((outs.map fun q => q.2.conds).flatten)) (hQ : Tri P A s' y Q) : Tri P A s (.seq (.region rid ops draw) y) Q :=
  tri_seq (tri_region M hI hnt h hcl hc (fun a w hg => hQ a w hg))
def condOf (s : St) (c : Operand) : Option Bool := match c with
  | .tmp t => (match find s.t t with
    | some (none, .w (.one (.lit (.bool b)))) => some b
    | _ => none)
  | _ => none
theorem tri_skip (h : Aft A s (Q .normal)) : Tri P A s .skip Q := fun a w hg _ => wp_skip (h a w hg)
theorem tri_exit {id : Nat} (h : Aft A s (Q (.exit id))) : Tri P A s (.exit id) Q := fun a w hg _ => wp_exit (h a w hg)
theorem tri_ret (h : Aft A s (Q .ret)) : Tri P A s .ret Q := fun a w hg _ => wp_ret (h a w hg)
theorem tri_block {id : Nat} {c : Code} (h : Tri P A s c (Exit.inBlock id Q)) : Tri P A s (.block id c) Q := fun a w hg hPQ => wp_block (h a w hg hPQ)
theorem tri_cond {c : Operand} {x y : Code} {b : Bool} (hc : condOf s c = some b) (h1 : b = true → Tri P A s x Q) (h2 : b = false → Tri P A s y Q) : Tri P A s (.cond c x y) Q := fun a w hg hPQ => by
  obtain ⟨env, hE⟩ := hg
  have hv : a.eval c = .bool b := by
    cases c with
    | tmp t =>
      unfold condOf at hc
      dsimp only at hc
      split at hc
      · rename_i b' hf
        cases hc
        obtain ⟨v, h3, h4⟩ := hE.tmps t none _ hf trivial
        have := h4.bool_inv
        subst this
        simp only [Act.eval]
        rw [Array.getD_eq_getD_getElem?, h3]
        rfl
      · cases hc
    | _ => cases hc
  refine wp_cond hv ?_
  cases b with
  | true => exact h1 rfl a w ⟨env, hE⟩ hPQ
  | false => exact h2 rfl a w ⟨env, hE⟩ hPQ
theorem tri_conv {c : Code} (h : ∀ a w, Gam A s a w → Gam A s' a w) (hT : Tri P A s' c Q) : Tri P A s c Q := fun a w hg hPQ => hT a w (h a w hg) hPQ
theorem tri_loop {c : Code} (n : Nat) (J : Nat → St → Prop) (k0 : Nat) (h0 : J k0 s) (hk : k0 ≤ n)
    (round : ∀ k s, J k s → k ≤ n → Tri P A s c (Exit.then (fun a w => ∃ k' s', k < k' ∧ k' ≤ n ∧ J k' s' ∧ Gam A s' a w) Q)) : Tri P A s (.loop c) Q := fun a w hg hPQ => by
  refine wp_loop_ghost (fun m a w => ∃ k s, m = n - k ∧ k ≤ n ∧ J k s ∧ Gam A s a w) (n - k0) ⟨k0, s, rfl, hk, h0, hg⟩ (fun m a w hm => ?_)
  obtain ⟨k, s, rfl, hkn, hJ, hg⟩ := hm
  refine wp_mono (round k s hJ hkn a w hg hPQ) (fun e a' w' he => ?_)
  cases e <;> first | exact he | skip
  obtain ⟨k', s', h1, h2, h3, h4⟩ := he
  exact ⟨n - k', by omega, k', s', rfl, h2, h3, h4⟩
def resS (tmps : Array Value) (r : ResultVar) : Sem Value := match r with
  | .tmp t => pure (tmps.getD t undef)
  | .cell b t => do loadVar t (← asAddr (tmps.getD b undef))
theorem results_eq (fn : Func) (tmps : Array Value) : results fn tmps = (do let vs ← fn.results.mapM (resS tmps); pure (if h : vs.size = 1 then vs[0] else .tuple vs)) := by
  unfold results
  congr 1
theorem resM_ok {a : Act} {w : World} {env : Env} (h : GamE A s a w env) {F : Option Bool → PV → Wr → Prop} : ∀ {rs : List ResultVar} {k : List PW → M}, (resM P rs k).ok none s F →
    ∃ xs vs, (rs.mapM (resS a.tmps)).run P w = .ok vs w ∧ xs.length = vs.length ∧ (∀ (i : Nat) (x : PW), xs[i]? = some x → ∃ v : Value, vs[i]? = some v ∧ RW (ctxOf A w env) x v) ∧ (k xs).ok none s F
  | [], k, hk => ⟨[], [], by simp, rfl, fun i x hx => by simp at hx, hk⟩
  | .tmp t :: rs, k, hk => by
    obtain ⟨pv, hp, hk⟩ := evO_ok h hk
    split at hk
    · rename_i x
      obtain ⟨xs, vs, h1, h2, h3, h4⟩ := resM_ok h hk
      refine ⟨x :: xs, a.tmps.getD t undef :: vs, ?_, by simp [h2], fun i y hy => ?_, h4⟩
      · rw [List.mapM_cons, show resS a.tmps (.tmp t) = pure (a.tmps.getD t undef) from rfl]
        simp only [Sem.run_bind, Sem.run_pure, Result.andThen_ok, h1]
      · cases i with
        | zero =>
          obtain rfl : x = y := by simpa using hy
          cases hp with | w hp => exact ⟨_, rfl, hp⟩
        | succ i => exact h3 i y (by simpa using hy)
    · exact hk.elim
  | .cell b t :: rs, k, hk => by
    obtain ⟨pv, hp, hk⟩ := evO_ok h hk
    obtain ⟨b1, o1, x, val, hv, hrun, hval, hk⟩ := loadK_ok h hp hk
    obtain ⟨xs, vs, h1, h2, h3, h4⟩ := resM_ok h hk
    have hv' : a.tmps.getD b undef = .pointer (some ⟨b1, o1, none⟩) := hv
    have hld : (loadVar t ⟨b1, o1, none⟩).run P w = .ok val w := by
      rw [hv] at hrun
      simpa [Instr.loadAt, Instr.sureAddr] using hrun
    have h0 : (resS a.tmps (.cell b t)).run P w = .ok val w := by
      unfold resS
      simp only [hv', asAddr, Sem.run_bind, Sem.run_pure, Result.andThen_ok, hld]
    refine ⟨x :: xs, val :: vs, ?_, by simp [h2], fun i y hy => ?_, h4⟩
    · rw [List.mapM_cons]
      simp only [Sem.run_bind, Sem.run_pure, Result.andThen_ok, h0, h1]
    · cases i with
      | zero =>
        obtain rfl : x = y := by simpa using hy
        exact ⟨_, rfl, hval⟩
      | succ i => exact h3 i y (by simpa using hy)
theorem retM_ok {a : Act} {w : World} {env : Env} (h : GamE A s a w env) {F : Option Bool → PV → Wr → Prop} {fn : Func} (hk : (retM P fn.results).ok none s F) : ∃ v val, (results fn a.tmps).run P w = .ok val w ∧ RV (ctxOf A w env) v val ∧ F none v [] := by
  unfold retM at hk
  obtain ⟨xs, vs, h1, h2, h3, hk⟩ := resM_ok h hk
  have hm : (fn.results.mapM (resS a.tmps)).run P w = .ok vs.toArray w := by
    rw [Array.mapM_eq_mapM_toList, Sem.run_map, h1]
    rfl
  rw [results_eq]
  simp only [Sem.run_bind, hm, Result.andThen_ok, Sem.run_pure]
  split at hk
  · rename_i x
    match vs, h2, h3 with
    | [v], _, h3 =>
      obtain ⟨v', e, hr⟩ := h3 0 x rfl
      cases e
      exact ⟨_, _, rfl, .w hr, hk⟩
  · rename_i hne
    have hlen : ¬ vs.toArray.size = 1 := by
      intro e
      match xs, h2, hne with
      | [x], _, hne => exact hne x rfl
      | [], h2, _ => simp at e h2; omega
      | _ :: _ :: _, h2, _ => simp at e h2; omega
    rw [dif_neg hlen]
    exact ⟨_, _, rfl, .tup (by simpa using h2) (fun i x hx => by
      obtain ⟨v, e, hr⟩ := h3 i x hx
      exact ⟨v, by simpa using e, hr⟩), hk⟩
def slots : Nat → List PV → List (Nat × Option Bool × PV)
  | _, [] => []
  | i, v :: vs => (i, none, v) :: slots (i + 1) vs
theorem find_slots {i : Nat} : ∀ {vs : List PV} {t : Nat} {g : Option Bool} {pv : PV}, find (slots i vs) t = some (g, pv) → ∃ k, t = i + k ∧ vs[k]? = some pv
  | [], t, g, pv, h => by cases h
  | v :: vs, t, g, pv, h => by
    by_cases ht : i = t
    · subst ht
      rw [slots, find_cons_eq] at h
      cases h
      exact ⟨0, rfl, rfl⟩
    · rw [slots, find_cons_ne _ _ ht] at h
      obtain ⟨k, h1, h2⟩ := find_slots (i := i + 1) h
      exact ⟨k + 1, by omega, by simpa using h2⟩
theorem find_slotsG {i : Nat} : ∀ {vs : List PV} {t : Nat} {g : Option Bool} {pv : PV}, find (slots i vs) t = some (g, pv) → ∃ k : Nat, t = i + k ∧ g = none
  | [], t, g, pv, h => by cases h
  | v :: vs, t, g, pv, h => by
    by_cases ht : i = t
    · subst ht
      rw [slots, find_cons_eq] at h
      cases h
      exact ⟨0, rfl, rfl⟩
    · rw [slots, find_cons_ne _ _ ht] at h
      obtain ⟨k, h1, h2⟩ := find_slotsG (i := i + 1) h
      exact ⟨k + 1, by omega, h2⟩
theorem Vals.at {C : Ctx} : ∀ {vs : List PV} {l : List Value} {k : Nat} {pv : PV}, Vals C vs l → vs[k]? = some pv → ∃ v, l[k]? = some v ∧ RV C pv v
  | [], [], _, _, _, h => by simp at h
  | [], _ :: _, _, _, h, _ => h.elim
  | _ :: _, [], _, _, h, _ => h.elim
  | v :: vs, x :: l, k, pv, ⟨h1, h2⟩, h => by
    cases k with
    | zero =>
      obtain rfl : v = pv := by simpa using h
      exact ⟨x, rfl, h1⟩
    | succ k =>
      obtain ⟨v', h3, h4⟩ := Vals.at h2 (by simpa using h : vs[k]? = some pv)
      exact ⟨v', by simpa using h3, h4⟩
theorem Vals.length {C : Ctx} : ∀ {vs : List PV} {l : List Value}, Vals C vs l → vs.length = l.length
  | [], [], _ => rfl
  | [], _ :: _, h => h.elim
  | _ :: _, [], h => h.elim
  | _ :: _, _ :: _, ⟨_, h⟩ => by rw [List.length_cons, List.length_cons, h.length]
def FunOk (P : Program) (I : World → Prop) (f : Nat) (new : Bool) (args : List PV) (res : PV) : Prop :=
  ∀ (w : World) (ok0 : Nat → Prop) (vs : List Value), I w → Vals { w, ok := ok0, env := fun _ => none } args vs →
    Calls P f vs.toArray w fun e w' => ∃ val, e = .returned val ∧ Ext w w' ∧ RV { w := w', ok := fun b => (new = false ∧ ok0 b) ∨ w.heap.size ≤ b, env := fun _ => none } res val
def coldPC (new : Bool) : PC → Bool
  | .lit _ => true
  | .bs _ _ => true
  | .sl _ _ _ => !new
  | _ => false
theorem coldPC_le {C : Ctx} {c : PC} {xs : List Value} (h : R C c xs) (hc : coldPC false c = true) : R C.cold c xs := by
  cases h <;> first | (cases hc; done) | skip
  · exact .lit (by assumption)
  · exact .bs (by assumption)
  · exact .sl (by assumption) (by assumption) (by assumption)
theorem coldPL_le {C : Ctx} : ∀ {l : List PC} {xs : List Value}, RL C l xs → l.all (coldPC false) = true → RL C.cold l xs
  | [], _, h, _ => by cases h; exact .nil
  | c :: l, _, h, hc => by
    rw [List.all_cons, Bool.and_eq_true] at hc
    cases h with
    | cons h1 h2 => exact .cons (coldPC_le h1 hc.1) (coldPL_le h2 hc.2)
def Row1 (s : St) (new : Bool) (l l' : List PC) : Prop := ∃ x ver n off len tot e g f f', l = [.ow x ver n off len] ∧ l' = [.sl n len f'] ∧ find s.o x = some (g, ver, .arr e n tot f) ∧ gT g ∧ off + len ≤ tot ∧ ∀ i, i < len → f (off + i) = f' i ∧ (f' i).all (coldPC new) = true
inductive ExC (s : St) (new : Bool) : PC → PC → Prop where
  | rows {x ver n off len tot e : Nat} {g : Option Bool} {f f' : Nat → List PC} (hf : find s.o x = some (g, ver, .arr e n tot f)) (hg : gT g) (hl : off + len ≤ tot) (he : ∀ i, i < len → (f (off + i) = f' i ∧ (f' i).all (coldPC new) = true) ∨ Row1 s new (f (off + i)) (f' i)) : ExC s new (.ow x ver n off len) (.sl n len f')
  | cold {c : PC} (h : coldPC new c = true) : ExC s new c c
  | row {x ver n off len tot e : Nat} {g : Option Bool} {f f' : Nat → List PC} (hf : find s.o x = some (g, ver, .arr e n tot f)) (hg : gT g) (hl : off + len ≤ tot) (he : ∀ i, i < len → f (off + i) = f' i) (hc : ∀ i, i < len → (f' i).all (coldPC new) = true) : ExC s new (.ow x ver n off len) (.sl n len f')
  | nil {n : Nat} {f : Nat → List PC} : ExC s new (.lit (.slice none 0 0)) (.sl n 0 f)
inductive ExL (s : St) (new : Bool) : List PC → List PC → Prop where
  | nil : ExL s new [] []
  | cons {c c' : PC} {l l' : List PC} (h : ExC s new c c') (hl : ExL s new l l') : ExL s new (c :: l) (c' :: l')
inductive ExW (s : St) (new : Bool) : PW → PW → Prop where
  | one {c c' : PC} (h : ExC s new c c') : ExW s new (.one c) (.one c')
  | agg {l l' : List PC} (h : ExL s new l l') : ExW s new (.agg l) (.agg l')
inductive ExS (s : St) (new : Bool) : List PW → List PW → Prop where
  | nil : ExS s new [] []
  | cons {c c' : PW} {l l' : List PW} (h : ExW s new c c') (hl : ExS s new l l') : ExS s new (c :: l) (c' :: l')
inductive ExV (s : St) (new : Bool) : PV → PV → Prop where
  | w {x x' : PW} (h : ExW s new x x') : ExV s new (.w x) (.w x')
  | tup {l l' : List PW} (h : ExS s new l l') : ExV s new (.tup l) (.tup l')
def OwnS (A : Amb) (s : St) (env : Env) : Prop := ∀ x g ver e n len f hd b, find s.o x = some (g, ver, .arr e n len f) → env x = some (ver, hd) → hblk hd = some b → A.S b → False
theorem OwnS.of_non {A : Amb} {s : St} {env : Env} (h : A.S = Non) : OwnS A s env := fun _ _ _ _ _ _ _ _ _ _ _ _ hb => by rw [h] at hb; exact hb
def okRes (w0 : World) (ok0 : Nat → Prop) (new : Bool) : Nat → Prop := fun b => (new = false ∧ ok0 b) ∨ w0.heap.size ≤ b
theorem exC_ok {a : Act} {w : World} {env : Env} (h : GamE A s a w env) (hS : OwnS A s env) {new : Bool} {c c' : PC} {xs : List Value} (hx : ExC s new c c') (hr : R (ctxOf A w env) c xs) : R { w, ok := okRes A.w0 A.ok0 new, env := fun _ => none } c' xs := by
  have hcold : ∀ {l : List PC} {xs : List Value}, RL (ctxOf A w env) l xs → l.all (coldPC new) = true → RL { w, ok := okRes A.w0 A.ok0 new, env := fun _ => none } l xs := by
    intro l xs h1 h2
    cases new with
    | false => exact (coldPL_le h1 h2).le ⟨Nat.le_refl _, fun b _ hb => ⟨hb.1.elim (fun h => .inl ⟨rfl, h⟩) .inr, rfl⟩, fun _ _ _ h => by cases h⟩
    | true =>
      have flat : ∀ {l : List PC} {xs : List Value}, RL (ctxOf A w env) l xs → l.all (coldPC true) = true → RL { w, ok := okRes A.w0 A.ok0 true, env := fun _ => none } l xs := by
        intro l
        induction l with
        | nil => intro xs h _; cases h; exact .nil
        | cons c l ih =>
          intro xs h hc
          rw [List.all_cons, Bool.and_eq_true] at hc
          cases h with
          | cons h3 h4 =>
            refine .cons ?_ (ih h4 hc.2)
            have hc1 := hc.1
            cases h3 <;> first | exact .lit (by assumption) | exact .bs (by assumption) | (cases hc1; done)
      exact flat h1 h2
  have hrow : ∀ {x ver n off len tot e : Nat} {g : Option Bool} {f f' : Nat → List PC} {xs : List Value}, find s.o x = some (g, ver, .arr e n tot f) → gT g → off + len ≤ tot → R (ctxOf A w env) (.ow x ver n off len) xs →
      (∀ i, i < len → ∀ ys, RL (ctxOf A w env) (f (off + i)) ys → RL { w, ok := okRes A.w0 A.ok0 new, env := fun _ => none } (f' i) ys) → R { w, ok := okRes A.w0 A.ok0 new, env := fun _ => none } (.sl n len f') xs := by
    intro x ver n off len tot e g f f' xs hf hg hl hr hconv
    obtain ⟨hd, hev, hob⟩ := obj_at h hf hg
    cases hr with
    | ow h1 hat =>
      obtain ⟨A0, n0, c0, rfl, hle0, rfl⟩ := hat.now hev
      obtain ⟨vs, hown, hel⟩ := hob
      have hrd := Reads.of_ownX hown
      have hn0 : n0 = tot := by
        obtain ⟨_, A1, c1, e1, _⟩ := hrd
        cases e1; rfl
      subst hn0
      refine .sl (vs := (vs.drop (off * n)).take (len * n)) (reads_slice hl hrd) (fun b hb hlt => ?_) (fun i hi => ?_)
      · cases A0 with
        | none => simp [Value.ownBlock] at hb
        | some ad =>
          simp only [Option.map_some, Value.ownBlock, Option.some.injEq, block_of_add] at hb
          have := h.live x ver _ b hev (by simp [hblk, hb])
          refine ⟨.inr (this.2.resolve_right (fun h4 => hS x g ver e n n0 f _ b hf hev (by simp [hblk, hb]) h4.1)), this.1⟩
      · rw [window_window vs hi]
        exact (hconv i hi _ (hel _ (by omega))).le ⟨Nat.le_refl _, fun b _ hb => ⟨hb, rfl⟩, fun _ _ _ h => by cases h⟩
  cases hx with
  | cold hc =>
    have := (hcold (RL.cons hr RL.nil) (by simp [hc])).single
    simpa using this
  | nil =>
    cases hr
    exact .sl (Reads.nil w _) (fun g hg => by simp [Value.ownBlock] at hg) (fun i hi => by omega)
  | @row x ver n off len tot e g f f' hf hg hl he hc =>
    refine hrow hf hg hl hr (fun i hi ys hy => ?_)
    rw [he i hi] at hy
    exact hcold hy (hc i hi)
  | @rows x ver n off len tot e g f f' hf hg hl he =>
    refine hrow hf hg hl hr (fun i hi ys hy => ?_)
    rcases he i hi with ⟨h1, h2⟩ | ⟨x1, v1, n1, o1, l1, t1, e1, g1, f1, f1', h1, h2, h3, h4, h5, h6⟩
    · rw [h1] at hy
      exact hcold hy h2
    · rw [h1] at hy
      rw [h2]
      have hz : ys = ys ++ [] := (List.append_nil ys).symm
      rw [hz]
      refine .cons (hrow h3 h4 h5 hy.single (fun k hk zs hzs => ?_)) .nil
      rw [(h6 k hk).1] at hzs
      exact hcold hzs (h6 k hk).2
theorem exL_ok {a : Act} {w : World} {env : Env} (h : GamE A s a w env) (hS : OwnS A s env) {new : Bool} : ∀ {l l' : List PC} {xs : List Value}, ExL s new l l' → RL (ctxOf A w env) l xs → RL { w, ok := okRes A.w0 A.ok0 new, env := fun _ => none } l' xs
  | [], _, _, hx, hr => by cases hx; cases hr; exact .nil
  | c :: l, _, _, hx, hr => by
    cases hx with
    | cons h1 h2 => cases hr with
      | cons h3 h4 => exact .cons (exC_ok h hS h1 h3) (exL_ok h hS h2 h4)
theorem exW_ok {a : Act} {w : World} {env : Env} (h : GamE A s a w env) (hS : OwnS A s env) {new : Bool} {x x' : PW} {v : Value} (hx : ExW s new x x') (hr : RW (ctxOf A w env) x v) : RW { w, ok := okRes A.w0 A.ok0 new, env := fun _ => none } x' v := by
  cases hx with
  | one h1 => cases hr with | one h2 => exact .one (exC_ok h hS h1 h2)
  | agg h1 => cases hr with | agg h2 => exact .agg (exL_ok h hS h1 h2)
theorem ExS.at {s : St} {new : Bool} : ∀ {l l' : List PW} {i : Nat} {x' : PW}, ExS s new l l' → l'[i]? = some x' → ∃ x, l[i]? = some x ∧ ExW s new x x'
  | [], _, i, x', h, hi => by cases h; simp at hi
  | y :: l, _, i, x', h, hi => by
    cases h with
    | @cons _ y' _ l' h1 h2 =>
      cases i with
      | zero =>
        obtain rfl : y' = x' := by simpa using hi
        exact ⟨y, rfl, h1⟩
      | succ i =>
        obtain ⟨x, h3, h4⟩ := ExS.at h2 (by simpa using hi : l'[i]? = some x')
        exact ⟨x, by simpa using h3, h4⟩
theorem ExS.length {s : St} {new : Bool} : ∀ {l l' : List PW}, ExS s new l l' → l.length = l'.length
  | [], _, h => by cases h; rfl
  | _ :: _, _, h => by cases h with | cons _ h2 => rw [List.length_cons, List.length_cons, h2.length]
theorem exV_ok {a : Act} {w : World} {env : Env} (h : GamE A s a w env) (hS : OwnS A s env) {new : Bool} {x x' : PV} {v : Value} (hx : ExV s new x x') (hr : RV (ctxOf A w env) x v) : RV { w, ok := okRes A.w0 A.ok0 new, env := fun _ => none } x' v := by
  cases hx with
  | w h1 => cases hr with | w h2 => exact .w (exW_ok h hS h1 h2)
  | tup h1 =>
    cases hr with
    | tup hl h2 =>
      refine .tup (by rw [← h1.length]; exact hl) (fun i x' hi => ?_)
      obtain ⟨x, h3, h4⟩ := h1.at hi
      obtain ⟨v, h5, h6⟩ := h2 i x h3
      exact ⟨v, h5, exW_ok h hS h4 h6⟩
def RetTo (P : Program) (fn : Func) (new : Bool) (res : PV) (s : St) : Prop := ∃ v, (retM P fn.results).ok none s (fun _ v' wr => v' = v ∧ wr = []) ∧ ExV s new v res
theorem retTo_of {fn : Func} {new : Bool} {res : PV} {out : Out} (h : (retM P fn.results).run none s = some out) (hc : All out.conds) (hw : out.wr = []) (hx : ExV s new out.val res) : RetTo P fn new res s :=
  ⟨out.val, M.ok_of_run _ none s out _ h (fun p hp => hc.mem p hp) ⟨rfl, hw⟩, hx⟩
def pwAll (p : PC → Bool) : PW → Bool
  | .one c => p c
  | .agg l => l.all p
def pvAll (p : PC → Bool) : PV → Bool
  | .w x => pwAll p x
  | .tup l => l.all (pwAll p)
  | .none => false
theorem exL_refl {s : St} {new : Bool} : ∀ {l : List PC}, l.all (coldPC new) = true → ExL s new l l
  | [], _ => .nil
  | c :: l, h => by rw [List.all_cons, Bool.and_eq_true] at h; exact .cons (.cold h.1) (exL_refl h.2)
theorem exW_refl {s : St} {new : Bool} {x : PW} (h : pwAll (coldPC new) x = true) : ExW s new x x := by
  cases x with
  | one c => exact .one (.cold h)
  | agg l => exact .agg (exL_refl h)
theorem exS_refl {s : St} {new : Bool} : ∀ {l : List PW}, l.all (pwAll (coldPC new)) = true → ExS s new l l
  | [], _ => .nil
  | c :: l, h => by rw [List.all_cons, Bool.and_eq_true] at h; exact .cons (exW_refl h.1) (exS_refl h.2)
theorem exV_refl {s : St} {new : Bool} {v : PV} (h : pvAll (coldPC new) v = true) : ExV s new v v := by
  cases v with
  | w x => exact .w (exW_refl h)
  | tup l => exact .tup (exS_refl h)
  | none => cases h
theorem retTo_cold {fn : Func} {new : Bool} {res : PV} {out : Out} (h : (retM P fn.results).exec none s [] [] [] [] = some out) (hc : All out.conds) (hw : out.wr = []) (hx : pvAll (coldPC new) out.val = true) (he : out.val = res) : RetTo P fn new res s := by
  rw [exec_nil] at h
  subst he
  exact retTo_of h hc hw (exV_refl hx)
theorem retTo_ex {fn : Func} {new : Bool} {res : PV} {out : Out} (h : (retM P fn.results).exec none s [] [] [] [] = some out) (hc : All out.conds) (hw : out.wr = []) (hx : ExV s new out.val res) : RetTo P fn new res s := by
  rw [exec_nil] at h
  exact retTo_of h hc hw hx
def RQ (P : Program) (A : Amb) (fn : Func) (new : Bool) (res : PV) : Exit → Act → World → Prop
  | .panic chain, a, w => a.defers = [] ∧ PanG A chain w
  | e, a, w => (e = .normal ∨ e = .ret) ∧ ∃ s, RetTo P fn new res s ∧ Gam A s a w
theorem panQ_RQ (P : Program) (A : Amb) (fn : Func) (new : Bool) (res : PV) : PanQ A (RQ P A fn new res) := fun _ _ _ hd h => ⟨hd, h⟩
theorem DvStep.non (P : Program) {stp : List Acc → Prop} : DvStep P Dv.non stp := fun _ _ _ h => h.elim
theorem AmbOk.plain {P : Program} {I : World → Prop} {w : World} {ok0 : Nat → Prop} {nt : Nat} (h : ∀ w', Ext w w' → I w') : AmbOk P I (Amb.plain w ok0 nt) :=
  ⟨h, fun _ h => h, fun _ h => h.elim, DvStep.non P, fun _ _ _ h => h.elim, fun _ _ _ _ _ _ h => h.elim⟩
theorem funOk_of {f : Nat} {fn : Func} {c : Code} {new : Bool} {args : List PV} {res : PV} (hf : P.funcs[f]? = some fn) (hb : fn.body = some c) (hnb : Nat.ble args.length fn.ntmps = true) (hI : ∀ w w', Ext w w' → I w → I w')
    (hT : ∀ A : Amb, A.S = Non → A.nt = fn.ntmps → AmbOk P I A → Tri P A ⟨slots 0 args, []⟩ c (RQ P A fn new res)) : FunOk P I f new args res := by
  intro w ok0 vs hIw hv
  have hlen := hv.length
  have hn := Nat.le_of_ble_eq_true hnb
  have hg : Gam (Amb.plain w ok0 fn.ntmps) ⟨slots 0 args, []⟩ { tmps := vs.toArray ++ Array.replicate (fn.ntmps - vs.toArray.size) undef, defers := [] } w := by
    refine ⟨fun _ => none, { chg := Chg.refl _ _, size := ?_, dom := fun x _ => rfl, objs := fun x g ver o h => (by cases h), live := fun x ver hd b h => (by cases h), inj := fun x y v1 h1 v2 h2 b h => (by cases h), tmps := fun t g pv h hgt => ?_, defers := rfl, und := fun t pv h => (by obtain ⟨k, _, h2⟩ := find_slotsG h; cases h2), exts := fun x hd h => (by cases h), dev := fun g ver O stp l h => (by cases h) }⟩
    · simp [Amb.plain]; omega
    · obtain ⟨k, h1, h2⟩ := find_slots h
      obtain ⟨v, h3, h4⟩ := hv.at h2
      rw [Nat.zero_add] at h1
      subst h1
      have hk : t < vs.length := (List.getElem?_eq_some_iff.1 h3).1
      refine ⟨v, ?_, ?_⟩
      · rw [Array.getElem?_append_left (by simpa using hk)]
        simpa using h3
      · refine h4.le ⟨Nat.le_refl _, fun b _ hb => ⟨⟨.inl hb, fun _ _ _ h => by cases h⟩, rfl⟩, fun _ _ _ h => by cases h⟩
  refine calls_of_wp hf hb (wp_mono (hT (Amb.plain w ok0 fn.ntmps) rfl rfl (AmbOk.plain fun w' hc => hI w w' hc hIw) _ w hg (panQ_RQ _ _ _ _ _)) (fun e a' w' he => ?_))
  have he' : (e = .normal ∨ e = .ret) ∧ ∃ s, RetTo P fn new res s ∧ Gam (Amb.plain w ok0 fn.ntmps) s a' w' := by
    cases e with
    | panic chain => obtain ⟨_, l, hl, _⟩ := he; exact hl.elim
    | _ => exact he
  obtain ⟨h1, s, ⟨v, h2, h3⟩, h4⟩ := he'
  obtain ⟨env, hE⟩ := h4
  obtain ⟨v', val, h5, h6, h7, _⟩ := retM_ok hE h2
  subst h7
  have hres := exV_ok hE (.of_non rfl) h3 h6
  have : a'.defers = [] ∧ ∃ v, (results fn a'.tmps).run P w' = .ok v w' ∧ ∃ val, Ending.returned v = .returned val ∧ Ext w w' ∧ RV { w := w', ok := fun b => (new = false ∧ ok0 b) ∨ w.heap.size ≤ b, env := fun _ => none } res val :=
    ⟨hE.defers, val, h5, val, rfl, hE.chg, hres⟩
  rcases h1 with rfl | rfl <;> exact this
end
end Go.Proofs.YtihghljfmlbfhaaDoor.Pv


namespace Go.Proofs.YtihghljfmlbfhaaDoor.Pv
open Go.RowKit
def verOk (kO : List Nat) (s : St) (x ver : Nat) : Bool := match kO.any (Nat.beq x), find s.o x with
  | true, some (_, vr, _) => Nat.beq ver vr
  | _, _ => false
def frzOk (kF : List Nat) (s : St) (x ver n : Nat) : Option (Nat → List PC) := match kF.any (Nat.beq x), find s.o x with
  | true, some (none, vr, .arr _ m _ f) => (match Nat.beq ver vr, Nat.beq n m with
    | true, true => some f
    | _, _ => none)
  | _, _ => none
mutual
def rv (kF kO : List Nat) (s : St) : PC → Option PC
  | .lit v => some (.lit v)
  | .bs n l => some (.bs n l)
  | .sl n len f => some (.sl n len f)
  | .ow x ver n off len => match verOk kO s x ver with | true => some (.ow x 0 n off len) | false => (match frzOk kF s x ver n with | some f => some (.sl n len (fun i => f (off + i))) | none => none)
  | .ob x ver off len => match verOk kO s x ver with | true => some (.ob x 0 off len) | false => none
  | .pt x ver off => match verOk kO s x ver with | true => some (.pt x 0 off) | false => none
  | .pk x ver off k => match verOk kO s x ver with | true => some (.pk x 0 off k) | false => none
  | .pe x ver n i j => match verOk kO s x ver with | true => some (.pe x 0 n i j) | false => none
  | .pf n len f i j => some (.pf n len f i j)
  | .fn f first cap => match rvL kF kO s first, rvL kF kO s cap with
    | some a, some b => some (.fn f a b)
    | _, _ => none
  | .dv => match verOk kO s dx 0 with | true => some .dv | false => none
  | .any => some .any
  | .pa len f => some (.pa len f)
def rvL (kF kO : List Nat) (s : St) : List PC → Option (List PC)
  | [] => some []
  | c :: l => match rv kF kO s c, rvL kF kO s l with
    | some c', some l' => some (c' :: l')
    | _, _ => none
end
def rvW (kF kO : List Nat) (s : St) : PW → Option PW
  | .one c => match rv kF kO s c with | some c => some (.one c) | none => none
  | .agg l => match rvL kF kO s l with | some l => some (.agg l) | none => none
def rvWs (kF kO : List Nat) (s : St) : List PW → Option (List PW)
  | [] => some []
  | x :: l => match rvW kF kO s x, rvWs kF kO s l with
    | some x, some l => some (x :: l)
    | _, _ => none
def rvV (kF kO : List Nat) (s : St) : PV → Option PV
  | .w x => match rvW kF kO s x with | some x => some (.w x) | none => none
  | .tup l => match rvWs kF kO s l with | some l => some (.tup l) | none => none
  | .none => some .none
def keepT (kF kO : List Nat) (s : St) : List Nat → Option (List (Nat × Option Bool × PV))
  | [] => some []
  | t :: l => match find s.t t, keepT kF kO s l with
    | some (g, v), some r => (match rvV kF kO s v with | some v' => some ((t, g, v') :: r) | none => none)
    | _, _ => none
def rvO (kF kO : List Nat) (s : St) : AObj → Option (List Prop × AObj)
  | .box t l => match rvL kF kO s l with | some l => some ([], .box t l) | none => none
  | .arr e n len f => some ([∀ i, i < len → (f i).all (coldPC false) = true], .arr e n len f)
  | .dead => some ([], .dead)
  | .dev O stp l => some ([], .dev O stp l)
def keepO (kF kO : List Nat) (s : St) : List Nat → Option (List Prop × Wr)
  | [] => some ([], [])
  | x :: l => match find s.o x, keepO kF kO s l with
    | some (g, _, ob), some (cs, r) => (match rvO kF kO s ob with | some (c, ob') => some (c ++ cs, (x, g, 0, ob') :: r) | none => none)
    | _, _ => none
def extKept (kO : List Nat) (s : St) : Bool := s.o.all fun p => match Nat.ble dx p.1 with
  | true => kO.any (Nat.beq p.1) && Nat.beq p.2.2.1 0
  | false => true
def keepF (s : St) : List Nat → Option (List Prop)
  | [] => some []
  | x :: l => match find s.o x, keepF s l with
    | some (_, _, .arr _ _ len f), some cs => some ((∀ i, i < len → (f i).all (coldPC false) = true) :: cs)
    | _, _ => none
def resetStF (kF kT kO : List Nat) (s : St) : Option (List Prop × St) := match keepT kF kO s kT, keepO kF kO s kO, extKept kO s, keepF s kF with
  | some t, some (cs, o), true, some cf => some (cs ++ cf, ⟨t, o⟩)
  | _, _, _, _ => none
def resetSt (kT kO : List Nat) (s : St) : Option (List Prop × St) := match keepT [] kO s kT, keepO [] kO s kO, extKept kO s with
  | some t, some (cs, o), true => some (cs, ⟨t, o⟩)
  | _, _, _ => none
def FrzG (A : Amb) (kF : List Nat) (s : St) : Prop := ∀ x, kF.any (Nat.beq x) = true → A.S = Non ∧ ∀ g ver e n len f, find s.o x = some (g, ver, .arr e n len f) → ∀ i, i < len → (f i).all (coldPC false) = true
theorem FrzG.nil {A : Amb} {s : St} : FrzG A [] s := fun x h => by cases h
theorem keepF_ok {A : Amb} (hS : A.S = Non) {s : St} : ∀ {kF : List Nat} {cs : List Prop}, keepF s kF = some cs → All cs → FrzG A kF s
  | [], _, _, _ => FrzG.nil
  | y :: l, cs, h, hc => fun x hx => ⟨hS, fun g ver e n len f hf => by
    unfold keepF at h
    split at h
    · rename_i h1 h2
      cases h
      rw [List.any_cons, Bool.or_eq_true] at hx
      rcases hx with hx | hx
      · obtain rfl : x = y := beqT hx
        rw [hf] at h1
        cases h1
        exact hc.1
      · exact ((keepF_ok hS h2 hc.2) x hx).2 g ver e n len f hf
    · cases h⟩
def envK (kO : List Nat) (env : Env) : Env := fun x => match kO.any (Nat.beq x) with
  | true => (env x).map fun p => (0, p.2)
  | false => none
section
variable {A : Amb} {s : St} {a : Act} {w : World} {env : Env} {kF kO : List Nat}
theorem ok_envK {b : Nat} (h : (ctxOf A w env).ok b) : (ctxOf A w (envK kO env)).ok b := ⟨h.1, fun x ver hd he => by
  have he' : envK kO env x = some (ver, hd) := he
  unfold envK at he'
  split at he'
  · cases hx : env x with
    | none => rw [hx] at he'; cases he'
    | some p =>
      obtain ⟨v, hd'⟩ := p
      rw [hx] at he'
      cases he'
      exact h.2 x v _ hx
  · cases he'⟩
theorem cold_envK : (ctxOf A w env).cold.Le (ctxOf A w (envK kO env)) := ⟨Nat.le_refl _, fun b _ h => ⟨ok_envK h, rfl⟩, fun _ _ _ h => by cases h⟩
theorem cold_envK' : (ctxOf A w env).cold.Le (ctxOf A w (envK kO env)).cold := ⟨Nat.le_refl _, fun b _ h => ⟨ok_envK (w := w) (env := env) (kO := kO) h, rfl⟩, fun _ _ _ h => by cases h⟩
theorem at_envK (h : GamE A s a w env) {x ver : Nat} {p : Value → Prop} (hv : verOk kO s x ver = true) (ha : At (ctxOf A w env) x ver p) : At (ctxOf A w (envK kO env)) x 0 p := by
  unfold verOk at hv
  split at hv
  · rename_i g vr ob h1 h2
    obtain ⟨hd, h3, _⟩ := h.objs x g vr ob h2
    have hp := ha.now (hd := hd) (by rw [beqT hv]; exact h3)
    refine ⟨0, hd, ?_, Nat.le_refl _, fun _ => hp⟩
    show envK kO env x = some (0, hd)
    unfold envK
    rw [h1, h3]
    rfl
  · cases hv
theorem frz_ok (h : GamE A s a w env) (hF : FrzG A kF s) {x ver n off len : Nat} {f : Nat → List PC} {xs : List Value} (hv : verOk kO s x ver = false) (hq : frzOk kF s x ver n = some f) (hR : R (ctxOf A w env) (.ow x ver n off len) xs) : R (ctxOf A w (envK kO env)) (.sl n len (fun i => f (off + i))) xs := by
  unfold frzOk at hq
  split at hq
  · rename_i vr e m tot f0 hk hfo
    split at hq
    · rename_i hb1 hb2
      cases hq
      obtain rfl := beqT hb1
      obtain rfl := beqT hb2
      have hkO : kO.any (Nat.beq x) = false := by
        unfold verOk at hv
        rw [hfo] at hv
        cases hk2 : kO.any (Nat.beq x) with
        | false => rfl
        | true => rw [hk2] at hv; dsimp only at hv; rw [hb1] at hv; cases hv
      obtain ⟨hS, hcold⟩ := hF x hk
      have hcold := hcold _ _ _ _ _ _ hfo
      obtain ⟨hd, hev, hob⟩ := h.objs x none ver _ hfo
      have hob := hob trivial
      cases hR with
      | ow h1 hat =>
        obtain ⟨A0, n0, c0, rfl, hle0, rfl⟩ := hat.now hev
        obtain ⟨vs, hown, hel⟩ := hob
        have hrd := Reads.of_ownX hown
        have hn0 : n0 = tot := by
          obtain ⟨_, A1, c1, e1, _⟩ := hrd
          cases e1; rfl
        subst hn0
        refine .sl (vs := (vs.drop (off * n)).take (len * n)) (reads_slice hle0 hrd) (fun b hb hlt => ?_) (fun i hi => ?_)
        · have hbl : hblk (.slice A0 n0 c0) = some b := by
            cases A0 with
            | none => simp [Value.ownBlock] at hb
            | some ad =>
              simp only [Option.map_some, Value.ownBlock, Option.some.injEq, block_of_add] at hb
              simp [hblk, hb]
          obtain ⟨k1, k2⟩ := h.live x ver _ b hev hbl
          refine ⟨⟨.inr (k2.resolve_right (fun hs => by have hs := hs.1; rw [hS] at hs; exact hs)), fun y vy hy he hyb => ?_⟩, k1⟩
          have he' : envK kO env y = some (vy, hy) := he
          unfold envK at he'
          split at he'
          · rename_i hky
            cases hx : env y with
            | none => rw [hx] at he'; cases he'
            | some p =>
              obtain ⟨v', hd'⟩ := p
              rw [hx] at he'
              cases he'
              have hxy := h.inj x y ver _ v' _ b hev hx hbl hyb
              subst hxy
              rw [hkO] at hky
              cases hky
          · cases he'
        · rw [window_window vs hi]
          exact (coldPL_le (hel _ (by omega)) (hcold _ (by omega))).le cold_envK'
    · cases hq
  · cases hq
mutual
theorem rv_ok (h : GamE A s a w env) (hF : FrzG A kF s) : ∀ {c c' : PC} {xs : List Value}, rv kF kO s c = some c' → R (ctxOf A w env) c xs → R (ctxOf A w (envK kO env)) c' xs
  | .lit v, c', xs, hr, hR => by
    simp only [rv, Option.some.injEq] at hr; subst hr; cases hR; exact .lit (by assumption)
  | .bs n l, c', xs, hr, hR => by
    simp only [rv, Option.some.injEq] at hr; subst hr; cases hR; exact .bs (by assumption)
  | .sl n len f, c', xs, hr, hR => by
    simp only [rv, Option.some.injEq] at hr
    subst hr
    cases hR with
    | sl h1 h2 h3 => exact .sl h1 (fun g hg hl => ⟨ok_envK (h2 g hg hl).1, (h2 g hg hl).2⟩) (fun i hi => (h3 i hi).le cold_envK')
  | .ow x ver n off len, c', xs, hr, hR => by
    unfold rv at hr
    cases hv : verOk kO s x ver with
    | true =>
      rw [hv] at hr
      cases hr
      cases hR with | ow h1 h2 => exact .ow h1 (at_envK h hv h2)
    | false =>
      rw [hv] at hr
      dsimp only at hr
      cases hq : frzOk kF s x ver n with
      | none => rw [hq] at hr; cases hr
      | some f =>
        rw [hq] at hr
        cases hr
        exact frz_ok h hF hv hq hR
  | .ob x ver off len, c', xs, hr, hR => by
    unfold rv at hr
    cases hv : verOk kO s x ver <;> rw [hv] at hr <;> cases hr
    cases hR with | ob h1 h2 => exact .ob h1 (at_envK h hv h2)
  | .pt x ver off, c', xs, hr, hR => by
    unfold rv at hr
    cases hv : verOk kO s x ver <;> rw [hv] at hr <;> cases hr
    cases hR with | pt h1 h2 => exact .pt h1 (at_envK h hv h2)
  | .pk x ver off k, c', xs, hr, hR => by
    unfold rv at hr
    cases hv : verOk kO s x ver <;> rw [hv] at hr <;> cases hr
    cases hR with | pk h1 h2 => exact .pk h1 (at_envK h hv h2)
  | .pe x ver n i j, c', xs, hr, hR => by
    unfold rv at hr
    cases hv : verOk kO s x ver <;> rw [hv] at hr <;> cases hr
    cases hR with | pe h1 h2 => exact .pe h1 (at_envK h hv h2)
  | .pf n len f i j, c', xs, hr, hR => by
    simp only [rv, Option.some.injEq] at hr
    subst hr
    cases hR with
    | pf h1 h2 h3 h4 => exact .pf h1 ⟨ok_envK h2.1, h2.2⟩ (fun i hi => (h3 i hi).le cold_envK') h4
  | .fn f first cap, c', xs, hr, hR => by
    unfold rv at hr
    cases h1 : rvL kF kO s first <;> cases h2 : rvL kF kO s cap <;> simp only [h1, h2] at hr <;> try (cases hr; done)
    cases hr
    cases hR with
    | fn h3 h4 => exact .fn (rvL_ok h hF h1 h3) (rvL_ok h hF h2 h4)
  | .dv, c', xs, hr, hR => by
    unfold rv at hr
    cases hv : verOk kO s dx 0 <;> rw [hv] at hr <;> cases hr
    cases hR with | dv h1 h2 => exact .dv h1 (at_envK h hv h2)
  | .any, c', xs, hr, hR => by
    simp only [rv, Option.some.injEq] at hr; subst hr; cases hR; exact .any (by assumption)
  | .pa len f, c', xs, hr, hR => by
    simp only [rv, Option.some.injEq] at hr
    subst hr
    cases hR with
    | pa h1 h2 h3 h4 => exact .pa h1 ⟨ok_envK h2.1, h2.2⟩ (fun i hi => (h3 i hi).le cold_envK') h4
theorem rvL_ok (h : GamE A s a w env) (hF : FrzG A kF s) : ∀ {l l' : List PC} {xs : List Value}, rvL kF kO s l = some l' → RL (ctxOf A w env) l xs → RL (ctxOf A w (envK kO env)) l' xs
  | [], l', xs, hr, hR => by
    simp only [rvL, Option.some.injEq] at hr; subst hr; cases hR; exact .nil
  | c :: l, l', xs, hr, hR => by
    unfold rvL at hr
    cases h1 : rv kF kO s c <;> cases h2 : rvL kF kO s l <;> simp only [h1, h2] at hr <;> try (cases hr; done)
    cases hr
    cases hR with
    | cons h3 h4 => exact .cons (rv_ok h hF h1 h3) (rvL_ok h hF h2 h4)
end
theorem rvW_ok (h : GamE A s a w env) (hF : FrzG A kF s) {x x' : PW} {v : Value} (hr : rvW kF kO s x = some x') (hR : RW (ctxOf A w env) x v) : RW (ctxOf A w (envK kO env)) x' v := by
  cases hR with
  | @one c _ h1 =>
    unfold rvW at hr
    cases hq : rv kF kO s c <;> simp only [hq] at hr <;> try (cases hr; done)
    cases hr
    exact .one (rv_ok h hF hq h1)
  | @agg l _ h1 =>
    unfold rvW at hr
    cases hq : rvL kF kO s l <;> simp only [hq] at hr <;> try (cases hr; done)
    cases hr
    exact .agg (rvL_ok h hF hq h1)
theorem rvWs_at : ∀ {l l' : List PW} {i : Nat} {x' : PW}, rvWs kF kO s l = some l' → l'[i]? = some x' → ∃ x, l[i]? = some x ∧ rvW kF kO s x = some x'
  | [], l', i, x', h, hi => by simp only [rvWs, Option.some.injEq] at h; subst h; simp at hi
  | y :: l, l', i, x', h, hi => by
    unfold rvWs at h
    cases h1 : rvW kF kO s y <;> cases h2 : rvWs kF kO s l <;> simp only [h1, h2] at h <;> try (cases h; done)
    rename_i y' l2
    cases h
    cases i with
    | zero =>
      obtain rfl : y' = x' := by simpa using hi
      exact ⟨y, rfl, h1⟩
    | succ i =>
      obtain ⟨x, h3, h4⟩ := rvWs_at h2 (by simpa using hi : l2[i]? = some x')
      exact ⟨x, by simpa using h3, h4⟩
theorem rvWs_len : ∀ {l l' : List PW}, rvWs kF kO s l = some l' → l.length = l'.length
  | [], l', h => by simp only [rvWs, Option.some.injEq] at h; subst h; rfl
  | y :: l, l', h => by
    unfold rvWs at h
    cases h1 : rvW kF kO s y <;> cases h2 : rvWs kF kO s l <;> simp only [h1, h2] at h <;> try (cases h; done)
    cases h
    rw [List.length_cons, List.length_cons, rvWs_len h2]
theorem rvV_ok (h : GamE A s a w env) (hF : FrzG A kF s) {x x' : PV} {v : Value} (hr : rvV kF kO s x = some x') (hR : RV (ctxOf A w env) x v) : RV (ctxOf A w (envK kO env)) x' v := by
  cases hR with
  | @w x _ h1 =>
    unfold rvV at hr
    cases hq : rvW kF kO s x <;> simp only [hq] at hr <;> try (cases hr; done)
    cases hr
    exact .w (rvW_ok h hF hq h1)
  | @tup l _ hl h1 =>
    unfold rvV at hr
    cases hq : rvWs kF kO s l <;> simp only [hq] at hr <;> try (cases hr; done)
    cases hr
    refine .tup (by rw [← rvWs_len hq]; exact hl) (fun i x' hi => ?_)
    obtain ⟨x, h3, h4⟩ := rvWs_at hq hi
    obtain ⟨v, h5, h6⟩ := h1 i x h3
    exact ⟨v, h5, rvW_ok h hF h4 h6⟩
  | none =>
    simp only [rvV, Option.some.injEq] at hr
    subst hr
    exact .none
theorem keepT_at : ∀ {kT : List Nat} {l : List (Nat × Option Bool × PV)} {t : Nat} {g : Option Bool} {pv : PV}, keepT kF kO s kT = some l → find l t = some (g, pv) → ∃ v, find s.t t = some (g, v) ∧ rvV kF kO s v = some pv
  | [], l, t, g, pv, h, hf => by simp only [keepT, Option.some.injEq] at h; subst h; cases hf
  | t0 :: kT, l, t, g, pv, h, hf => by
    unfold keepT at h
    cases h1 : find s.t t0 <;> cases h2 : keepT kF kO s kT <;> simp only [h1, h2] at h <;> try (cases h; done)
    rename_i p r
    obtain ⟨g0, v0⟩ := p
    dsimp only at h
    cases h3 : rvV kF kO s v0 <;> simp only [h3] at h <;> try (cases h; done)
    cases h
    by_cases ht : t0 = t
    · subst ht
      rw [find_cons_eq] at hf
      cases hf
      exact ⟨v0, h1, h3⟩
    · rw [find_cons_ne _ _ ht] at hf
      exact keepT_at h2 hf
theorem keepO_at : ∀ {l : List Nat} {cs : List Prop} {r : Wr} {x : Nat}, keepO kF kO s l = some (cs, r) → (find r x = none → ¬ (l.any (Nat.beq x) = true)) ∧ ∀ g ver ob, find r x = some (g, ver, ob) → ver = 0 ∧ l.any (Nat.beq x) = true ∧ ∃ vr ob0 c, find s.o x = some (g, vr, ob0) ∧ rvO kF kO s ob0 = some (c, ob) ∧ (All cs → All c)
  | [], cs, r, x, h => by
    simp only [keepO, Option.some.injEq, Prod.mk.injEq] at h
    obtain ⟨rfl, rfl⟩ := h
    exact ⟨fun _ => by simp, fun g ver ob hf => by cases hf⟩
  | x0 :: l, cs, r, x, h => by
    unfold keepO at h
    cases h1 : find s.o x0 <;> cases h2 : keepO kF kO s l <;> simp only [h1, h2] at h <;> try (cases h; done)
    rename_i p q
    obtain ⟨g0, vr0, ob0⟩ := p
    obtain ⟨cs2, r2⟩ := q
    dsimp only at h
    cases h3 : rvO kF kO s ob0 <;> simp only [h3] at h <;> try (cases h; done)
    rename_i z
    obtain ⟨c, ob'⟩ := z
    cases h
    have allL : ∀ {a b : List Prop}, All (a ++ b) → All a ∧ All b := by
      intro a
      induction a with
      | nil => intro b h; exact ⟨trivial, h⟩
      | cons p a ih => intro b h; exact ⟨⟨h.1, (ih h.2).1⟩, (ih h.2).2⟩
    by_cases hx : x0 = x
    · subst hx
      refine ⟨fun hf => (by rw [find_cons_eq] at hf; cases hf), fun g ver ob hf => ?_⟩
      rw [find_cons_eq] at hf
      cases hf
      exact ⟨rfl, by simp, vr0, ob0, c, h1, h3, fun h => (allL h).1⟩
    · have ih := keepO_at (x := x) h2
      refine ⟨fun hf => ?_, fun g ver ob hf => ?_⟩
      · rw [find_cons_ne _ _ hx] at hf
        have := ih.1 hf
        rw [List.any_cons]
        simp only [Bool.or_eq_true, not_or]
        exact ⟨fun e => hx (beqT e).symm, this⟩
      · rw [find_cons_ne _ _ hx] at hf
        obtain ⟨h4, h5, vr, ob1, c1, h6, h7, h8⟩ := ih.2 g ver ob hf
        exact ⟨h4, by rw [List.any_cons, h5, Bool.or_true], vr, ob1, c1, h6, h7, fun h => h8 (allL h).2⟩
theorem rvO_ok (h : GamE A s a w env) (hF : FrzG A kF s) {ob ob' : AObj} {c : List Prop} {hd : Value} (hr : rvO kF kO s ob = some (c, ob')) (hc : All c) (hO : ObjOk (ctxOf A w env) hd ob) : ObjOk (ctxOf A w (envK kO env)) hd ob' := by
  cases ob with
  | dead => simp only [rvO, Option.some.injEq, Prod.mk.injEq] at hr; obtain ⟨_, rfl⟩ := hr; trivial
  | dev O stp l => simp only [rvO, Option.some.injEq, Prod.mk.injEq] at hr; obtain ⟨_, rfl⟩ := hr; trivial
  | box t l =>
    unfold rvO at hr
    cases hq : rvL kF kO s l <;> simp only [hq] at hr <;> try (cases hr; done)
    cases hr
    obtain ⟨g, cs, rfl, h1, h2⟩ := hO
    exact ⟨g, cs, rfl, h1, rvL_ok h hF hq h2⟩
  | arr e n len f =>
    simp only [rvO, Option.some.injEq, Prod.mk.injEq] at hr
    obtain ⟨rfl, rfl⟩ := hr
    obtain ⟨vs, h1, h2⟩ := hO
    exact ⟨vs, h1, fun i hi => (coldPL_le (h2 i hi) (hc.1 i hi)).le cold_envK⟩
theorem find_mem {α : Type} : ∀ {l : List (Nat × α)} {x : Nat} {p : α}, find l x = some p → (x, p) ∈ l
  | (k, y) :: l, x, p, h => by
    by_cases hk : k = x
    · subst hk; rw [find_cons_eq] at h; cases h; exact List.mem_cons_self
    · rw [find_cons_ne _ _ hk] at h; exact List.mem_cons_of_mem _ (find_mem h)
theorem all_app : ∀ {a b : List Prop}, All (a ++ b) → All a ∧ All b := by
  intro a
  induction a with
  | nil => intro b h; exact ⟨trivial, h⟩
  | cons p a ih => intro b h; exact ⟨⟨h.1, (ih h.2).1⟩, (ih h.2).2⟩
theorem Gam.resetF {kT : List Nat} {cs : List Prop} {s' : St} (h : Gam A s a w) (hSF : kF = [] ∨ A.S = Non) (hr : resetStF kF kT kO s = some (cs, s')) (hcA : All cs) : Gam A s' a w := by
  obtain ⟨env, h⟩ := h
  unfold resetStF at hr
  cases h1 : keepT kF kO s kT <;> cases h2 : keepO kF kO s kO <;> cases h3 : extKept kO s <;> cases h4 : keepF s kF <;> simp only [h1, h2, h3, h4] at hr <;> try (cases hr; done)
  rename_i t q cf
  obtain ⟨cs', o⟩ := q
  cases hr
  have hc : All cs' := (all_app hcA).1
  have hF : FrzG A kF s := by
    rcases hSF with rfl | hS
    · exact FrzG.nil
    · exact keepF_ok hS h4 (all_app hcA).2
  refine ⟨envK kO env, { chg := h.chg, size := h.size, dom := fun x hx => ?_, objs := fun x g ver ob hf => ?_, live := fun x ver hd b he hb => ?_, inj := fun x y v1 h1 v2 h2 b he1 he2 hb1 hb2 => ?_, tmps := fun t' g pv hf hg => ?_, defers := h.defers, und := fun t' pv hf => (by obtain ⟨v, h4, _⟩ := keepT_at h1 hf; exact h.und t' v h4), exts := fun x hd hx => ?_, dev := fun g ver O stp l hf hg => ?_ }⟩
  · have := (keepO_at (x := x) h2).1 hx
    unfold envK
    cases hb : kO.any (Nat.beq x) with
    | true => exact absurd hb this
    | false => rfl
  · obtain ⟨rfl, hk, vr, ob0, c, h4, h5, h6⟩ := (keepO_at (x := x) h2).2 g ver ob hf
    obtain ⟨hd, h7, h8⟩ := h.objs x g vr ob0 h4
    refine ⟨hd, ?_, fun hg => rvO_ok h hF h5 (h6 hc) (h8 hg)⟩
    unfold envK
    rw [hk, h7]
    rfl
  · unfold envK at he
    split at he
    · cases hx : env x with
      | none => rw [hx] at he; cases he
      | some p => obtain ⟨v, hd'⟩ := p; rw [hx] at he; cases he; exact h.live x v _ b hx hb
    · cases he
  · unfold envK at he1 he2
    split at he1
    · split at he2
      · cases hx : env x with
        | none => rw [hx] at he1; cases he1
        | some p =>
          cases hy : env y with
          | none => rw [hy] at he2; cases he2
          | some q => obtain ⟨v, hd'⟩ := p; obtain ⟨v2', hd2'⟩ := q; rw [hx] at he1; rw [hy] at he2; cases he1; cases he2; exact h.inj x y v _ v2' _ b hx hy hb1 hb2
      · cases he2
    · cases he1
  · obtain ⟨v, h4, h5⟩ := keepT_at h1 hf
    obtain ⟨val, h6, h7⟩ := h.tmps t' g v h4 hg
    exact ⟨val, h6, rvV_ok h hF h5 h7⟩
  · obtain ⟨hb, ha⟩ := h.exts x hd hx
    refine ⟨hb, ?_⟩
    obtain ⟨vr, hd', h4, _, h5⟩ := ha
    have h4' : env x = some (vr, hd') := h4
    cases hf : find s.o x with
    | none => rw [h.dom x hf] at h4'; cases h4'
    | some p =>
      obtain ⟨g, vr2, ob⟩ := p
      have h6 := List.all_eq_true.1 h3 _ (find_mem hf)
      dsimp only at h6
      rw [hb] at h6
      rw [Bool.and_eq_true] at h6
      obtain ⟨hd2, h7, _⟩ := h.objs x g vr2 ob hf
      rw [h4'] at h7
      cases h7
      refine ⟨0, hd', ?_, Nat.le_refl _, fun _ => h5 (beqT h6.2).symm⟩
      show envK kO env x = some (0, hd')
      unfold envK
      rw [h6.1, h4']
      rfl
  · obtain ⟨rfl, hk, vr, ob0, c, h4, h5, h6⟩ := (keepO_at (x := dx) h2).2 g ver _ hf
    have h7 : ob0 = .dev O stp l := by
      cases ob0 <;> simp only [rvO] at h5
      · split at h5 <;> cases h5
      · cases h5
      · cases h5
      · cases h5; rfl
    subst h7
    obtain ⟨h8, h9, h10⟩ := h.dev g vr O stp l h4 hg
    refine ⟨h8, h9, A.dv.grow _ _ _ _ _ h10 (Chg.refl _ _) (fun b hb => .inl ?_)⟩
    rcases hb with hb | ⟨y, v2, hd2, h11, h12⟩
    · exact .inl hb
    · unfold envK at h11
      split at h11
      · cases hy : env y with
        | none => rw [hy] at h11; cases h11
        | some p => obtain ⟨v, hd'⟩ := p; rw [hy] at h11; cases h11; exact .inr ⟨y, v, _, hy, h12⟩
      · cases h11
theorem Gam.reset {kT : List Nat} {cs : List Prop} {s' : St} (h : Gam A s a w) (hr : resetSt kT kO s = some (cs, s')) (hc : All cs) : Gam A s' a w := by
  refine h.resetF (kF := []) (kT := kT) (kO := kO) (cs := cs) (.inl rfl) ?_ hc
  unfold resetSt at hr
  unfold resetStF keepF
  cases h1 : keepT [] kO s kT <;> cases h2 : keepO [] kO s kO <;> cases h3 : extKept kO s <;> simp only [h1, h2, h3] at hr <;> try (cases hr; done)
  cases hr
  simp
inductive SameO : AObj → AObj → Prop where
  | box {t : TypeId} {l l' : List PC} (h : l = l') : SameO (.box t l) (.box t l')
  | arr {e n len len' : Nat} {f f' : Nat → List PC} (hl : len = len') (h : ∀ i, i < len → f i = f' i) : SameO (.arr e n len f) (.arr e n len' f')
  | dead {o : AObj} : SameO o .dead
  | dev {O : List Acc → Option Res} {stp : List Acc → Prop} {l l' : List Acc} (h : l = l') : SameO (.dev O stp l) (.dev O stp l')
inductive SameT : List (Nat × Option Bool × PV) → List (Nat × Option Bool × PV) → Prop where
  | nil : SameT [] []
  | cons {t : Nat} {g : Option Bool} {v v' : PV} {l l' : List (Nat × Option Bool × PV)} (h : v = v') (hl : SameT l l') : SameT ((t, g, v) :: l) ((t, g, v') :: l')
inductive SameW : Wr → Wr → Prop where
  | nil : SameW [] []
  | cons {x ver : Nat} {g : Option Bool} {o o' : AObj} {l l' : Wr} (h : SameO o o') (hl : SameW l l') : SameW ((x, g, ver, o) :: l) ((x, g, ver, o') :: l')
theorem SameT.eq {l l' : List (Nat × Option Bool × PV)} (h : SameT l l') : l = l' := by
  induction h with
  | nil => rfl
  | cons h _ ih => rw [h, ih]
theorem SameW.find {l l' : Wr} (h : SameW l l') (x : Nat) : (find l x = none ∧ find l' x = none) ∨ ∃ g ver o o', find l x = some (g, ver, o) ∧ find l' x = some (g, ver, o') ∧ SameO o o' := by
  induction h with
  | nil => exact .inl ⟨rfl, rfl⟩
  | @cons y ver g o o' l l' h _ ih =>
    by_cases hy : y = x
    · subst hy; exact .inr ⟨g, ver, o, o', find_cons_eq _ _ _, find_cons_eq _ _ _, h⟩
    · rw [find_cons_ne _ _ hy, find_cons_ne _ _ hy]; exact ih
theorem SameO.ok {C : Ctx} {hd : Value} {o o' : AObj} (h : SameO o o') (hO : ObjOk C hd o) : ObjOk C hd o' := by
  cases h with
  | box h => rw [← h]; exact hO
  | arr hl h =>
    subst hl
    obtain ⟨vs, h1, h2⟩ := hO
    exact ⟨vs, h1, fun i hi => by rw [← h i hi]; exact h2 i hi⟩
  | dead => trivial
  | dev _ => trivial
theorem Gam.same {s' : St} (h : Gam A s a w) (hT : SameT s.t s'.t) (hO : SameW s.o s'.o) : Gam A s' a w := by
  obtain ⟨env, h⟩ := h
  refine ⟨env, { chg := h.chg, size := h.size, dom := fun x hx => ?_, objs := fun x g ver ob hf => ?_, live := h.live, inj := h.inj, tmps := fun t g pv hf => ?_, defers := h.defers, und := fun t pv hf => (by rw [← hT.eq] at hf; exact h.und t pv hf), exts := h.exts, dev := fun g ver O stp l hf hg => ?_ }⟩
  · rcases hO.find x with h1 | ⟨g, ver, o, o', _, h2, _⟩
    · exact h.dom x h1.1
    · rw [h2] at hx; cases hx
  · rcases hO.find x with h1 | ⟨g', ver', o, o', h1, h2, h3⟩
    · rw [h1.2] at hf; cases hf
    · rw [h2] at hf
      cases hf
      obtain ⟨hd, h4, h5⟩ := h.objs x _ _ o h1
      exact ⟨hd, h4, fun hg => h3.ok (h5 hg)⟩
  · rw [← hT.eq] at hf
    exact h.tmps t g pv hf
  · rcases hO.find dx with h1 | ⟨g', ver', o, o', h1, h2, h3⟩
    · rw [h1.2] at hf; cases hf
    · rw [h2] at hf
      cases hf
      cases h3 with
      | dev e => subst e; exact h.dev g ver _ _ _ h1 hg
theorem Gam.nilRow {x e n t : Nat} (h : Gam A s a w) (hx : find s.o x = none) (ht : find s.t t = some (none, lit1 (.slice none 0 0))) : Gam A { t := (t, none, pv1 (.ow x 0 n 0 0)) :: s.t, o := (x, none, 0, .arr e n 0 (fun _ => [])) :: s.o } a w := by
  obtain ⟨env, h⟩ := h
  have hfr : fresh s x = 0 := by unfold fresh; rw [hx]
  obtain ⟨h1, h2⟩ := h.new (w' := w) x none (.slice none 0 0) (.arr e n 0 (fun _ => [])) (Ext.refl w) (fun b hb => by cases hb) (fun _ _ => ⟨[], ⟨by simp, .inl ⟨rfl, rfl⟩⟩, fun i hi => by omega⟩)
  rw [hfr] at h1 h2
  refine ⟨_, { h1 with tmps := fun t' g pv hf hg => ?_, und := fun t' pv hf => ?_ }⟩
  rotate_left 1
  · by_cases ht' : t = t'
    · subst ht'; rw [find_cons_eq] at hf; cases hf
    · rw [find_cons_ne _ _ ht'] at hf; exact h1.und t' pv hf
  by_cases ht' : t = t'
  · subst ht'
    rw [find_cons_eq] at hf
    cases hf
    obtain ⟨v, h3, h4⟩ := h.tmps t none _ ht trivial
    have := h4.lit_inv
    subst this
    exact ⟨_, h3, .w (.one (.ow ⟨_, _, rfl⟩ ⟨0, _, updE_eq _ _ _ _, Nat.le_refl _, fun _ => ⟨none, 0, 0, rfl, by omega, rfl⟩⟩))⟩
  · rw [find_cons_ne _ _ ht'] at hf
    exact h1.tmps t' g pv hf hg
end
theorem RL.repl {C : Ctx} {c c' : PC} {l2 : List PC} (hc : ∀ ys, R C c ys → R C c' ys) : ∀ {l1 : List PC} {xs : List Value}, RL C (l1 ++ c :: l2) xs → RL C (l1 ++ c' :: l2) xs
  | [], _, h => by cases h with | cons h1 h2 => exact .cons (hc _ h1) h2
  | _ :: l1, _, h => by cases h with | cons h1 h2 => exact .cons h1 (RL.repl hc (l1 := l1) h2)
theorem Gam.nilRowB {A : Amb} {s : St} {a : Act} {w : World} {x e n b vr ty : Nat} {l1 l2 : List PC} (h : Gam A s a w) (hx : find s.o x = none) (hb : find s.o b = some (none, vr, .box ty (l1 ++ .lit (.slice none 0 0) :: l2))) :
    Gam A { t := s.t, o := (b, none, vr, .box ty (l1 ++ .ow x 0 n 0 0 :: l2)) :: (x, none, 0, .arr e n 0 (fun _ => [])) :: s.o } a w := by
  obtain ⟨env, h⟩ := h
  have hfr : fresh s x = 0 := by unfold fresh; rw [hx]
  obtain ⟨h1, h2⟩ := h.new (w' := w) x none (.slice none 0 0) (.arr e n 0 (fun _ => [])) (Ext.refl w) (fun b hb => by cases hb) (fun _ _ => ⟨[], ⟨by simp, .inl ⟨rfl, rfl⟩⟩, fun i hi => by omega⟩)
  rw [hfr] at h1 h2
  have hxb : x ≠ b := fun e => by subst e; rw [hx] at hb; cases hb
  refine ⟨_, { h1 with dom := fun x' hf => ?_, objs := fun x' g ver o hf => ?_, tmps := fun t' g pv hf hg => h1.tmps t' g pv hf hg, dev := fun g ver O stp l hf hg => ?_ }⟩
  · by_cases hbx : b = x'
    · subst hbx; rw [find_cons_eq] at hf; cases hf
    · rw [find_cons_ne _ _ hbx] at hf
      exact h1.dom x' hf
  · by_cases hbx : b = x'
    · subst hbx
      rw [find_cons_eq] at hf
      cases hf
      obtain ⟨hd, h3, h4⟩ := h1.objs b none vr _ (show find ((x, none, 0, AObj.arr e n 0 (fun _ => [])) :: s.o) b = _ by rw [find_cons_ne _ _ hxb]; exact hb)
      refine ⟨hd, h3, fun hg => ?_⟩
      obtain ⟨g, cs, rfl, h5, h6⟩ := h4 hg
      refine ⟨g, cs, rfl, h5, h6.repl (fun ys hr => ?_)⟩
      cases hr
      exact .ow ⟨_, _, rfl⟩ ⟨0, _, updE_eq _ _ _ _, Nat.le_refl _, fun _ => ⟨none, 0, 0, rfl, by omega, rfl⟩⟩
    · rw [find_cons_ne _ _ hbx] at hf
      exact h1.objs x' g ver o hf
  · by_cases hbx : b = dx
    · subst hbx; rw [find_cons_eq] at hf; cases hf
    · rw [find_cons_ne _ _ hbx] at hf
      exact h1.dev g ver O stp l hf hg
theorem appF_ext {k : Nat} {f g f2 : Nat → List PC} (h1 : ∀ i, i < k → f i = f2 i) (h2 : g 0 = f2 k) : ∀ i, i < k + 1 → appF k f g i = f2 i := fun i hi => by
  unfold appF
  by_cases h : i < k
  · rw [if_pos h]; exact h1 i h
  · obtain rfl : i = k := by omega
    rw [if_neg h, Nat.sub_self]; exact h2
theorem appF_cold {k : Nat} {f g : Nat → List PC} (h1 : ∀ i, i < k → ∀ x ∈ f i, coldPC false x = true) (h2 : ∀ x ∈ g 0, coldPC false x = true) : ∀ i, i < k + 1 → ∀ x ∈ appF k f g i, coldPC false x = true := fun i hi x hx => by
  unfold appF at hx
  by_cases h : i < k
  · rw [if_pos h] at hx; exact h1 i h x hx
  · obtain rfl : i = k := by omega
    rw [if_neg h, Nat.sub_self] at hx; exact h2 x hx
theorem one_cold {c : PC} (h : coldPC false c = true) : ∀ x ∈ [c], coldPC false x = true := fun x hx => by
  rw [List.mem_singleton.1 hx]; exact h
end Go.Proofs.YtihghljfmlbfhaaDoor.Pv


namespace Go.Proofs.YtihghljfmlbfhaaDoor.Pv
open Go.RowKit
section
variable {P : Program} {I : World → Prop} {A : Amb} {s : St} {a : Act} {w : World} {env : Env} {F : Option Bool → PV → Wr → Prop}
theorem GamE.new_own (h : GamE A s a w env) (nm : Nat) (e n len : Nat) {f : Nat → List PC} {v : Value} {xs : List Value} {w' : World} (hE : Ext w w') (ho : w'.ownsRow w.heap.size e n v len xs) (hr : ∀ C : Ctx, ∀ i, i < len → RL C (f i) ((xs.drop (i * n)).take n)) :
    ∃ env', GamE A { s with o := [(nm, none, fresh s nm, .arr e n len f)] ++ s.o } a w' env' ∧ RV (ctxOf A w' env') (pv1 (.ow nm (fresh s nm) n 0 len)) v := by
  have ho0 : w'.ownsRow 0 e n v len xs := ⟨ho.1, ho.2.imp id (fun ⟨g, cap, cur, h1, _, h3⟩ => ⟨g, cap, cur, h1, Nat.zero_le _, h3⟩)⟩
  obtain ⟨A0, c0, rfl⟩ := own_slice ho
  obtain ⟨h1, h2⟩ := h.new (w' := w') nm none (.slice A0 len c0) (.arr e n len f) hE (fun b hb => by
      have hb' : (Value.slice A0 len c0).ownBlock = some b := by cases A0 <;> exact hb
      exact ⟨(ho.lt b hb').2, (ho.lt b hb').1⟩)
    (fun hle _ => ⟨xs, ownX_of ho0, fun i hi => hr _ i hi⟩)
  refine ⟨_, h1, .w (.one (.ow ⟨_, _, rfl⟩ ⟨_, _, updE_eq _ _ _ _, Nat.le_refl _, fun _ => ⟨_, _, _, rfl, by omega, ?_⟩⟩))⟩
  cases A0 with
  | none => simp
  | some ad => simp [Addr.add]
def expC (c : PC) (k : PC → M) : M := match c with
  | .lit v => k (.lit v)
  | .bs n l => k (.bs n l)
  | .sl n len f => k (.sl n len f)
  | .ow x ver n off len => .obj x fun g vr ob => guardT g (match Nat.beq ver vr, ob with
    | true, .arr _ m tot f => (match Nat.beq n m with
      | true => .need (off + len ≤ tot ∧ ∀ i, i < len → (f (off + i)).all (coldPC false) = true) (k (.sl n len (fun i => f (off + i))))
      | false => .fail)
    | _, _ => .fail)
  | .ob x ver off len => .obj x fun g vr ob => guardT g (match Nat.beq ver vr, ob with
    | true, .box _ l => (match bsAt l off with
      | some (m, bs) => (match Nat.beq len m with
        | true => k (.sl 1 len (byF bs))
        | false => .fail)
      | none => .fail)
    | _, _ => .fail)
  | .any => k .any
  | _ => .fail
def expL : List PC → (List PC → M) → M
  | [], k => k []
  | c :: l, k => expC c fun c => expL l fun l => k (c :: l)
def expV (v : PV) (k : PV → M) : M := match v with
  | .w (.one c) => expC c fun c => k (.w (.one c))
  | .w (.agg l) => expL l fun l => k (.w (.agg l))
  | _ => .fail
def expVs : List PV → (List PV → M) → M
  | [], k => k []
  | v :: l, k => expV v fun v => expVs l fun l => k (v :: l)
def anyCtx (w : World) : Ctx := { w, ok := fun _ => True, env := fun _ => none }
theorem cold_any' : (ctxOf A w env).cold.Le (anyCtx w).cold := ⟨Nat.le_refl _, fun b _ _ => ⟨trivial, rfl⟩, fun _ _ _ h => by cases h⟩
theorem expC_ok (h : GamE A s a w env) {c : PC} {xs : List Value} (hr : R (ctxOf A w env) c xs) {k : PC → M} (hk : (expC c k).ok none s F) : ∃ c', R (anyCtx w) c' xs ∧ (k c').ok none s F := by
  unfold expC at hk
  split at hk
  · cases hr; exact ⟨_, .lit (by assumption), hk⟩
  · cases hr; exact ⟨_, .bs (by assumption), hk⟩
  · cases hr with
    | sl h1 h2 h3 => exact ⟨_, .sl h1 (fun g hg hl => ⟨trivial, (h2 g hg hl).2⟩) (fun i hi => (h3 i hi).le cold_any'), hk⟩
  · rename_i x ver n off len
    obtain ⟨g, vr, ob, hfo, hk⟩ := hk
    have hk2 := guardT_ok hk
    clear hk
    obtain ⟨hg, hk⟩ := hk2
    obtain ⟨hd, hev, hob⟩ := obj_at h hfo hg
    cases hb : Nat.beq ver vr <;> cases ob <;> simp only [hb] at hk <;> try exact hk.elim
    rename_i e m tot f
    obtain rfl := beqT hb
    cases hb4 : Nat.beq n m <;> rw [hb4] at hk
    · exact hk.elim
    obtain rfl := beqT hb4
    obtain ⟨⟨hle, hcold⟩, hk⟩ := hk
    cases hr with
    | ow h1 hat =>
      obtain ⟨A0, n0, c0, rfl, hle0, rfl⟩ := hat.now hev
      obtain ⟨vs, hown, hel⟩ := hob
      have hrd := Reads.of_ownX hown
      have hn0 : n0 = tot := by
        obtain ⟨_, A1, c1, e1, _⟩ := hrd
        cases e1; rfl
      subst hn0
      refine ⟨_, .sl (vs := (vs.drop (off * n)).take (len * n)) (reads_slice hle hrd) (fun b hb hlt => ⟨trivial, ?_⟩) (fun i hi => ?_), hk⟩
      · cases A0 with
        | none => simp [Value.ownBlock] at hb
        | some ad =>
          simp only [Option.map_some, Value.ownBlock, Option.some.injEq, block_of_add] at hb
          exact (h.live x ver _ b hev (by simp [hblk, hb])).1
      · rw [window_window vs hi]
        exact (coldPL_le (hel _ (by omega)) (hcold i hi)).le cold_any'
  · rename_i x ver off len
    obtain ⟨g, vr, ob, hfo, hk⟩ := hk
    have hk2 := guardT_ok hk
    clear hk
    obtain ⟨hg, hk⟩ := hk2
    obtain ⟨hd, hev, hob⟩ := obj_at h hfo hg
    cases hb : Nat.beq ver vr <;> cases ob <;> simp only [hb] at hk <;> try exact hk.elim
    rename_i bt l
    obtain rfl := beqT hb
    cases hs : bsAt l off with
    | none => rw [hs] at hk; exact hk.elim
    | some q =>
      obtain ⟨m, bs⟩ := q
      rw [hs] at hk
      dsimp only at hk
      cases hb2 : Nat.beq len m <;> rw [hb2] at hk
      · exact hk.elim
      obtain rfl := beqT hb2
      cases hr with
      | ob h1 hat =>
        obtain ⟨g1, c, rfl, hc1, hc2, rfl⟩ := hat.now hev
        obtain ⟨g2, cs, e2, hB, hR⟩ := hob
        cases e2
        obtain ⟨k1, k2, k3⟩ := bsAt_range hR hs
        have hrg := range_drop hB.range off len
        rw [Nat.zero_add, k2] at hrg
        refine ⟨_, .sl (vs := bs.map u8w) ⟨by simp [k1], _, c, rfl, hc1, hc2, fun hn => ⟨g1, off, rfl, fun j u hj => hrg j u hj⟩⟩ (fun b hb _ => ⟨trivial, ?_⟩) (fun i hi => byF_cells _ bs i (by omega)), hk⟩
        simp only [Value.ownBlock, Option.some.injEq] at hb
        subst hb
        exact hB.lt
  · cases hr; exact ⟨_, .any (by assumption), hk⟩
  · exact hk.elim
theorem expL_ok (h : GamE A s a w env) : ∀ {l : List PC} {xs : List Value} {k : List PC → M}, RL (ctxOf A w env) l xs → (expL l k).ok none s F → ∃ l', RL (anyCtx w) l' xs ∧ (k l').ok none s F
  | [], _, k, hr, hk => by cases hr; exact ⟨[], .nil, hk⟩
  | c :: l, _, k, hr, hk => by
    cases hr with
    | cons h1 h2 =>
      obtain ⟨c', h3, hk2⟩ := expC_ok h h1 hk
      obtain ⟨l', h4, hk3⟩ := expL_ok h h2 hk2
      exact ⟨c' :: l', .cons h3 h4, hk3⟩
theorem expV_ok (h : GamE A s a w env) {v : PV} {val : Value} {k : PV → M} (hr : RV (ctxOf A w env) v val) (hk : (expV v k).ok none s F) : ∃ v', RV (anyCtx w) v' val ∧ (k v').ok none s F := by
  unfold expV at hk
  split at hk
  · obtain ⟨c', h1, h2⟩ := expC_ok h hr.inv hk
    exact ⟨_, .w (.one h1), h2⟩
  · cases hr with
    | w hr => cases hr with
      | agg hr =>
        obtain ⟨l', h1, h2⟩ := expL_ok h hr hk
        exact ⟨_, .w (.agg h1), h2⟩
  · exact hk.elim
theorem expVs_ok (h : GamE A s a w env) : ∀ {vs : List PV} {l : List Value} {k : List PV → M}, Vals (ctxOf A w env) vs l → (expVs vs k).ok none s F → ∃ vs', Vals (anyCtx w) vs' l ∧ (k vs').ok none s F
  | [], [], k, _, hk => ⟨[], trivial, hk⟩
  | [], _ :: _, _, h, _ => h.elim
  | _ :: _, [], _, h, _ => h.elim
  | v :: vs, x :: l, k, ⟨h1, h2⟩, hk => by
    obtain ⟨v', h3, hk2⟩ := expV_ok h h1 hk
    obtain ⟨vs', h4, hk3⟩ := expVs_ok h h2 hk2
    exact ⟨v' :: vs', ⟨h3, h4⟩, hk3⟩
def isColdV : PV → Bool
  | .w (.one c) => coldPC false c
  | .w (.agg l) => l.all (coldPC false)
  | _ => false
def funSpec (new : Bool) (g : List PV → Option (Prop × PV)) : Spec := fun _ xs => match new with
  | true => expVs xs fun ys => (match g ys with
    | some (p, r) => .need p (.ret r)
    | none => .fail)
  | false => (match xs.all isColdV, g xs with
    | true, some (p, r) => .need p (.ret r)
    | _, _ => .fail)
theorem coldV_le {C : Ctx} {v : PV} {x : Value} (h : RV C v x) (hc : isColdV v = true) : RV C.cold v x := by
  unfold isColdV at hc
  split at hc
  · exact .w (.one (coldPC_le h.inv hc))
  · cases h with
    | w h => cases h with
      | agg h => exact .w (.agg (coldPL_le h hc))
  · cases hc
theorem coldVs_le {C : Ctx} : ∀ {vs : List PV} {l : List Value}, Vals C vs l → vs.all isColdV = true → Vals C.cold vs l
  | [], [], _, _ => trivial
  | [], _ :: _, h, _ => h.elim
  | _ :: _, [], h, _ => h.elim
  | v :: vs, x :: l, ⟨h1, h2⟩, hc => by
    rw [List.all_cons, Bool.and_eq_true] at hc
    exact ⟨coldV_le h1 hc.1, coldVs_le h2 hc.2⟩
theorem res_le (h : GamE A s a w env) {w' : World} (_ : Ext w w') {new : Bool} : ({ w := w', ok := fun b => (new = false ∧ (ctxOf A w env).ok b) ∨ w.heap.size ≤ b, env := fun _ => none } : Ctx).Le (ctxOf A w' env) :=
  ⟨Nat.le_refl _, fun b _ hb => ⟨(by
    rcases hb with ⟨_, hb⟩ | hb
    · exact hb
    · exact ⟨.inr (Nat.le_trans h.chg.size hb), fun x ver hd he hbl => by have := (h.live x ver hd b he hbl).1; omega⟩), rfl⟩, fun _ _ _ h => by cases h⟩
theorem funSpec_ok {f : Nat} {new : Bool} {g : List PV → Option (Prop × PV)} (hent : ∀ args w, (callFunc f args).run P w = .ok (.enter f args) w) (hg : ∀ xs p r, g xs = some (p, r) → p → FunOk P I f new xs r) : SpecOk P I f (funSpec new g) := by
  refine ⟨hent, fun A s a w env nm pvs vs F h hI hv hk => ?_⟩
  unfold funSpec at hk
  cases new with
  | true =>
    obtain ⟨ys, h1, hk⟩ := expVs_ok h hv hk
    cases hq : g ys with
    | none => rw [hq] at hk; exact hk.elim
    | some q =>
      obtain ⟨p, r⟩ := q
      rw [hq] at hk
      obtain ⟨hp, hF⟩ := hk
      refine (hg ys p r hq hp w (fun _ => True) vs (hI.mem w h.chg) h1).mono ?_
      rintro e w' ⟨val, rfl, hE, hr⟩
      refine .inl ⟨r, [], val, env, rfl, hF, h.ext hE, hr.le ⟨Nat.le_refl _, fun b hb hok => ?_, fun _ _ _ h => by cases h⟩⟩
      exact (res_le (new := true) h hE).blk b hb (hok.elim (fun h => by cases h.1) (fun h => .inr h))
  | false =>
    dsimp only at hk
    cases hc : pvs.all isColdV <;> cases hq : g pvs <;> simp only [hc, hq] at hk <;> try exact hk.elim
    rename_i q
    obtain ⟨p, r⟩ := q
    obtain ⟨hp, hF⟩ := hk
    refine (hg pvs p r hq hp w (ctxOf A w env).ok vs (hI.mem w h.chg) (coldVs_le hv hc)).mono ?_
    rintro e w' ⟨val, rfl, hE, hr⟩
    exact .inl ⟨r, [], val, env, rfl, hF, h.ext hE, hr.le (res_le (new := false) h hE)⟩
end
end Go.Proofs.YtihghljfmlbfhaaDoor.Pv


namespace Go.Proofs.YtihghljfmlbfhaaDoor.Pv
open Go.RowKit
section
variable {P : Program} {I : World → Prop}
def frzSpec (g : List PV → Option (Prop × PV)) : Spec := fun _ xs => match xs with
  | [v0, .w (.one (.ow x ver n off len))] => .obj x fun gd vr ob => guardT gd (match Nat.beq ver vr, Nat.blt x dx, ob with
    | true, true, .arr _ m tot f => (match Nat.beq n m, isColdV v0, g [v0, pv1 (.sl n len (fun i => f (off + i)))] with
      | true, true, some (p, r) => .need ((off + len ≤ tot ∧ ∀ i, i < len → (f (off + i)).all (coldPC false) = true) ∧ p) (.upd x (ver + 1) .dead (.ret r))
      | _, _, _ => .fail)
    | _, _, _ => .fail)
  | _ => .fail
theorem frzSpec_ok {f : Nat} {g : List PV → Option (Prop × PV)} (hent : ∀ args w, (callFunc f args).run P w = .ok (.enter f args) w) (hg : ∀ xs p r, g xs = some (p, r) → p → FunOk P I f false xs r) : SpecOk P I f (frzSpec g) := by
  refine ⟨hent, fun A s a w env nm pvs vs F h hI hv hk => ?_⟩
  unfold frzSpec at hk
  split at hk
  · rename_i v0 x ver n off len
    obtain ⟨gd, vr, ob, hfo, hk⟩ := hk
    have hk2 := guardT_ok hk
    clear hk
    obtain ⟨hgt, hk⟩ := hk2
    obtain ⟨hd, hev, hob⟩ := obj_at h hfo hgt
    cases hb : Nat.beq ver vr <;> cases hb1 : Nat.blt x dx <;> cases ob <;> simp only [hb, hb1] at hk <;> try exact hk.elim
    rename_i e m tot f'
    obtain rfl := beqT hb
    cases hb4 : Nat.beq n m <;> cases hb5 : isColdV v0 <;> cases hq : g [v0, pv1 (.sl n len (fun i => f' (off + i)))] <;> simp only [hb4, hb5, hq] at hk <;> try exact hk.elim
    rename_i q
    obtain ⟨p, r⟩ := q
    obtain rfl := beqT hb4
    obtain ⟨⟨⟨hle, hcold⟩, hp⟩, _, hF⟩ := hk
    match vs, hv with
    | [x0, x1], ⟨k0, k1, _⟩ =>
      cases k1 with
      | w k1 => cases k1 with
        | one k1 => cases k1 with
          | ow h1 hat =>
            obtain ⟨A0, n0, c0, rfl, hle0, rfl⟩ := hat.now hev
            obtain ⟨xs, hown, hel⟩ := hob
            have hrd := Reads.of_ownX hown
            have hn0 : n0 = tot := by
              obtain ⟨_, A1, c1, e1, _⟩ := hrd
              cases e1; rfl
            subst hn0
            obtain ⟨h', hL⟩ := h.upd (w' := w) x none (ver + 1) (.bool false) .dead (Chg.refl _ _) (fun ver' hd' he => by rw [hev] at he; cases he; exact .inl (Nat.lt_succ_self _)) (fun b hb => by cases hb) (fun _ _ => trivial)
            have hargs : Vals { w := w, ok := (ctxOf A w (updE env x (ver + 1) (.bool false))).ok, env := fun _ => none } [v0, pv1 (.sl n len (fun i => f' (off + i)))] [x0, .slice (A0.map (·.add (off * n))) len (c0 - off)] := by
              refine ⟨(coldV_le k0 hb5).le ⟨Nat.le_refl _, fun b hb hok => ⟨(hL.blk b hb hok).1, rfl⟩, fun _ _ _ h => by cases h⟩, .w (.one (.sl (vs := (xs.drop (off * n)).take (len * n)) (reads_slice hle hrd) (fun b hb hlt => ?_) (fun i hi => ?_))), trivial⟩
              · have hbl : hblk (.slice A0 n0 c0) = some b := by
                  cases A0 with
                  | none => simp [Value.ownBlock] at hb
                  | some ad =>
                    simp only [Option.map_some, Value.ownBlock, Option.some.injEq, block_of_add] at hb
                    simp [hblk, hb]
                obtain ⟨j1, j2⟩ := h.live x ver _ b hev hbl
                refine ⟨⟨.inr (j2.resolve_right (fun hs => ?_)), fun y vy hy he hyb => ?_⟩, j1⟩
                · have := Nat.le_of_ble_eq_true hs.2
                  have := Nat.le_of_ble_eq_true hb1
                  omega
                · have he' : updE env x (ver + 1) (.bool false) y = some (vy, hy) := he
                  by_cases hyx : y = x
                  · subst hyx
                    rw [updE_eq] at he'
                    cases he'
                    cases hyb
                  · rw [updE_ne hyx] at he'
                    exact hyx (h.inj y x vy hy ver _ b he' hev hyb hbl)
              · rw [window_window xs hi]
                exact (coldPL_le (hel _ (by omega)) (hcold i hi)).le ⟨Nat.le_refl _, fun b hb hok => ⟨(hL.blk b hb hok).1, rfl⟩, fun _ _ _ h => by cases h⟩
            refine (hg _ p r hq hp w _ _ (hI.mem w h.chg) hargs).mono ?_
            rintro e w' ⟨val, rfl, hE, hr⟩
            exact .inl ⟨r, [(x, none, ver + 1, .dead)], val, _, rfl, hF, h'.ext hE, hr.le (res_le (new := false) h' hE)⟩
  · exact hk.elim
end
end Go.Proofs.YtihghljfmlbfhaaDoor.Pv


namespace Go.Proofs.YtihghljfmlbfhaaDoor.Pv
open Go.RowKit
theorem flat_rl {C C' : Ctx} : ∀ {l : List PC} {xs : List Value}, RL C l xs → l.all (coldPC true) = true → RL C' l xs
  | [], _, h, _ => by cases h; exact .nil
  | c :: l, xs, h, hc => by
    rw [List.all_cons, Bool.and_eq_true] at hc
    cases h with
    | cons h3 h4 =>
      refine .cons ?_ (flat_rl h4 hc.2)
      have hc1 := hc.1
      cases h3 <;> first | exact .lit (by assumption) | exact .bs (by assumption) | (cases hc1; done)
def FunRow (P : Program) (I : World → Prop) (f : Nat) (args : List PV) (e n len : Nat) (f' : Nat → List PC) : Prop :=
  ∀ (w : World) (ok0 : Nat → Prop) (vs : List Value), I w → Vals { w, ok := ok0, env := fun _ => none } args vs →
    Calls P f vs.toArray w fun r w' => ∃ val xs, r = .returned val ∧ Ext w w' ∧ w'.ownsRow w.heap.size e n val len xs ∧ ∀ (C : Ctx) i, i < len → RL C (f' i) ((xs.drop (i * n)).take n)
def RowTo (P : Program) (fn : Func) (e n len : Nat) (f' : Nat → List PC) (s : St) : Prop :=
  ∃ x ver g f, (retM P fn.results).ok none s (fun _ v' wr => v' = pv1 (.ow x ver n 0 len) ∧ wr = []) ∧ find s.o x = some (g, ver, .arr e n len f) ∧ gT g ∧ ∀ i, i < len → f i = f' i ∧ (f' i).all (coldPC true) = true
def RQR (P : Program) (A : Amb) (fn : Func) (e n len : Nat) (f' : Nat → List PC) : Exit → Act → World → Prop
  | .panic chain, a, w => a.defers = [] ∧ PanG A chain w
  | x, a, w => (x = .normal ∨ x = .ret) ∧ ∃ s, RowTo P fn e n len f' s ∧ Gam A s a w
theorem rowTo_of {P : Program} {fn : Func} {e n len x ver : Nat} {g : Option Bool} {f f' : Nat → List PC} {s : St} {out : Out} (h : (retM P fn.results).exec none s [] [] [] [] = some out) (hc : All out.conds) (hw : out.wr = []) (hx : out.val = pv1 (.ow x ver n 0 len)) (hf : find s.o x = some (g, ver, .arr e n len f)) (hg : gT g) (hff : ∀ i, i < len → f i = f' i ∧ (f' i).all (coldPC true) = true) : RowTo P fn e n len f' s := by
  rw [exec_nil] at h
  exact ⟨x, ver, g, f, M.ok_of_run _ none s out _ h (fun p hp => hc.mem p hp) ⟨hx, hw⟩, hf, hg, hff⟩
theorem funRow_of {P : Program} {I : World → Prop} {f : Nat} {fn : Func} {c : Code} {args : List PV} {e n len : Nat} {f' : Nat → List PC} (hf : P.funcs[f]? = some fn) (hb : fn.body = some c) (hnb : Nat.ble args.length fn.ntmps = true) (hI : ∀ w w', Ext w w' → I w → I w')
    (hT : ∀ A : Amb, A.S = Non → A.nt = fn.ntmps → AmbOk P I A → Tri P A ⟨slots 0 args, []⟩ c (RQR P A fn e n len f')) (hmk : Nat.blt e mkT = true := by rfl) : FunRow P I f args e n len f' := by
  intro w ok0 vs hIw hv
  have hn := Nat.le_of_ble_eq_true hnb
  have hlen := hv.length
  have hg : Gam (Amb.plain w ok0 fn.ntmps) ⟨slots 0 args, []⟩ { tmps := vs.toArray ++ Array.replicate (fn.ntmps - vs.toArray.size) undef, defers := [] } w := by
    refine ⟨fun _ => none, { chg := Chg.refl _ _, size := ?_, dom := fun x _ => rfl, objs := fun x g ver o h => (by cases h), live := fun x ver hd b h => (by cases h), inj := fun x y v1 h1 v2 h2 b h => (by cases h), tmps := fun t g pv h hgt => ?_, defers := rfl, und := fun t pv h => (by obtain ⟨k, _, h2⟩ := find_slotsG h; cases h2), exts := fun x hd h => (by cases h), dev := fun g ver O stp l h => (by cases h) }⟩
    · simp [Amb.plain]; omega
    · obtain ⟨k, h1, h2⟩ := find_slots h
      obtain ⟨v, h3, h4⟩ := hv.at h2
      rw [Nat.zero_add] at h1
      subst h1
      have hk : t < vs.length := (List.getElem?_eq_some_iff.1 h3).1
      refine ⟨v, ?_, ?_⟩
      · rw [Array.getElem?_append_left (by simpa using hk)]
        simpa using h3
      · refine h4.le ⟨Nat.le_refl _, fun b _ hb => ⟨⟨.inl hb, fun _ _ _ h => by cases h⟩, rfl⟩, fun _ _ _ h => by cases h⟩
  refine calls_of_wp hf hb (wp_mono (hT (Amb.plain w ok0 fn.ntmps) rfl rfl (AmbOk.plain fun w' hc => hI w w' hc hIw) _ w hg (fun _ _ _ hd h => ⟨hd, h⟩)) (fun x a' w' he => ?_))
  have he' : (x = .normal ∨ x = .ret) ∧ ∃ s, RowTo P fn e n len f' s ∧ Gam (Amb.plain w ok0 fn.ntmps) s a' w' := by
    cases x with
    | panic chain => obtain ⟨_, l, hl, _⟩ := he; exact hl.elim
    | _ => exact he
  obtain ⟨h1, s, ⟨x0, ver, g, f0, h2, hfo, hgt, hff⟩, h4⟩ := he'
  obtain ⟨env, hE⟩ := h4
  obtain ⟨v', val, h5, h6, h7, _⟩ := retM_ok hE h2
  subst h7
  obtain ⟨hd, hev, hob⟩ := obj_at hE hfo hgt
  obtain ⟨A0, n0, c0, rfl, hle0, rfl⟩ := h6.ow_inv hev
  obtain ⟨xs, hown, hel⟩ := hob
  have hn0 : n0 = len := by
    obtain ⟨_, A1, c1, e1, _⟩ := Reads.of_ownX hown
    cases e1; rfl
  have hown := hown.plain hmk
  subst hn0
  have hA : A0.map (fun p => p.add (0 * n)) = A0 := by
    cases A0 with
    | none => rfl
    | some ad => simp [Addr.add]
  have hown2 : w'.ownsRow w.heap.size e n (.slice A0 n0 c0) n0 xs := ⟨hown.1, hown.2.imp id (fun ⟨g, cap, cur, h1, _, h3⟩ => ⟨g, cap, cur, h1, by
    have := (hE.live x0 ver _ g hev (by rw [h1]; rfl)).2
    exact this.resolve_right (fun h => h.1), h3⟩)⟩
  have this : a'.defers = [] ∧ ∃ v, (results fn a'.tmps).run P w' = .ok v w' ∧ ∃ val xs, Ending.returned v = .returned val ∧ Ext w w' ∧ w'.ownsRow w.heap.size e n val n0 xs ∧ ∀ (C : Ctx) i, i < n0 → RL C (f' i) ((xs.drop (i * n)).take n) := by
    refine ⟨hE.defers, _, h5, _, xs, rfl, hE.chg, ?_, fun C i hi => ?_⟩
    · first | exact hown2 | (simp only [Nat.zero_mul, Nat.sub_zero] at hA ⊢; rw [hA]; exact hown2)
    · have h8 := hel i hi
      rw [(hff i hi).1] at h8
      exact flat_rl h8 (hff i hi).2
  rcases h1 with rfl | rfl <;> exact this
def rowSpec (g : List PV → Option (Prop × Nat × Nat × Nat × (Nat → List PC))) : Spec := fun nm xs => expVs xs fun ys => match g ys with
  | some (p, e, n, len, f) => .need p (.new nm (.arr e n len f) fun v => .ret (pv1 (.ow nm v n 0 len)))
  | none => .fail
theorem rowSpec_ok {P : Program} {I : World → Prop} {f : Nat} {g : List PV → Option (Prop × Nat × Nat × Nat × (Nat → List PC))} (hent : ∀ args w, (callFunc f args).run P w = .ok (.enter f args) w) (hg : ∀ xs p e n len f', g xs = some (p, e, n, len, f') → p → FunRow P I f xs e n len f') : SpecOk P I f (rowSpec g) := by
  refine ⟨hent, fun A s a w env nm pvs vs F h hI hv hk => ?_⟩
  unfold rowSpec at hk
  obtain ⟨ys, h1, hk⟩ := expVs_ok h hv hk
  cases hq : g ys with
  | none => rw [hq] at hk; exact hk.elim
  | some q =>
    obtain ⟨p, e, n, len, f'⟩ := q
    rw [hq] at hk
    obtain ⟨hp, hk⟩ := hk
    refine (hg ys p e n len f' hq hp w (fun _ => True) vs (hI.mem w h.chg) h1).mono ?_
    rintro r w' ⟨val, xs, rfl, hE, ho, hr⟩
    obtain ⟨env', h3, h4⟩ := h.new_own nm e n len (f := f') hE ho hr
    exact .inl ⟨_, _, _, env', rfl, hk, h3, h4⟩
@[simp] theorem polB_true (b : Bool) : polB true b = b := rfl
@[simp] theorem polB_false (b : Bool) : polB false b = !b := rfl
@[simp] theorem all_nil_ : All [] = True := rfl
@[simp] theorem all_cons_ (p : Prop) (l : List Prop) : All (p :: l) = (p ∧ All l) := rfl
@[simp] theorem hP_none (p : Prop) : hP none p = p := rfl
@[simp] theorem hP_some (b : Bool) (p : Prop) : hP (some b) p = (b = true → p) := rfl
end Go.Proofs.YtihghljfmlbfhaaDoor.Pv
