/-
  Several texts in one file: each has its own heading below.
-/
import Derived.Test.YtihghljfmlbfhaaGreatDoorRzD
import Derived.Deep.LoopGhost
import Derived.WalkKit
import Derived.Laws.BitsAllLaws
import Derived.Test.YtihghljfmlbfhaaGreatDoorProg
import Derived.Test.YtihghljfmlbfhaaGreatDoorRzA
import Derived.Outline
set_option maxRecDepth 100000
set_option maxHeartbeats 4000000
namespace Go.Proofs.YtihghljfmlbfhaaGreatDoor.Pv
open Go.RowKit
def Tri (P : Program) (A : Amb) (s : St) (c : Code) (Q : Exit → Act → World → Prop) : Prop := ∀ a w, Gam A s a w → PanQ A Q → c.wp P Q a w
def Aft (A : Amb) (s : St) (Q : Act → World → Prop) : Prop := ∀ a w, Gam A s a w → Q a w
def Nxt (P : Program) (A : Amb) (c : Code) (Q : Exit → Act → World → Prop) : Act → World → Prop := fun a w => PanQ A Q → c.wp P Q a w
structure Mach (P : Program) (I : World → Prop) (G : Specs) : Prop where
 specs : aAp P I G
 mixed : P.follows .mixedOrders = true
def dstsB (nt : Nat) (l : List Oper) : Bool := l.all fun o => match o.dst with
 | some d => Nat.blt d nt
 | none => true
def aUc (s : St) (x : Nat) (k : Nat → Option Out) : Option Out := match find s.o x with
 | some (_, vr, _) => k (vr + 1)
 | none => k 0
theorem aUb (s : St) (x : Nat) (k : Nat → Option Out) : aUc s x k = k (fresh s x) := by
 unfold aUc fresh
 cases find s.o x with
 | none => rfl
 | some p => rfl
def M.exec : M → Option Bool → St → List Prop → List Nat → List Nat → Wr → Option Out
 | .ret v, h, _, c, rt, ro, wr => some ⟨h, v, c, rt, ro, wr⟩
 | .fail, _, _, _, _, _, _ => none
 | .need p k, h, s, c, rt, ro, wr => k.exec h s (c ++ [hP h p]) rt ro wr
 | .tmp t k, h, s, c, rt, ro, wr => match find s.t t with
  | some (g, v) => (k g v).exec h s c (rt ++ [t]) ro wr
  | none => none
 | .obj x k, h, s, c, rt, ro, wr => match find s.o x with
  | some (g, vr, ob) => (k g vr ob).exec h s c rt (ro ++ [x]) wr
  | none => none
 | .new x ob k, h, s, c, rt, ro, wr => aUc s x fun v => (k v).exec h s c rt (ro ++ [x]) (wr ++ [(x, h, v, ob)])
 | .upd x vr ob k, h, s, c, rt, ro, wr => match h with
  | none => k.exec none s c rt ro (wr ++ [(x, none, vr, ob)])
  | some _ => none
 | .gate b k, h, s, c, rt, ro, wr => match h with
  | none => k.exec (some b) s c rt ro wr
  | some _ => none
def aHw (c : List Prop) (rt ro : List Nat) (wr : Wr) (o : Out) : Out := ⟨o.g, o.val, c ++ o.conds, rt ++ o.rt, ro ++ o.ro, wr ++ o.wr⟩
theorem exec_eq : ∀ (m : M) (h : Option Bool) (s : St) (c : List Prop) (rt ro : List Nat) (wr : Wr), m.exec h s c rt ro wr = (m.run h s).map (aHw c rt ro wr) := by
 intro m
 induction m with
 | ret v => intro h s c rt ro wr; simp [M.exec, M.run, aHw]
 | fail => intro h s c rt ro wr; rfl
 | need p k ih => intro h s c rt ro wr; rw [M.exec, M.run, ih]; cases k.run h s <;> simp [aHw]
 | tmp t k ih =>
  intro h s c rt ro wr
  rw [M.exec, M.run]
  cases find s.t t with
  | none => rfl
  | some p => obtain ⟨g, v⟩ := p; dsimp only; rw [ih]; cases (k g v).run h s <;> simp [aHw]
 | obj x k ih =>
  intro h s c rt ro wr
  rw [M.exec, M.run]
  cases find s.o x with
  | none => rfl
  | some p => obtain ⟨g, vr, ob⟩ := p; dsimp only; rw [ih]; cases (k g vr ob).run h s <;> simp [aHw]
 | new x ob k ih => intro h s c rt ro wr; rw [M.exec, M.run, aUb, ih]; cases (k (fresh s x)).run h s <;> simp [aHw]
 | upd x vr ob k ih =>
  intro h s c rt ro wr
  cases h with
  | some b => rfl
  | none => rw [M.exec, M.run, ih]; cases k.run none s <;> simp [aHw]
 | gate b k ih =>
  intro h s c rt ro wr
  cases h with
  | some b => rfl
  | none => rw [M.exec, M.run, ih]
theorem vM (m : M) (h : Option Bool) (s : St) : m.exec h s [] [] [] [] = m.run h s := by
 rw [exec_eq]
 cases m.run h s <;> simp [aHw]
def pushW {α : Type} : Wr → Wr → (Wr → α) → α
 | [], o, k => k o
 | p :: l, o, k => pushW l o fun r => k (p :: r)
theorem aLc {α : Type} : ∀ (l o : Wr) (k : Wr → α), pushW l o k = k (l ++ o)
 | [], _, _ => rfl
 | p :: l, o, k => by rw [pushW, aLc l]; rfl
def appK {α : Type} (d : Option Nat) (out : Out) (s : St) (k : St → α) : α := match out, s with
 | ⟨g, v, _, _, _, wr⟩, ⟨t, o⟩ => pushW wr o fun o' => match d with
  | some d => k ⟨(d, g, v) :: t, o'⟩
  | none => k ⟨t, o'⟩
theorem appK_eq {α : Type} (d : Option Nat) (out : Out) (s : St) (k : St → α) : appK d out s k = k (app d out s) := by
 obtain ⟨g, v, c, rt, ro, wr⟩ := out
 obtain ⟨t, o⟩ := s
 unfold appK
 dsimp only
 rw [aLc]
 cases d <;> rfl
def yT (mop : Nat → Oper → M) : Nat → List Oper → St → Option (List (Option Nat × Out) × St)
 | _, [], s => some ([], s)
 | i, o :: l, s => match (mop i o).exec none s [] [] [] [] with
  | some out => appK o.dst out s fun s1 => (match yT mop (i + 1) l s1 with
   | some (outs, s') => some ((o.dst, out) :: outs, s')
   | none => none)
  | none => none
theorem aBq (mop : Nat → Oper → M) : ∀ (l : List Oper) (i : Nat) (s : St), yT mop i l s = oH mop i l s
 | [], _, _ => rfl
 | o :: l, i, s => by
  rw [yT, oH, vM]
  cases (mop i o).run none s with
  | none => rfl
  | some out =>
   dsimp only
   rw [appK_eq, aBq mop l]
   rfl
def All : List Prop → Prop
 | [] => True
 | p :: l => p ∧ All l
theorem All.mem : ∀ {l : List Prop}, All l → ∀ p ∈ l, p
 | [], _, p, h => by cases h
 | q :: l, ⟨h1, h2⟩, p, h => by
  rcases List.mem_cons.1 h with rfl | h
  ·exact h1
  ·exact h2.mem p h
section
variable {P : Program} {I : World → Prop} {G : Specs} {A : Amb} {s s' : St} {Q : Exit → Act → World → Prop}
theorem aS (M : Mach P I G) (hI : AmbOk P I A) {nt : Nat} (hnt : A.nt = nt) {rid : Nat} {ops : Array Oper} {draw : Bool} {outs : List (Option Nat × Out)} (h : yT (mopOf P G rid ops.toList) 0 ops.toList s = some (outs, s')) (hcl : (vN draw ops.toList outs && dstsB nt ops.toList) = true) (hc : All ((outs.map fun q => q.2.conds).flatten)) (hQ : Aft A s' (Q .normal)) : Tri P A s (.region rid ops draw) Q := by
 intro a w hg hPQ
 subst hnt
 rw [aBq] at h
 rw [Bool.and_eq_true] at hcl
 refine aEw (ops_ok M.specs hI hPQ rid ops (fun i o d ho hd => ?_)) (aHb A) (fun s a w h => h.drew) M.mixed h (fun q hq p hp => hc.mem p (List.mem_flatten.2 ⟨_, List.mem_map.2 ⟨q, hq, rfl⟩, hp⟩)) hcl.1 hg (fun a' w' hg' => hQ a' w' hg')
 have := List.all_eq_true.1 hcl.2 o (by rw [← Array.getElem?_toList] at ho; exact List.mem_of_getElem? ho)
 rw [hd] at this
 have h3 : d + 1 ≤ A.nt := by simpa [Nat.blt] using this
 exact h3
theorem aI {x y : Code} (h : Tri P A s x (Exit.then (Nxt P A y Q) Q)) : Tri P A s (.seq x y) Q := fun a w hg hPQ =>
 wp_seq (wp_mono (h a w hg hPQ) (fun e a' w' he => by
  cases e <;> first | exact he | exact he hPQ))
theorem aB (M : Mach P I G) (hI : AmbOk P I A) {nt : Nat} (hnt : A.nt = nt) {rid : Nat} {ops : Array Oper} {draw : Bool} {outs : List (Option Nat × Out)} {y : Code} (h : yT (mopOf P G rid ops.toList) 0 ops.toList s = some (outs, s')) (hcl : (vN draw ops.toList outs && dstsB nt ops.toList) = true) (hc : All ((outs.map fun q => q.2.conds).flatten)) (hQ : Tri P A s' y Q) : Tri P A s (.seq (.region rid ops draw) y) Q :=
 aI (aS M hI hnt h hcl hc (fun a w hg => hQ a w hg))
def condOf (s : St) (c : Operand) : Option Bool := match c with
 | .tmp t => (match find s.t t with
  | some (none, .w (.one (.lit (.bool b)))) => some b
  | _ => none)
 | _ => none
theorem aN (h : Aft A s (Q .normal)) : Tri P A s .skip Q := fun a w hg _ => wp_skip (h a w hg)
theorem dZ {id : Nat} (h : Aft A s (Q (.exit id))) : Tri P A s (.exit id) Q := fun a w hg _ => wp_exit (h a w hg)
theorem bC (h : Aft A s (Q .ret)) : Tri P A s .ret Q := fun a w hg _ => wp_ret (h a w hg)
theorem bI {id : Nat} {c : Code} (h : Tri P A s c (Exit.inBlock id Q)) : Tri P A s (.block id c) Q := fun a w hg hPQ => wp_block (h a w hg hPQ)
theorem aJ {c : Operand} {x y : Code} {b : Bool} (hc : condOf s c = some b) (h1 : b = true → Tri P A s x Q) (h2 : b = false → Tri P A s y Q) : Tri P A s (.cond c x y) Q := fun a w hg hPQ => by
 obtain ⟨env, hE⟩ := hg
 have hv : a.eval c = .bool b := by
  cases c with
  | tmp t =>
   unfold condOf at hc
   dsimp only at hc
   split at hc
   ·rename_i b' hf
    cases hc
    obtain ⟨v, h3, h4⟩ := hE.tmps t none _ hf trivial
    have := h4.bool_inv
    subst this
    simp only [Act.eval]
    rw [Array.getD_eq_getD_getElem?, h3]
    rfl
   ·cases hc
  | _ => cases hc
 refine wp_cond hv ?_
 cases b with
 | true => exact h1 rfl a w ⟨env, hE⟩ hPQ
 | false => exact h2 rfl a w ⟨env, hE⟩ hPQ
theorem aV {c : Code} (h : ∀ a w, Gam A s a w → Gam A s' a w) (hT : Tri P A s' c Q) : Tri P A s c Q := fun a w hg hPQ => hT a w (h a w hg) hPQ
theorem fV {c : Code} (n : Nat) (J : Nat → St → Prop) (k0 : Nat) (h0 : J k0 s) (hk : k0 ≤ n)
  (round : ∀ k s, J k s → k ≤ n → Tri P A s c (Exit.then (fun a w => ∃ k' s', k < k' ∧ k' ≤ n ∧ J k' s' ∧ Gam A s' a w) Q)) : Tri P A s (.loop c) Q := fun a w hg hPQ => by
 refine wp_loop_ghost (fun m a w => ∃ k s, m = n - k ∧ k ≤ n ∧ J k s ∧ Gam A s a w) (n - k0) ⟨k0, s, rfl, hk, h0, hg⟩ (fun m a w hm => ?_)
 obtain ⟨k, s, rfl, hkn, hJ, hg⟩ := hm
 refine wp_mono (round k s hJ hkn a w hg hPQ) (fun e a' w' he => ?_)
 cases e <;> first | exact he | skip
 obtain ⟨k', s', h1, h2, h3, h4⟩ := he
 exact ⟨n - k', by omega, k', s', rfl, h2, h3, h4⟩
def resS (tmps : Array Value) (r : ResultVar) : Sem Value := match r with
 | .tmp t => pure (tmps.getD t undef)
 | .cell b t => do loadVar t (← asAddr (tmps.getD b undef))
theorem aNv (fn : Func) (tmps : Array Value) : results fn tmps = (do let vs ← fn.results.mapM (resS tmps); pure (if h : vs.size = 1 then vs[0] else .tuple vs)) := by
 unfold results
 congr 1
theorem aIw {a : Act} {w : World} {env : Env} (h : GamE A s a w env) {F : Option Bool → PV → Wr → Prop} : ∀ {rs : List ResultVar} {k : List PW → M}, (resM P rs k).ok none s F →
  ∃ xs vs, (rs.mapM (resS a.tmps)).run P w = .ok vs w ∧ xs.length = vs.length ∧ (∀ (i : Nat) (x : PW), xs[i]? = some x → ∃ v : Value, vs[i]? = some v ∧ RW (aY A w env) x v) ∧ (k xs).ok none s F
 | [], k, hk => ⟨[], [], by simp, rfl, fun i x hx => by simp at hx, hk⟩
 | .tmp t :: rs, k, hk => by
  obtain ⟨pv, hp, hk⟩ := eH h hk
  split at hk
  ·rename_i x
   obtain ⟨xs, vs, h1, h2, h3, h4⟩ := aIw h hk
   refine ⟨x :: xs, a.tmps.getD t undef :: vs, ?_, by simp [h2], fun i y hy => ?_, h4⟩
   ·rw [List.mapM_cons, show resS a.tmps (.tmp t) = pure (a.tmps.getD t undef) from rfl]
    simp only [Sem.run_bind, Sem.run_pure, Result.andThen_ok, h1]
   ·cases i with
    | zero =>
     obtain rfl : x = y := by simpa using hy
     cases hp with | w hp => exact ⟨_, rfl, hp⟩
    | succ i => exact h3 i y (by simpa using hy)
  ·exact hk.elim
 | .cell b t :: rs, k, hk => by
  obtain ⟨pv, hp, hk⟩ := eH h hk
  obtain ⟨b1, o1, x, val, hv, hrun, hval, hk⟩ := aLi h hp hk
  obtain ⟨xs, vs, h1, h2, h3, h4⟩ := aIw h hk
  have hv' : a.tmps.getD b undef = .pointer (some ⟨b1, o1, none⟩) := hv
  have hld : (loadVar t ⟨b1, o1, none⟩).run P w = .ok val w := by
   rw [hv] at hrun
   simpa [Instr.loadAt, Instr.sureAddr] using hrun
  have h0 : (resS a.tmps (.cell b t)).run P w = .ok val w := by
   unfold resS
   simp only [hv', asAddr, Sem.run_bind, Sem.run_pure, Result.andThen_ok, hld]
  refine ⟨x :: xs, val :: vs, ?_, by simp [h2], fun i y hy => ?_, h4⟩
  ·rw [List.mapM_cons]
   simp only [Sem.run_bind, Sem.run_pure, Result.andThen_ok, h0, h1]
  ·cases i with
   | zero =>
    obtain rfl : x = y := by simpa using hy
    exact ⟨_, rfl, hval⟩
   | succ i => exact h3 i y (by simpa using hy)
theorem zI {a : Act} {w : World} {env : Env} (h : GamE A s a w env) {F : Option Bool → PV → Wr → Prop} {fn : Func} (hk : (retM P fn.results).ok none s F) : ∃ v val, (results fn a.tmps).run P w = .ok val w ∧ RV (aY A w env) v val ∧ F none v [] := by
 unfold retM at hk
 obtain ⟨xs, vs, h1, h2, h3, hk⟩ := aIw h hk
 have hm : (fn.results.mapM (resS a.tmps)).run P w = .ok vs.toArray w := by
  rw [Array.mapM_eq_mapM_toList, Sem.run_map, h1]
  rfl
 rw [aNv]
 simp only [Sem.run_bind, hm, Result.andThen_ok, Sem.run_pure]
 split at hk
 ·rename_i x
  match vs, h2, h3 with
  | [v], _, h3 =>
   obtain ⟨v', e, hr⟩ := h3 0 x rfl
   cases e
   exact ⟨_, _, rfl, .w hr, hk⟩
 ·rename_i hne
  have hlen : ¬ vs.toArray.size = 1 := by
   intro e
   match xs, h2, hne with
   | [x], _, hne => exact hne x rfl
   | [], h2, _ => simp at e h2; omega
   | _ :: _ :: _, h2, _ => simp at e h2; omega
  rw [dif_neg hlen]
  exact ⟨_, _, rfl, .tup (by simpa using h2) (fun i x hx => by
   obtain ⟨v, e, hr⟩ := h3 i x hx
   exact ⟨v, by simpa using e, hr⟩), hk⟩
def slots : Nat → List PV → List (Nat × Option Bool × PV)
 | _, [] => []
 | i, v :: vs => (i, none, v) :: slots (i + 1) vs
theorem lM {i : Nat} : ∀ {vs : List PV} {t : Nat} {g : Option Bool} {pv : PV}, find (slots i vs) t = some (g, pv) → ∃ k, t = i + k ∧ vs[k]? = some pv
 | [], t, g, pv, h => by cases h
 | v :: vs, t, g, pv, h => by
  by_cases ht : i = t
  ·subst ht
   rw [slots, aP] at h
   cases h
   exact ⟨0, rfl, rfl⟩
  ·rw [slots, aO _ _ ht] at h
   obtain ⟨k, h1, h2⟩ := lM (i := i + 1) h
   exact ⟨k + 1, by omega, by simpa using h2⟩
theorem kH {i : Nat} : ∀ {vs : List PV} {t : Nat} {g : Option Bool} {pv : PV}, find (slots i vs) t = some (g, pv) → ∃ k : Nat, t = i + k ∧ g = none
 | [], t, g, pv, h => by cases h
 | v :: vs, t, g, pv, h => by
  by_cases ht : i = t
  ·subst ht
   rw [slots, aP] at h
   cases h
   exact ⟨0, rfl, rfl⟩
  ·rw [slots, aO _ _ ht] at h
   obtain ⟨k, h1, h2⟩ := kH (i := i + 1) h
   exact ⟨k + 1, by omega, h2⟩
theorem Vals.at {C : Ctx} : ∀ {vs : List PV} {l : List Value} {k : Nat} {pv : PV}, Vals C vs l → vs[k]? = some pv → ∃ v, l[k]? = some v ∧ RV C pv v
 | [], [], _, _, _, h => by simp at h
 | [], _ :: _, _, _, h, _ => h.elim
 | _ :: _, [], _, _, h, _ => h.elim
 | v :: vs, x :: l, k, pv, ⟨h1, h2⟩, h => by
  cases k with
  | zero =>
   obtain rfl : v = pv := by simpa using h
   exact ⟨x, rfl, h1⟩
  | succ k =>
   obtain ⟨v', h3, h4⟩ := Vals.at h2 (by simpa using h : vs[k]? = some pv)
   exact ⟨v', by simpa using h3, h4⟩
theorem Vals.length {C : Ctx} : ∀ {vs : List PV} {l : List Value}, Vals C vs l → vs.length = l.length
 | [], [], _ => rfl
 | [], _ :: _, h => h.elim
 | _ :: _, [], h => h.elim
 | _ :: _, _ :: _, ⟨_, h⟩ => by rw [List.length_cons, List.length_cons, h.length]
def iW (P : Program) (I : World → Prop) (f : Nat) (new : Bool) (args : List PV) (res : PV) : Prop :=
 ∀ (w : World) (ok0 : Nat → Prop) (vs : List Value), I w → Vals { w, ok := ok0, env := fun _ => none } args vs →
  Calls P f vs.toArray w fun e w' => ∃ val, e = .returned val ∧ Ext w w' ∧ RV { w := w', ok := fun b => (new = false ∧ ok0 b) ∨ w.heap.size ≤ b, env := fun _ => none } res val
def dY (new : Bool) : PC → Bool
 | .lit _ => true
 | .bs _ _ => true
 | .sl _ _ _ => !new
 | _ => false
theorem aAj {C : Ctx} {c : PC} {xs : List Value} (h : R C c xs) (hc : dY false c = true) : R C.cold c xs := by
 cases h <;> first | (cases hc; done) | skip
 ·exact .lit (by assumption)
 ·exact .bs (by assumption)
 ·exact .sl (by assumption) (by assumption) (by assumption)
theorem kR {C : Ctx} : ∀ {l : List PC} {xs : List Value}, RL C l xs → l.all (dY false) = true → RL C.cold l xs
 | [], _, h, _ => by cases h; exact .nil
 | c :: l, _, h, hc => by
  rw [List.all_cons, Bool.and_eq_true] at hc
  cases h with
  | cons h1 h2 => exact .cons (aAj h1 hc.1) (kR h2 hc.2)
def Row1 (s : St) (new : Bool) (l l' : List PC) : Prop := ∃ x ver n off len tot e g f f', l = [.ow x ver n off len] ∧ l' = [.sl n len f'] ∧ find s.o x = some (g, ver, .arr e n tot f) ∧ gT g ∧ off + len ≤ tot ∧ ∀ i, i < len → f (off + i) = f' i ∧ (f' i).all (dY new) = true
inductive ExC (s : St) (new : Bool) : PC → PC → Prop where
 | rows {x ver n off len tot e : Nat} {g : Option Bool} {f f' : Nat → List PC} (hf : find s.o x = some (g, ver, .arr e n tot f)) (hg : gT g) (hl : off + len ≤ tot) (he : ∀ i, i < len → (f (off + i) = f' i ∧ (f' i).all (dY new) = true) ∨ Row1 s new (f (off + i)) (f' i)) : ExC s new (.ow x ver n off len) (.sl n len f')
 | cold {c : PC} (h : dY new c = true) : ExC s new c c
 | row {x ver n off len tot e : Nat} {g : Option Bool} {f f' : Nat → List PC} (hf : find s.o x = some (g, ver, .arr e n tot f)) (hg : gT g) (hl : off + len ≤ tot) (he : ∀ i, i < len → f (off + i) = f' i) (hc : ∀ i, i < len → (f' i).all (dY new) = true) : ExC s new (.ow x ver n off len) (.sl n len f')
 | nil {n : Nat} {f : Nat → List PC} : ExC s new (.lit (.slice none 0 0)) (.sl n 0 f)
inductive ExL (s : St) (new : Bool) : List PC → List PC → Prop where
 | nil : ExL s new [] []
 | cons {c c' : PC} {l l' : List PC} (h : ExC s new c c') (hl : ExL s new l l') : ExL s new (c :: l) (c' :: l')
inductive ExW (s : St) (new : Bool) : PW → PW → Prop where
 | one {c c' : PC} (h : ExC s new c c') : ExW s new (.one c) (.one c')
 | agg {l l' : List PC} (h : ExL s new l l') : ExW s new (.agg l) (.agg l')
inductive ExS (s : St) (new : Bool) : List PW → List PW → Prop where
 | nil : ExS s new [] []
 | cons {c c' : PW} {l l' : List PW} (h : ExW s new c c') (hl : ExS s new l l') : ExS s new (c :: l) (c' :: l')
inductive ExV (s : St) (new : Bool) : PV → PV → Prop where
 | w {x x' : PW} (h : ExW s new x x') : ExV s new (.w x) (.w x')
 | tup {l l' : List PW} (h : ExS s new l l') : ExV s new (.tup l) (.tup l')
def OwnS (A : Amb) (s : St) (env : Env) : Prop := ∀ x g ver e n len f hd b, find s.o x = some (g, ver, .arr e n len f) → env x = some (ver, hd) → hblk hd = some b → A.S b → False
theorem OwnS.of_non {A : Amb} {s : St} {env : Env} (h : A.S = Non) : OwnS A s env := fun _ _ _ _ _ _ _ _ _ _ _ _ hb => by rw [h] at hb; exact hb
def qG (w0 : World) (ok0 : Nat → Prop) (new : Bool) : Nat → Prop := fun b => (new = false ∧ ok0 b) ∨ w0.heap.size ≤ b
theorem exC_ok {a : Act} {w : World} {env : Env} (h : GamE A s a w env) (hS : OwnS A s env) {new : Bool} {c c' : PC} {xs : List Value} (hx : ExC s new c c') (hr : R (aY A w env) c xs) : R { w, ok := qG A.w0 A.ok0 new, env := fun _ => none } c' xs := by
 have hcold : ∀ {l : List PC} {xs : List Value}, RL (aY A w env) l xs → l.all (dY new) = true → RL { w, ok := qG A.w0 A.ok0 new, env := fun _ => none } l xs := by
  intro l xs h1 h2
  cases new with
  | false => exact (kR h1 h2).le ⟨Nat.le_refl _, fun b _ hb => ⟨hb.1.elim (fun h => .inl ⟨rfl, h⟩) .inr, rfl⟩, fun _ _ _ h => by cases h⟩
  | true =>
   have flat : ∀ {l : List PC} {xs : List Value}, RL (aY A w env) l xs → l.all (dY true) = true → RL { w, ok := qG A.w0 A.ok0 true, env := fun _ => none } l xs := by
    intro l
    induction l with
    | nil => intro xs h _; cases h; exact .nil
    | cons c l ih =>
     intro xs h hc
     rw [List.all_cons, Bool.and_eq_true] at hc
     cases h with
     | cons h3 h4 =>
      refine .cons ?_ (ih h4 hc.2)
      have hc1 := hc.1
      cases h3 <;> first | exact .lit (by assumption) | exact .bs (by assumption) | (cases hc1; done)
   exact flat h1 h2
 have hrow : ∀ {x ver n off len tot e : Nat} {g : Option Bool} {f f' : Nat → List PC} {xs : List Value}, find s.o x = some (g, ver, .arr e n tot f) → gT g → off + len ≤ tot → R (aY A w env) (.ow x ver n off len) xs →
   (∀ i, i < len → ∀ ys, RL (aY A w env) (f (off + i)) ys → RL { w, ok := qG A.w0 A.ok0 new, env := fun _ => none } (f' i) ys) → R { w, ok := qG A.w0 A.ok0 new, env := fun _ => none } (.sl n len f') xs := by
  intro x ver n off len tot e g f f' xs hf hg hl hr hconv
  obtain ⟨hd, hev, hob⟩ := jC h hf hg
  cases hr with
  | ow h1 hat =>
   obtain ⟨A0, n0, c0, rfl, hle0, rfl⟩ := hat.now hev
   obtain ⟨vs, hown, hel⟩ := hob
   have hrd := Reads.of_ownX hown
   have hn0 : n0 = tot := by
    obtain ⟨_, A1, c1, e1, _⟩ := hrd
    cases e1; rfl
   subst hn0
   refine .sl (vs := (vs.drop (off * n)).take (len * n)) (pG hl hrd) (fun b hb hlt => ?_) (fun i hi => ?_)
   ·cases A0 with
    | none => simp [Value.ownBlock] at hb
    | some ad =>
     simp only [Option.map_some, Value.ownBlock, Option.some.injEq, rP] at hb
     have := h.live x ver _ b hev (by simp [hblk, hb])
     refine ⟨.inr (this.2.resolve_right (fun h4 => hS x g ver e n n0 f _ b hf hev (by simp [hblk, hb]) h4.1)), this.1⟩
   ·rw [iY vs hi]
    exact (hconv i hi _ (hel _ (by omega))).le ⟨Nat.le_refl _, fun b _ hb => ⟨hb, rfl⟩, fun _ _ _ h => by cases h⟩
 cases hx with
 | cold hc =>
  have := (hcold (RL.cons hr RL.nil) (by simp [hc])).single
  simpa using this
 | nil =>
  cases hr
  exact .sl (Reads.nil w _) (fun g hg => by simp [Value.ownBlock] at hg) (fun i hi => by omega)
 | @row x ver n off len tot e g f f' hf hg hl he hc =>
  refine hrow hf hg hl hr (fun i hi ys hy => ?_)
  rw [he i hi] at hy
  exact hcold hy (hc i hi)
 | @rows x ver n off len tot e g f f' hf hg hl he =>
  refine hrow hf hg hl hr (fun i hi ys hy => ?_)
  rcases he i hi with ⟨h1, h2⟩ | ⟨x1, v1, n1, o1, l1, t1, e1, g1, f1, f1', h1, h2, h3, h4, h5, h6⟩
  ·rw [h1] at hy
   exact hcold hy h2
  ·rw [h1] at hy
   rw [h2]
   have hz : ys = ys ++ [] := (List.append_nil ys).symm
   rw [hz]
   refine .cons (hrow h3 h4 h5 hy.single (fun k hk zs hzs => ?_)) .nil
   rw [(h6 k hk).1] at hzs
   exact hcold hzs (h6 k hk).2
theorem aLz {a : Act} {w : World} {env : Env} (h : GamE A s a w env) (hS : OwnS A s env) {new : Bool} : ∀ {l l' : List PC} {xs : List Value}, ExL s new l l' → RL (aY A w env) l xs → RL { w, ok := qG A.w0 A.ok0 new, env := fun _ => none } l' xs
 | [], _, _, hx, hr => by cases hx; cases hr; exact .nil
 | c :: l, _, _, hx, hr => by
  cases hx with
  | cons h1 h2 => cases hr with
   | cons h3 h4 => exact .cons (exC_ok h hS h1 h3) (aLz h hS h2 h4)
theorem exW_ok {a : Act} {w : World} {env : Env} (h : GamE A s a w env) (hS : OwnS A s env) {new : Bool} {x x' : PW} {v : Value} (hx : ExW s new x x') (hr : RW (aY A w env) x v) : RW { w, ok := qG A.w0 A.ok0 new, env := fun _ => none } x' v := by
 cases hx with
 | one h1 => cases hr with | one h2 => exact .one (exC_ok h hS h1 h2)
 | agg h1 => cases hr with | agg h2 => exact .agg (aLz h hS h1 h2)
theorem ExS.at {s : St} {new : Bool} : ∀ {l l' : List PW} {i : Nat} {x' : PW}, ExS s new l l' → l'[i]? = some x' → ∃ x, l[i]? = some x ∧ ExW s new x x'
 | [], _, i, x', h, hi => by cases h; simp at hi
 | y :: l, _, i, x', h, hi => by
  cases h with
  | @cons _ y' _ l' h1 h2 =>
   cases i with
   | zero =>
    obtain rfl : y' = x' := by simpa using hi
    exact ⟨y, rfl, h1⟩
   | succ i =>
    obtain ⟨x, h3, h4⟩ := ExS.at h2 (by simpa using hi : l'[i]? = some x')
    exact ⟨x, by simpa using h3, h4⟩
theorem ExS.length {s : St} {new : Bool} : ∀ {l l' : List PW}, ExS s new l l' → l.length = l'.length
 | [], _, h => by cases h; rfl
 | _ :: _, _, h => by cases h with | cons _ h2 => rw [List.length_cons, List.length_cons, h2.length]
theorem aUq {a : Act} {w : World} {env : Env} (h : GamE A s a w env) (hS : OwnS A s env) {new : Bool} {x x' : PV} {v : Value} (hx : ExV s new x x') (hr : RV (aY A w env) x v) : RV { w, ok := qG A.w0 A.ok0 new, env := fun _ => none } x' v := by
 cases hx with
 | w h1 => cases hr with | w h2 => exact .w (exW_ok h hS h1 h2)
 | tup h1 =>
  cases hr with
  | tup hl h2 =>
   refine .tup (by rw [← h1.length]; exact hl) (fun i x' hi => ?_)
   obtain ⟨x, h3, h4⟩ := h1.at hi
   obtain ⟨v, h5, h6⟩ := h2 i x h3
   exact ⟨v, h5, exW_ok h hS h4 h6⟩
def aKl (P : Program) (fn : Func) (new : Bool) (res : PV) (s : St) : Prop := ∃ v, (retM P fn.results).ok none s (fun _ v' wr => v' = v ∧ wr = []) ∧ ExV s new v res
theorem aLb {fn : Func} {new : Bool} {res : PV} {out : Out} (h : (retM P fn.results).run none s = some out) (hc : All out.conds) (hw : out.wr = []) (hx : ExV s new out.val res) : aKl P fn new res s :=
 ⟨out.val, M.ok_of_run _ none s out _ h (fun p hp => hc.mem p hp) ⟨rfl, hw⟩, hx⟩
def pwAll (p : PC → Bool) : PW → Bool
 | .one c => p c
 | .agg l => l.all p
def pvAll (p : PC → Bool) : PV → Bool
 | .w x => pwAll p x
 | .tup l => l.all (pwAll p)
 | .none => false
theorem dA {s : St} {new : Bool} : ∀ {l : List PC}, l.all (dY new) = true → ExL s new l l
 | [], _ => .nil
 | c :: l, h => by rw [List.all_cons, Bool.and_eq_true] at h; exact .cons (.cold h.1) (dA h.2)
theorem aEg {s : St} {new : Bool} {x : PW} (h : pwAll (dY new) x = true) : ExW s new x x := by
 cases x with
 | one c => exact .one (.cold h)
 | agg l => exact .agg (dA h)
theorem aLy {s : St} {new : Bool} : ∀ {l : List PW}, l.all (pwAll (dY new)) = true → ExS s new l l
 | [], _ => .nil
 | c :: l, h => by rw [List.all_cons, Bool.and_eq_true] at h; exact .cons (aEg h.1) (aLy h.2)
theorem exV_refl {s : St} {new : Bool} {v : PV} (h : pvAll (dY new) v = true) : ExV s new v v := by
 cases v with
 | w x => exact .w (aEg h)
 | tup l => exact .tup (aLy h)
 | none => cases h
theorem aK {fn : Func} {new : Bool} {res : PV} {out : Out} (h : (retM P fn.results).exec none s [] [] [] [] = some out) (hc : All out.conds) (hw : out.wr = []) (hx : pvAll (dY new) out.val = true) (he : out.val = res) : aKl P fn new res s := by
 rw [vM] at h
 subst he
 exact aLb h hc hw (exV_refl hx)
theorem iL {fn : Func} {new : Bool} {res : PV} {out : Out} (h : (retM P fn.results).exec none s [] [] [] [] = some out) (hc : All out.conds) (hw : out.wr = []) (hx : ExV s new out.val res) : aKl P fn new res s := by
 rw [vM] at h
 exact aLb h hc hw hx
def RQ (P : Program) (A : Amb) (fn : Func) (new : Bool) (res : PV) : Exit → Act → World → Prop
 | .panic chain, a, w => a.defers = [] ∧ PanG A chain w
 | e, a, w => (e = .normal ∨ e = .ret) ∧ ∃ s, aKl P fn new res s ∧ Gam A s a w
theorem panQ_RQ (P : Program) (A : Amb) (fn : Func) (new : Bool) (res : PV) : PanQ A (RQ P A fn new res) := fun _ _ _ hd h => ⟨hd, h⟩
theorem oP.non (P : Program) {stp : List Acc → Prop} : oP P Dv.non stp := fun _ _ _ h => h.elim
theorem AmbOk.plain {P : Program} {I : World → Prop} {w : World} {ok0 : Nat → Prop} {nt : Nat} (h : ∀ w', Ext w w' → I w') : AmbOk P I (Amb.plain w ok0 nt) :=
 ⟨h, fun _ h => h, fun _ h => h.elim, oP.non P, fun _ _ _ h => h.elim, fun _ _ _ _ _ _ h => h.elim⟩
theorem eF {f : Nat} {fn : Func} {c : Code} {new : Bool} {args : List PV} {res : PV} (hf : P.funcs[f]? = some fn) (hb : fn.body = some c) (hnb : Nat.ble args.length fn.ntmps = true) (hI : ∀ w w', Ext w w' → I w → I w')
  (hT : ∀ A : Amb, A.S = Non → A.nt = fn.ntmps → AmbOk P I A → Tri P A ⟨slots 0 args, []⟩ c (RQ P A fn new res)) : iW P I f new args res := by
 intro w ok0 vs hIw hv
 have hlen := hv.length
 have hn := Nat.le_of_ble_eq_true hnb
 have hg : Gam (Amb.plain w ok0 fn.ntmps) ⟨slots 0 args, []⟩ { tmps := vs.toArray ++ Array.replicate (fn.ntmps - vs.toArray.size) undef, defers := [] } w := by
  refine ⟨fun _ => none, { chg := Chg.refl _ _, size := ?_, dom := fun x _ => rfl, objs := fun x g ver o h => (by cases h), live := fun x ver hd b h => (by cases h), inj := fun x y v1 h1 v2 h2 b h => (by cases h), tmps := fun t g pv h hgt => ?_, defers := rfl, und := fun t pv h => (by obtain ⟨k, _, h2⟩ := kH h; cases h2), exts := fun x hd h => (by cases h), dev := fun g ver O stp l h => (by cases h) }⟩
  ·simp [Amb.plain]; omega
  ·obtain ⟨k, h1, h2⟩ := lM h
   obtain ⟨v, h3, h4⟩ := hv.at h2
   rw [Nat.zero_add] at h1
   subst h1
   have hk : t < vs.length := (List.getElem?_eq_some_iff.1 h3).1
   refine ⟨v, ?_, ?_⟩
   ·rw [Array.getElem?_append_left (by simpa using hk)]
    simpa using h3
   ·refine h4.le ⟨Nat.le_refl _, fun b _ hb => ⟨⟨.inl hb, fun _ _ _ h => by cases h⟩, rfl⟩, fun _ _ _ h => by cases h⟩
 refine calls_of_wp hf hb (wp_mono (hT (Amb.plain w ok0 fn.ntmps) rfl rfl (AmbOk.plain fun w' hc => hI w w' hc hIw) _ w hg (panQ_RQ _ _ _ _ _)) (fun e a' w' he => ?_))
 have he' : (e = .normal ∨ e = .ret) ∧ ∃ s, aKl P fn new res s ∧ Gam (Amb.plain w ok0 fn.ntmps) s a' w' := by
  cases e with
  | panic chain => obtain ⟨_, l, hl, _⟩ := he; exact hl.elim
  | _ => exact he
 obtain ⟨h1, s, ⟨v, h2, h3⟩, h4⟩ := he'
 obtain ⟨env, hE⟩ := h4
 obtain ⟨v', val, h5, h6, h7, _⟩ := zI hE h2
 subst h7
 have hres := aUq hE (.of_non rfl) h3 h6
 have : a'.defers = [] ∧ ∃ v, (results fn a'.tmps).run P w' = .ok v w' ∧ ∃ val, Ending.returned v = .returned val ∧ Ext w w' ∧ RV { w := w', ok := fun b => (new = false ∧ ok0 b) ∨ w.heap.size ≤ b, env := fun _ => none } res val :=
  ⟨hE.defers, val, h5, val, rfl, hE.chg, hres⟩
 rcases h1 with rfl | rfl <;> exact this
end
end Go.Proofs.YtihghljfmlbfhaaGreatDoor.Pv
namespace Go.Proofs.YtihghljfmlbfhaaGreatDoor.Pv
open Go.RowKit
def sJ (kO : List Nat) (s : St) (x ver : Nat) : Bool := match kO.any (Nat.beq x), find s.o x with
 | true, some (_, vr, _) => Nat.beq ver vr
 | _, _ => false
def frzOk (kF : List Nat) (s : St) (x ver n : Nat) : Option (Nat → List PC) := match kF.any (Nat.beq x), find s.o x with
 | true, some (none, vr, .arr _ m _ f) => (match Nat.beq ver vr, Nat.beq n m with
  | true, true => some f
  | _, _ => none)
 | _, _ => none
mutual
def rv (kF kO : List Nat) (s : St) : PC → Option PC
 | .lit v => some (.lit v)
 | .bs n l => some (.bs n l)
 | .sl n len f => some (.sl n len f)
 | .ow x ver n off len => match sJ kO s x ver with | true => some (.ow x 0 n off len) | false => (match frzOk kF s x ver n with | some f => some (.sl n len (fun i => f (off + i))) | none => none)
 | .ob x ver off len => match sJ kO s x ver with | true => some (.ob x 0 off len) | false => none
 | .pt x ver off => match sJ kO s x ver with | true => some (.pt x 0 off) | false => none
 | .pk x ver off k => match sJ kO s x ver with | true => some (.pk x 0 off k) | false => none
 | .pe x ver n i j => match sJ kO s x ver with | true => some (.pe x 0 n i j) | false => none
 | .pf n len f i j => some (.pf n len f i j)
 | .fn f first cap => match rvL kF kO s first, rvL kF kO s cap with
  | some a, some b => some (.fn f a b)
  | _, _ => none
 | .dv => match sJ kO s dx 0 with | true => some .dv | false => none
 | .any => some .any
 | .pa len f => some (.pa len f)
def rvL (kF kO : List Nat) (s : St) : List PC → Option (List PC)
 | [] => some []
 | c :: l => match rv kF kO s c, rvL kF kO s l with
  | some c', some l' => some (c' :: l')
  | _, _ => none
end
def rvW (kF kO : List Nat) (s : St) : PW → Option PW
 | .one c => match rv kF kO s c with | some c => some (.one c) | none => none
 | .agg l => match rvL kF kO s l with | some l => some (.agg l) | none => none
def rvWs (kF kO : List Nat) (s : St) : List PW → Option (List PW)
 | [] => some []
 | x :: l => match rvW kF kO s x, rvWs kF kO s l with
  | some x, some l => some (x :: l)
  | _, _ => none
def rvV (kF kO : List Nat) (s : St) : PV → Option PV
 | .w x => match rvW kF kO s x with | some x => some (.w x) | none => none
 | .tup l => match rvWs kF kO s l with | some l => some (.tup l) | none => none
 | .none => some .none
def zZ (kF kO : List Nat) (s : St) : List Nat → Option (List (Nat × Option Bool × PV))
 | [] => some []
 | t :: l => match find s.t t, zZ kF kO s l with
  | some (g, v), some r => (match rvV kF kO s v with | some v' => some ((t, g, v') :: r) | none => none)
  | _, _ => none
def rvO (kF kO : List Nat) (s : St) : AObj → Option (List Prop × AObj)
 | .box t l => match rvL kF kO s l with | some l => some ([], .box t l) | none => none
 | .arr e n len f => some ([∀ i, i < len → (f i).all (dY false) = true], .arr e n len f)
 | .dead => some ([], .dead)
 | .dev O stp l => some ([], .dev O stp l)
def aDw (kF kO : List Nat) (s : St) : List Nat → Option (List Prop × Wr)
 | [] => some ([], [])
 | x :: l => match find s.o x, aDw kF kO s l with
  | some (g, _, ob), some (cs, r) => (match rvO kF kO s ob with | some (c, ob') => some (c ++ cs, (x, g, 0, ob') :: r) | none => none)
  | _, _ => none
def aEd (kO : List Nat) (s : St) : Bool := s.o.all fun p => match Nat.ble dx p.1 with
 | true => kO.any (Nat.beq p.1) && Nat.beq p.2.2.1 0
 | false => true
def aOv (s : St) : List Nat → Option (List Prop)
 | [] => some []
 | x :: l => match find s.o x, aOv s l with
  | some (_, _, .arr _ _ len f), some cs => some ((∀ i, i < len → (f i).all (dY false) = true) :: cs)
  | _, _ => none
def aDi (kF kT kO : List Nat) (s : St) : Option (List Prop × St) := match zZ kF kO s kT, aDw kF kO s kO, aEd kO s, aOv s kF with
 | some t, some (cs, o), true, some cf => some (cs ++ cf, ⟨t, o⟩)
 | _, _, _, _ => none
def aRt (kT kO : List Nat) (s : St) : Option (List Prop × St) := match zZ [] kO s kT, aDw [] kO s kO, aEd kO s with
 | some t, some (cs, o), true => some (cs, ⟨t, o⟩)
 | _, _, _ => none
def FrzG (A : Amb) (kF : List Nat) (s : St) : Prop := ∀ x, kF.any (Nat.beq x) = true → A.S = Non ∧ ∀ g ver e n len f, find s.o x = some (g, ver, .arr e n len f) → ∀ i, i < len → (f i).all (dY false) = true
theorem FrzG.nil {A : Amb} {s : St} : FrzG A [] s := fun x h => by cases h
theorem aLm {A : Amb} (hS : A.S = Non) {s : St} : ∀ {kF : List Nat} {cs : List Prop}, aOv s kF = some cs → All cs → FrzG A kF s
 | [], _, _, _ => FrzG.nil
 | y :: l, cs, h, hc => fun x hx => ⟨hS, fun g ver e n len f hf => by
  unfold aOv at h
  split at h
  ·rename_i h1 h2
   cases h
   rw [List.any_cons, Bool.or_eq_true] at hx
   rcases hx with hx | hx
   ·obtain rfl : x = y := beqT hx
    rw [hf] at h1
    cases h1
    exact hc.1
   ·exact ((aLm hS h2 hc.2) x hx).2 g ver e n len f hf
  ·cases h⟩
def envK (kO : List Nat) (env : Env) : Env := fun x => match kO.any (Nat.beq x) with
 | true => (env x).map fun p => (0, p.2)
 | false => none
section
variable {A : Amb} {s : St} {a : Act} {w : World} {env : Env} {kF kO : List Nat}
theorem zT {b : Nat} (h : (aY A w env).ok b) : (aY A w (envK kO env)).ok b := ⟨h.1, fun x ver hd he => by
 have he' : envK kO env x = some (ver, hd) := he
 unfold envK at he'
 split at he'
 ·cases hx : env x with
  | none => rw [hx] at he'; cases he'
  | some p =>
   obtain ⟨v, hd'⟩ := p
   rw [hx] at he'
   cases he'
   exact h.2 x v _ hx
 ·cases he'⟩
theorem aVr : (aY A w env).cold.Le (aY A w (envK kO env)) := ⟨Nat.le_refl _, fun b _ h => ⟨zT h, rfl⟩, fun _ _ _ h => by cases h⟩
theorem sG : (aY A w env).cold.Le (aY A w (envK kO env)).cold := ⟨Nat.le_refl _, fun b _ h => ⟨zT (w := w) (env := env) (kO := kO) h, rfl⟩, fun _ _ _ h => by cases h⟩
theorem wI (h : GamE A s a w env) {x ver : Nat} {p : Value → Prop} (hv : sJ kO s x ver = true) (ha : At (aY A w env) x ver p) : At (aY A w (envK kO env)) x 0 p := by
 unfold sJ at hv
 split at hv
 ·rename_i g vr ob h1 h2
  obtain ⟨hd, h3, _⟩ := h.objs x g vr ob h2
  have hp := ha.now (hd := hd) (by rw [beqT hv]; exact h3)
  refine ⟨0, hd, ?_, Nat.le_refl _, fun _ => hp⟩
  show envK kO env x = some (0, hd)
  unfold envK
  rw [h1, h3]
  rfl
 ·cases hv
theorem frz_ok (h : GamE A s a w env) (hF : FrzG A kF s) {x ver n off len : Nat} {f : Nat → List PC} {xs : List Value} (hv : sJ kO s x ver = false) (hq : frzOk kF s x ver n = some f) (hR : R (aY A w env) (.ow x ver n off len) xs) : R (aY A w (envK kO env)) (.sl n len (fun i => f (off + i))) xs := by
 unfold frzOk at hq
 split at hq
 ·rename_i vr e m tot f0 hk hfo
  split at hq
  ·rename_i hb1 hb2
   cases hq
   obtain rfl := beqT hb1
   obtain rfl := beqT hb2
   have hkO : kO.any (Nat.beq x) = false := by
    unfold sJ at hv
    rw [hfo] at hv
    cases hk2 : kO.any (Nat.beq x) with
    | false => rfl
    | true => rw [hk2] at hv; dsimp only at hv; rw [hb1] at hv; cases hv
   obtain ⟨hS, hcold⟩ := hF x hk
   have hcold := hcold _ _ _ _ _ _ hfo
   obtain ⟨hd, hev, hob⟩ := h.objs x none ver _ hfo
   have hob := hob trivial
   cases hR with
   | ow h1 hat =>
    obtain ⟨A0, n0, c0, rfl, hle0, rfl⟩ := hat.now hev
    obtain ⟨vs, hown, hel⟩ := hob
    have hrd := Reads.of_ownX hown
    have hn0 : n0 = tot := by
     obtain ⟨_, A1, c1, e1, _⟩ := hrd
     cases e1; rfl
    subst hn0
    refine .sl (vs := (vs.drop (off * n)).take (len * n)) (pG hle0 hrd) (fun b hb hlt => ?_) (fun i hi => ?_)
    ·have hbl : hblk (.slice A0 n0 c0) = some b := by
      cases A0 with
      | none => simp [Value.ownBlock] at hb
      | some ad =>
       simp only [Option.map_some, Value.ownBlock, Option.some.injEq, rP] at hb
       simp [hblk, hb]
     obtain ⟨k1, k2⟩ := h.live x ver _ b hev hbl
     refine ⟨⟨.inr (k2.resolve_right (fun hs => by have hs := hs.1; rw [hS] at hs; exact hs)), fun y vy hy he hyb => ?_⟩, k1⟩
     have he' : envK kO env y = some (vy, hy) := he
     unfold envK at he'
     split at he'
     ·rename_i hky
      cases hx : env y with
      | none => rw [hx] at he'; cases he'
      | some p =>
       obtain ⟨v', hd'⟩ := p
       rw [hx] at he'
       cases he'
       have hxy := h.inj x y ver _ v' _ b hev hx hbl hyb
       subst hxy
       rw [hkO] at hky
       cases hky
     ·cases he'
    ·rw [iY vs hi]
     exact (kR (hel _ (by omega)) (hcold _ (by omega))).le sG
  ·cases hq
 ·cases hq
mutual
theorem rv_ok (h : GamE A s a w env) (hF : FrzG A kF s) : ∀ {c c' : PC} {xs : List Value}, rv kF kO s c = some c' → R (aY A w env) c xs → R (aY A w (envK kO env)) c' xs
 | .lit v, c', xs, hr, hR => by
  simp only [rv, Option.some.injEq] at hr; subst hr; cases hR; exact .lit (by assumption)
 | .bs n l, c', xs, hr, hR => by
  simp only [rv, Option.some.injEq] at hr; subst hr; cases hR; exact .bs (by assumption)
 | .sl n len f, c', xs, hr, hR => by
  simp only [rv, Option.some.injEq] at hr
  subst hr
  cases hR with
  | sl h1 h2 h3 => exact .sl h1 (fun g hg hl => ⟨zT (h2 g hg hl).1, (h2 g hg hl).2⟩) (fun i hi => (h3 i hi).le sG)
 | .ow x ver n off len, c', xs, hr, hR => by
  unfold rv at hr
  cases hv : sJ kO s x ver with
  | true =>
   rw [hv] at hr
   cases hr
   cases hR with | ow h1 h2 => exact .ow h1 (wI h hv h2)
  | false =>
   rw [hv] at hr
   dsimp only at hr
   cases hq : frzOk kF s x ver n with
   | none => rw [hq] at hr; cases hr
   | some f =>
    rw [hq] at hr
    cases hr
    exact frz_ok h hF hv hq hR
 | .ob x ver off len, c', xs, hr, hR => by
  unfold rv at hr
  cases hv : sJ kO s x ver <;> rw [hv] at hr <;> cases hr
  cases hR with | ob h1 h2 => exact .ob h1 (wI h hv h2)
 | .pt x ver off, c', xs, hr, hR => by
  unfold rv at hr
  cases hv : sJ kO s x ver <;> rw [hv] at hr <;> cases hr
  cases hR with | pt h1 h2 => exact .pt h1 (wI h hv h2)
 | .pk x ver off k, c', xs, hr, hR => by
  unfold rv at hr
  cases hv : sJ kO s x ver <;> rw [hv] at hr <;> cases hr
  cases hR with | pk h1 h2 => exact .pk h1 (wI h hv h2)
 | .pe x ver n i j, c', xs, hr, hR => by
  unfold rv at hr
  cases hv : sJ kO s x ver <;> rw [hv] at hr <;> cases hr
  cases hR with | pe h1 h2 => exact .pe h1 (wI h hv h2)
 | .pf n len f i j, c', xs, hr, hR => by
  simp only [rv, Option.some.injEq] at hr
  subst hr
  cases hR with
  | pf h1 h2 h3 h4 => exact .pf h1 ⟨zT h2.1, h2.2⟩ (fun i hi => (h3 i hi).le sG) h4
 | .fn f first cap, c', xs, hr, hR => by
  unfold rv at hr
  cases h1 : rvL kF kO s first <;> cases h2 : rvL kF kO s cap <;> simp only [h1, h2] at hr <;> try (cases hr; done)
  cases hr
  cases hR with
  | fn h3 h4 => exact .fn (aFo h hF h1 h3) (aFo h hF h2 h4)
 | .dv, c', xs, hr, hR => by
  unfold rv at hr
  cases hv : sJ kO s dx 0 <;> rw [hv] at hr <;> cases hr
  cases hR with | dv h1 h2 => exact .dv h1 (wI h hv h2)
 | .any, c', xs, hr, hR => by
  simp only [rv, Option.some.injEq] at hr; subst hr; cases hR; exact .any (by assumption)
 | .pa len f, c', xs, hr, hR => by
  simp only [rv, Option.some.injEq] at hr
  subst hr
  cases hR with
  | pa h1 h2 h3 h4 => exact .pa h1 ⟨zT h2.1, h2.2⟩ (fun i hi => (h3 i hi).le sG) h4
theorem aFo (h : GamE A s a w env) (hF : FrzG A kF s) : ∀ {l l' : List PC} {xs : List Value}, rvL kF kO s l = some l' → RL (aY A w env) l xs → RL (aY A w (envK kO env)) l' xs
 | [], l', xs, hr, hR => by
  simp only [rvL, Option.some.injEq] at hr; subst hr; cases hR; exact .nil
 | c :: l, l', xs, hr, hR => by
  unfold rvL at hr
  cases h1 : rv kF kO s c <;> cases h2 : rvL kF kO s l <;> simp only [h1, h2] at hr <;> try (cases hr; done)
  cases hr
  cases hR with
  | cons h3 h4 => exact .cons (rv_ok h hF h1 h3) (aFo h hF h2 h4)
end
theorem rvW_ok (h : GamE A s a w env) (hF : FrzG A kF s) {x x' : PW} {v : Value} (hr : rvW kF kO s x = some x') (hR : RW (aY A w env) x v) : RW (aY A w (envK kO env)) x' v := by
 cases hR with
 | @one c _ h1 =>
  unfold rvW at hr
  cases hq : rv kF kO s c <;> simp only [hq] at hr <;> try (cases hr; done)
  cases hr
  exact .one (rv_ok h hF hq h1)
 | @agg l _ h1 =>
  unfold rvW at hr
  cases hq : rvL kF kO s l <;> simp only [hq] at hr <;> try (cases hr; done)
  cases hr
  exact .agg (aFo h hF hq h1)
theorem aQz : ∀ {l l' : List PW} {i : Nat} {x' : PW}, rvWs kF kO s l = some l' → l'[i]? = some x' → ∃ x, l[i]? = some x ∧ rvW kF kO s x = some x'
 | [], l', i, x', h, hi => by simp only [rvWs, Option.some.injEq] at h; subst h; simp at hi
 | y :: l, l', i, x', h, hi => by
  unfold rvWs at h
  cases h1 : rvW kF kO s y <;> cases h2 : rvWs kF kO s l <;> simp only [h1, h2] at h <;> try (cases h; done)
  rename_i y' l2
  cases h
  cases i with
  | zero =>
   obtain rfl : y' = x' := by simpa using hi
   exact ⟨y, rfl, h1⟩
  | succ i =>
   obtain ⟨x, h3, h4⟩ := aQz h2 (by simpa using hi : l2[i]? = some x')
   exact ⟨x, by simpa using h3, h4⟩
theorem aKw : ∀ {l l' : List PW}, rvWs kF kO s l = some l' → l.length = l'.length
 | [], l', h => by simp only [rvWs, Option.some.injEq] at h; subst h; rfl
 | y :: l, l', h => by
  unfold rvWs at h
  cases h1 : rvW kF kO s y <;> cases h2 : rvWs kF kO s l <;> simp only [h1, h2] at h <;> try (cases h; done)
  cases h
  rw [List.length_cons, List.length_cons, aKw h2]
theorem rvV_ok (h : GamE A s a w env) (hF : FrzG A kF s) {x x' : PV} {v : Value} (hr : rvV kF kO s x = some x') (hR : RV (aY A w env) x v) : RV (aY A w (envK kO env)) x' v := by
 cases hR with
 | @w x _ h1 =>
  unfold rvV at hr
  cases hq : rvW kF kO s x <;> simp only [hq] at hr <;> try (cases hr; done)
  cases hr
  exact .w (rvW_ok h hF hq h1)
 | @tup l _ hl h1 =>
  unfold rvV at hr
  cases hq : rvWs kF kO s l <;> simp only [hq] at hr <;> try (cases hr; done)
  cases hr
  refine .tup (by rw [← aKw hq]; exact hl) (fun i x' hi => ?_)
  obtain ⟨x, h3, h4⟩ := aQz hq hi
  obtain ⟨v, h5, h6⟩ := h1 i x h3
  exact ⟨v, h5, rvW_ok h hF h4 h6⟩
 | none =>
  simp only [rvV, Option.some.injEq] at hr
  subst hr
  exact .none
theorem aDv : ∀ {kT : List Nat} {l : List (Nat × Option Bool × PV)} {t : Nat} {g : Option Bool} {pv : PV}, zZ kF kO s kT = some l → find l t = some (g, pv) → ∃ v, find s.t t = some (g, v) ∧ rvV kF kO s v = some pv
 | [], l, t, g, pv, h, hf => by simp only [zZ, Option.some.injEq] at h; subst h; cases hf
 | t0 :: kT, l, t, g, pv, h, hf => by
  unfold zZ at h
  cases h1 : find s.t t0 <;> cases h2 : zZ kF kO s kT <;> simp only [h1, h2] at h <;> try (cases h; done)
  rename_i p r
  obtain ⟨g0, v0⟩ := p
  dsimp only at h
  cases h3 : rvV kF kO s v0 <;> simp only [h3] at h <;> try (cases h; done)
  cases h
  by_cases ht : t0 = t
  ·subst ht
   rw [aP] at hf
   cases hf
   exact ⟨v0, h1, h3⟩
  ·rw [aO _ _ ht] at hf
   exact aDv h2 hf
theorem xU : ∀ {l : List Nat} {cs : List Prop} {r : Wr} {x : Nat}, aDw kF kO s l = some (cs, r) → (find r x = none → ¬ (l.any (Nat.beq x) = true)) ∧ ∀ g ver ob, find r x = some (g, ver, ob) → ver = 0 ∧ l.any (Nat.beq x) = true ∧ ∃ vr ob0 c, find s.o x = some (g, vr, ob0) ∧ rvO kF kO s ob0 = some (c, ob) ∧ (All cs → All c)
 | [], cs, r, x, h => by
  simp only [aDw, Option.some.injEq, Prod.mk.injEq] at h
  obtain ⟨rfl, rfl⟩ := h
  exact ⟨fun _ => by simp, fun g ver ob hf => by cases hf⟩
 | x0 :: l, cs, r, x, h => by
  unfold aDw at h
  cases h1 : find s.o x0 <;> cases h2 : aDw kF kO s l <;> simp only [h1, h2] at h <;> try (cases h; done)
  rename_i p q
  obtain ⟨g0, vr0, ob0⟩ := p
  obtain ⟨cs2, r2⟩ := q
  dsimp only at h
  cases h3 : rvO kF kO s ob0 <;> simp only [h3] at h <;> try (cases h; done)
  rename_i z
  obtain ⟨c, ob'⟩ := z
  cases h
  have allL : ∀ {a b : List Prop}, All (a ++ b) → All a ∧ All b := by
   intro a
   induction a with
   | nil => intro b h; exact ⟨trivial, h⟩
   | cons p a ih => intro b h; exact ⟨⟨h.1, (ih h.2).1⟩, (ih h.2).2⟩
  by_cases hx : x0 = x
  ·subst hx
   refine ⟨fun hf => (by rw [aP] at hf; cases hf), fun g ver ob hf => ?_⟩
   rw [aP] at hf
   cases hf
   exact ⟨rfl, by simp, vr0, ob0, c, h1, h3, fun h => (allL h).1⟩
  ·have ih := xU (x := x) h2
   refine ⟨fun hf => ?_, fun g ver ob hf => ?_⟩
   ·rw [aO _ _ hx] at hf
    have := ih.1 hf
    rw [List.any_cons]
    simp only [Bool.or_eq_true, not_or]
    exact ⟨fun e => hx (beqT e).symm, this⟩
   ·rw [aO _ _ hx] at hf
    obtain ⟨h4, h5, vr, ob1, c1, h6, h7, h8⟩ := ih.2 g ver ob hf
    exact ⟨h4, by rw [List.any_cons, h5, Bool.or_true], vr, ob1, c1, h6, h7, fun h => h8 (allL h).2⟩
theorem rvO_ok (h : GamE A s a w env) (hF : FrzG A kF s) {ob ob' : AObj} {c : List Prop} {hd : Value} (hr : rvO kF kO s ob = some (c, ob')) (hc : All c) (hO : aAq (aY A w env) hd ob) : aAq (aY A w (envK kO env)) hd ob' := by
 cases ob with
 | dead => simp only [rvO, Option.some.injEq, Prod.mk.injEq] at hr; obtain ⟨_, rfl⟩ := hr; trivial
 | dev O stp l => simp only [rvO, Option.some.injEq, Prod.mk.injEq] at hr; obtain ⟨_, rfl⟩ := hr; trivial
 | box t l =>
  unfold rvO at hr
  cases hq : rvL kF kO s l <;> simp only [hq] at hr <;> try (cases hr; done)
  cases hr
  obtain ⟨g, cs, rfl, h1, h2⟩ := hO
  exact ⟨g, cs, rfl, h1, aFo h hF hq h2⟩
 | arr e n len f =>
  simp only [rvO, Option.some.injEq, Prod.mk.injEq] at hr
  obtain ⟨rfl, rfl⟩ := hr
  obtain ⟨vs, h1, h2⟩ := hO
  exact ⟨vs, h1, fun i hi => (kR (h2 i hi) (hc.1 i hi)).le aVr⟩
theorem aEc {α : Type} : ∀ {l : List (Nat × α)} {x : Nat} {p : α}, find l x = some p → (x, p) ∈ l
 | (k, y) :: l, x, p, h => by
  by_cases hk : k = x
  ·subst hk; rw [aP] at h; cases h; exact List.mem_cons_self
  ·rw [aO _ _ hk] at h; exact List.mem_cons_of_mem _ (aEc h)
theorem aWl : ∀ {a b : List Prop}, All (a ++ b) → All a ∧ All b := by
 intro a
 induction a with
 | nil => intro b h; exact ⟨trivial, h⟩
 | cons p a ih => intro b h; exact ⟨⟨h.1, (ih h.2).1⟩, (ih h.2).2⟩
theorem Gam.resetF {kT : List Nat} {cs : List Prop} {s' : St} (h : Gam A s a w) (hSF : kF = [] ∨ A.S = Non) (hr : aDi kF kT kO s = some (cs, s')) (hcA : All cs) : Gam A s' a w := by
 obtain ⟨env, h⟩ := h
 unfold aDi at hr
 cases h1 : zZ kF kO s kT <;> cases h2 : aDw kF kO s kO <;> cases h3 : aEd kO s <;> cases h4 : aOv s kF <;> simp only [h1, h2, h3, h4] at hr <;> try (cases hr; done)
 rename_i t q cf
 obtain ⟨cs', o⟩ := q
 cases hr
 have hc : All cs' := (aWl hcA).1
 have hF : FrzG A kF s := by
  rcases hSF with rfl | hS
  ·exact FrzG.nil
  ·exact aLm hS h4 (aWl hcA).2
 refine ⟨envK kO env, { chg := h.chg, size := h.size, dom := fun x hx => ?_, objs := fun x g ver ob hf => ?_, live := fun x ver hd b he hb => ?_, inj := fun x y v1 h1 v2 h2 b he1 he2 hb1 hb2 => ?_, tmps := fun t' g pv hf hg => ?_, defers := h.defers, und := fun t' pv hf => (by obtain ⟨v, h4, _⟩ := aDv h1 hf; exact h.und t' v h4), exts := fun x hd hx => ?_, dev := fun g ver O stp l hf hg => ?_ }⟩
 ·have := (xU (x := x) h2).1 hx
  unfold envK
  cases hb : kO.any (Nat.beq x) with
  | true => exact absurd hb this
  | false => rfl
 ·obtain ⟨rfl, hk, vr, ob0, c, h4, h5, h6⟩ := (xU (x := x) h2).2 g ver ob hf
  obtain ⟨hd, h7, h8⟩ := h.objs x g vr ob0 h4
  refine ⟨hd, ?_, fun hg => rvO_ok h hF h5 (h6 hc) (h8 hg)⟩
  unfold envK
  rw [hk, h7]
  rfl
 ·unfold envK at he
  split at he
  ·cases hx : env x with
   | none => rw [hx] at he; cases he
   | some p => obtain ⟨v, hd'⟩ := p; rw [hx] at he; cases he; exact h.live x v _ b hx hb
  ·cases he
 ·unfold envK at he1 he2
  split at he1
  ·split at he2
   ·cases hx : env x with
    | none => rw [hx] at he1; cases he1
    | some p =>
     cases hy : env y with
     | none => rw [hy] at he2; cases he2
     | some q => obtain ⟨v, hd'⟩ := p; obtain ⟨v2', hd2'⟩ := q; rw [hx] at he1; rw [hy] at he2; cases he1; cases he2; exact h.inj x y v _ v2' _ b hx hy hb1 hb2
   ·cases he2
  ·cases he1
 ·obtain ⟨v, h4, h5⟩ := aDv h1 hf
  obtain ⟨val, h6, h7⟩ := h.tmps t' g v h4 hg
  exact ⟨val, h6, rvV_ok h hF h5 h7⟩
 ·obtain ⟨hb, ha⟩ := h.exts x hd hx
  refine ⟨hb, ?_⟩
  obtain ⟨vr, hd', h4, _, h5⟩ := ha
  have h4' : env x = some (vr, hd') := h4
  cases hf : find s.o x with
  | none => rw [h.dom x hf] at h4'; cases h4'
  | some p =>
   obtain ⟨g, vr2, ob⟩ := p
   have h6 := List.all_eq_true.1 h3 _ (aEc hf)
   dsimp only at h6
   rw [hb] at h6
   rw [Bool.and_eq_true] at h6
   obtain ⟨hd2, h7, _⟩ := h.objs x g vr2 ob hf
   rw [h4'] at h7
   cases h7
   refine ⟨0, hd', ?_, Nat.le_refl _, fun _ => h5 (beqT h6.2).symm⟩
   show envK kO env x = some (0, hd')
   unfold envK
   rw [h6.1, h4']
   rfl
 ·obtain ⟨rfl, hk, vr, ob0, c, h4, h5, h6⟩ := (xU (x := dx) h2).2 g ver _ hf
  have h7 : ob0 = .dev O stp l := by
   cases ob0 <;> simp only [rvO] at h5
   ·split at h5 <;> cases h5
   ·cases h5
   ·cases h5
   ·cases h5; rfl
  subst h7
  obtain ⟨h8, h9, h10⟩ := h.dev g vr O stp l h4 hg
  refine ⟨h8, h9, A.dv.grow _ _ _ _ _ h10 (Chg.refl _ _) (fun b hb => .inl ?_)⟩
  rcases hb with hb | ⟨y, v2, hd2, h11, h12⟩
  ·exact .inl hb
  ·unfold envK at h11
   split at h11
   ·cases hy : env y with
    | none => rw [hy] at h11; cases h11
    | some p => obtain ⟨v, hd'⟩ := p; rw [hy] at h11; cases h11; exact .inr ⟨y, v, _, hy, h12⟩
   ·cases h11
theorem Gam.reset {kT : List Nat} {cs : List Prop} {s' : St} (h : Gam A s a w) (hr : aRt kT kO s = some (cs, s')) (hc : All cs) : Gam A s' a w := by
 refine h.resetF (kF := []) (kT := kT) (kO := kO) (cs := cs) (.inl rfl) ?_ hc
 unfold aRt at hr
 unfold aDi aOv
 cases h1 : zZ [] kO s kT <;> cases h2 : aDw [] kO s kO <;> cases h3 : aEd kO s <;> simp only [h1, h2, h3] at hr <;> try (cases hr; done)
 cases hr
 simp
inductive SameO : AObj → AObj → Prop where
 | box {t : TypeId} {l l' : List PC} (h : l = l') : SameO (.box t l) (.box t l')
 | arr {e n len len' : Nat} {f f' : Nat → List PC} (hl : len = len') (h : ∀ i, i < len → f i = f' i) : SameO (.arr e n len f) (.arr e n len' f')
 | dead {o : AObj} : SameO o .dead
 | dev {O : List Acc → Option Res} {stp : List Acc → Prop} {l l' : List Acc} (h : l = l') : SameO (.dev O stp l) (.dev O stp l')
inductive SameT : List (Nat × Option Bool × PV) → List (Nat × Option Bool × PV) → Prop where
 | nil : SameT [] []
 | cons {t : Nat} {g : Option Bool} {v v' : PV} {l l' : List (Nat × Option Bool × PV)} (h : v = v') (hl : SameT l l') : SameT ((t, g, v) :: l) ((t, g, v') :: l')
inductive SameW : Wr → Wr → Prop where
 | nil : SameW [] []
 | cons {x ver : Nat} {g : Option Bool} {o o' : AObj} {l l' : Wr} (h : SameO o o') (hl : SameW l l') : SameW ((x, g, ver, o) :: l) ((x, g, ver, o') :: l')
theorem SameT.eq {l l' : List (Nat × Option Bool × PV)} (h : SameT l l') : l = l' := by
 induction h with
 | nil => rfl
 | cons h _ ih => rw [h, ih]
theorem SameW.find {l l' : Wr} (h : SameW l l') (x : Nat) : (find l x = none ∧ find l' x = none) ∨ ∃ g ver o o', find l x = some (g, ver, o) ∧ find l' x = some (g, ver, o') ∧ SameO o o' := by
 induction h with
 | nil => exact .inl ⟨rfl, rfl⟩
 | @cons y ver g o o' l l' h _ ih =>
  by_cases hy : y = x
  ·subst hy; exact .inr ⟨g, ver, o, o', aP _ _ _, aP _ _ _, h⟩
  ·rw [aO _ _ hy, aO _ _ hy]; exact ih
theorem SameO.ok {C : Ctx} {hd : Value} {o o' : AObj} (h : SameO o o') (hO : aAq C hd o) : aAq C hd o' := by
 cases h with
 | box h => rw [← h]; exact hO
 | arr hl h =>
  subst hl
  obtain ⟨vs, h1, h2⟩ := hO
  exact ⟨vs, h1, fun i hi => by rw [← h i hi]; exact h2 i hi⟩
 | dead => trivial
 | dev _ => trivial
theorem Gam.same {s' : St} (h : Gam A s a w) (hT : SameT s.t s'.t) (hO : SameW s.o s'.o) : Gam A s' a w := by
 obtain ⟨env, h⟩ := h
 refine ⟨env, { chg := h.chg, size := h.size, dom := fun x hx => ?_, objs := fun x g ver ob hf => ?_, live := h.live, inj := h.inj, tmps := fun t g pv hf => ?_, defers := h.defers, und := fun t pv hf => (by rw [← hT.eq] at hf; exact h.und t pv hf), exts := h.exts, dev := fun g ver O stp l hf hg => ?_ }⟩
 ·rcases hO.find x with h1 | ⟨g, ver, o, o', _, h2, _⟩
  ·exact h.dom x h1.1
  ·rw [h2] at hx; cases hx
 ·rcases hO.find x with h1 | ⟨g', ver', o, o', h1, h2, h3⟩
  ·rw [h1.2] at hf; cases hf
  ·rw [h2] at hf
   cases hf
   obtain ⟨hd, h4, h5⟩ := h.objs x _ _ o h1
   exact ⟨hd, h4, fun hg => h3.ok (h5 hg)⟩
 ·rw [← hT.eq] at hf
  exact h.tmps t g pv hf
 ·rcases hO.find dx with h1 | ⟨g', ver', o, o', h1, h2, h3⟩
  ·rw [h1.2] at hf; cases hf
  ·rw [h2] at hf
   cases hf
   cases h3 with
   | dev e => subst e; exact h.dev g ver _ _ _ h1 hg
theorem Gam.nilRow {x e n t : Nat} (h : Gam A s a w) (hx : find s.o x = none) (ht : find s.t t = some (none, lit1 (.slice none 0 0))) : Gam A { t := (t, none, pv1 (.ow x 0 n 0 0)) :: s.t, o := (x, none, 0, .arr e n 0 (fun _ => [])) :: s.o } a w := by
 obtain ⟨env, h⟩ := h
 have hfr : fresh s x = 0 := by unfold fresh; rw [hx]
 obtain ⟨h1, h2⟩ := h.new (w' := w) x none (.slice none 0 0) (.arr e n 0 (fun _ => [])) (Ext.refl w) (fun b hb => by cases hb) (fun _ _ => ⟨[], ⟨by simp, .inl ⟨rfl, rfl⟩⟩, fun i hi => by omega⟩)
 rw [hfr] at h1 h2
 refine ⟨_, { h1 with tmps := fun t' g pv hf hg => ?_, und := fun t' pv hf => ?_ }⟩
 rotate_left 1
 ·by_cases ht' : t = t'
  ·subst ht'; rw [aP] at hf; cases hf
  ·rw [aO _ _ ht'] at hf; exact h1.und t' pv hf
 by_cases ht' : t = t'
 ·subst ht'
  rw [aP] at hf
  cases hf
  obtain ⟨v, h3, h4⟩ := h.tmps t none _ ht trivial
  have := h4.lit_inv
  subst this
  exact ⟨_, h3, .w (.one (.ow ⟨_, _, rfl⟩ ⟨0, _, gU _ _ _ _, Nat.le_refl _, fun _ => ⟨none, 0, 0, rfl, by omega, rfl⟩⟩))⟩
 ·rw [aO _ _ ht'] at hf
  exact h1.tmps t' g pv hf hg
end
theorem aMi {k : Nat} {f g f2 : Nat → List PC} (h1 : ∀ i, i < k → f i = f2 i) (h2 : g 0 = f2 k) : ∀ i, i < k + 1 → appF k f g i = f2 i := fun i hi => by
 unfold appF
 by_cases h : i < k
 ·rw [if_pos h]; exact h1 i h
 ·obtain rfl : i = k := by omega
  rw [if_neg h, Nat.sub_self]; exact h2
theorem aWj {k : Nat} {f g : Nat → List PC} (h1 : ∀ i, i < k → ∀ x ∈ f i, dY false x = true) (h2 : ∀ x ∈ g 0, dY false x = true) : ∀ i, i < k + 1 → ∀ x ∈ appF k f g i, dY false x = true := fun i hi x hx => by
 unfold appF at hx
 by_cases h : i < k
 ·rw [if_pos h] at hx; exact h1 i h x hx
 ·obtain rfl : i = k := by omega
  rw [if_neg h, Nat.sub_self] at hx; exact h2 x hx
theorem one_cold {c : PC} (h : dY false c = true) : ∀ x ∈ [c], dY false x = true := fun x hx => by
 rw [List.mem_singleton.1 hx]; exact h
end Go.Proofs.YtihghljfmlbfhaaGreatDoor.Pv
namespace Go.Proofs.YtihghljfmlbfhaaGreatDoor.Pv
open Go.RowKit
section
variable {P : Program} {I : World → Prop} {A : Amb} {s : St} {a : Act} {w : World} {env : Env} {F : Option Bool → PV → Wr → Prop}
theorem GamE.new_own (h : GamE A s a w env) (nm : Nat) (e n len : Nat) {f : Nat → List PC} {v : Value} {xs : List Value} {w' : World} (hE : Ext w w') (ho : w'.ownsRow w.heap.size e n v len xs) (hr : ∀ C : Ctx, ∀ i, i < len → RL C (f i) ((xs.drop (i * n)).take n)) :
  ∃ env', GamE A { s with o := [(nm, none, fresh s nm, .arr e n len f)] ++ s.o } a w' env' ∧ RV (aY A w' env') (pv1 (.ow nm (fresh s nm) n 0 len)) v := by
 have ho0 : w'.ownsRow 0 e n v len xs := ⟨ho.1, ho.2.imp id (fun ⟨g, cap, cur, h1, _, h3⟩ => ⟨g, cap, cur, h1, Nat.zero_le _, h3⟩)⟩
 obtain ⟨A0, c0, rfl⟩ := iO ho
 obtain ⟨h1, h2⟩ := h.new (w' := w') nm none (.slice A0 len c0) (.arr e n len f) hE (fun b hb => by
   have hb' : (Value.slice A0 len c0).ownBlock = some b := by cases A0 <;> exact hb
   exact ⟨(ho.lt b hb').2, (ho.lt b hb').1⟩)
  (fun hle _ => ⟨xs, tJ ho0, fun i hi => hr _ i hi⟩)
 refine ⟨_, h1, .w (.one (.ow ⟨_, _, rfl⟩ ⟨_, _, gU _ _ _ _, Nat.le_refl _, fun _ => ⟨_, _, _, rfl, by omega, ?_⟩⟩))⟩
 cases A0 with
 | none => simp
 | some ad => simp [Addr.add]
def expC (c : PC) (k : PC → M) : M := match c with
 | .lit v => k (.lit v)
 | .bs n l => k (.bs n l)
 | .sl n len f => k (.sl n len f)
 | .ow x ver n off len => .obj x fun g vr ob => jE g (match Nat.beq ver vr, ob with
  | true, .arr _ m tot f => (match Nat.beq n m with
   | true => .need (off + len ≤ tot ∧ ∀ i, i < len → (f (off + i)).all (dY false) = true) (k (.sl n len (fun i => f (off + i))))
   | false => .fail)
  | _, _ => .fail)
 | .ob x ver off len => .obj x fun g vr ob => jE g (match Nat.beq ver vr, ob with
  | true, .box _ l => (match bsAt l off with
   | some (m, bs) => (match Nat.beq len m with
    | true => k (.sl 1 len (byF bs))
    | false => .fail)
   | none => .fail)
  | _, _ => .fail)
 | .any => k .any
 | _ => .fail
def expL : List PC → (List PC → M) → M
 | [], k => k []
 | c :: l, k => expC c fun c => expL l fun l => k (c :: l)
def expV (v : PV) (k : PV → M) : M := match v with
 | .w (.one c) => expC c fun c => k (.w (.one c))
 | .w (.agg l) => expL l fun l => k (.w (.agg l))
 | _ => .fail
def expVs : List PV → (List PV → M) → M
 | [], k => k []
 | v :: l, k => expV v fun v => expVs l fun l => k (v :: l)
def aHv (w : World) : Ctx := { w, ok := fun _ => True, env := fun _ => none }
theorem aHn : (aY A w env).cold.Le (aHv w).cold := ⟨Nat.le_refl _, fun b _ _ => ⟨trivial, rfl⟩, fun _ _ _ h => by cases h⟩
theorem aUp (h : GamE A s a w env) {c : PC} {xs : List Value} (hr : R (aY A w env) c xs) {k : PC → M} (hk : (expC c k).ok none s F) : ∃ c', R (aHv w) c' xs ∧ (k c').ok none s F := by
 unfold expC at hk
 split at hk
 ·cases hr; exact ⟨_, .lit (by assumption), hk⟩
 ·cases hr; exact ⟨_, .bs (by assumption), hk⟩
 ·cases hr with
  | sl h1 h2 h3 => exact ⟨_, .sl h1 (fun g hg hl => ⟨trivial, (h2 g hg hl).2⟩) (fun i hi => (h3 i hi).le aHn), hk⟩
 ·rename_i x ver n off len
  obtain ⟨g, vr, ob, hfo, hk⟩ := hk
  have hk2 := dL hk
  clear hk
  obtain ⟨hg, hk⟩ := hk2
  obtain ⟨hd, hev, hob⟩ := jC h hfo hg
  cases hb : Nat.beq ver vr <;> cases ob <;> simp only [hb] at hk <;> try exact hk.elim
  rename_i e m tot f
  obtain rfl := beqT hb
  cases hb4 : Nat.beq n m <;> rw [hb4] at hk
  ·exact hk.elim
  obtain rfl := beqT hb4
  obtain ⟨⟨hle, hcold⟩, hk⟩ := hk
  cases hr with
  | ow h1 hat =>
   obtain ⟨A0, n0, c0, rfl, hle0, rfl⟩ := hat.now hev
   obtain ⟨vs, hown, hel⟩ := hob
   have hrd := Reads.of_ownX hown
   have hn0 : n0 = tot := by
    obtain ⟨_, A1, c1, e1, _⟩ := hrd
    cases e1; rfl
   subst hn0
   refine ⟨_, .sl (vs := (vs.drop (off * n)).take (len * n)) (pG hle hrd) (fun b hb hlt => ⟨trivial, ?_⟩) (fun i hi => ?_), hk⟩
   ·cases A0 with
    | none => simp [Value.ownBlock] at hb
    | some ad =>
     simp only [Option.map_some, Value.ownBlock, Option.some.injEq, rP] at hb
     exact (h.live x ver _ b hev (by simp [hblk, hb])).1
   ·rw [iY vs hi]
    exact (kR (hel _ (by omega)) (hcold i hi)).le aHn
 ·rename_i x ver off len
  obtain ⟨g, vr, ob, hfo, hk⟩ := hk
  have hk2 := dL hk
  clear hk
  obtain ⟨hg, hk⟩ := hk2
  obtain ⟨hd, hev, hob⟩ := jC h hfo hg
  cases hb : Nat.beq ver vr <;> cases ob <;> simp only [hb] at hk <;> try exact hk.elim
  rename_i bt l
  obtain rfl := beqT hb
  cases hs : bsAt l off with
  | none => rw [hs] at hk; exact hk.elim
  | some q =>
   obtain ⟨m, bs⟩ := q
   rw [hs] at hk
   dsimp only at hk
   cases hb2 : Nat.beq len m <;> rw [hb2] at hk
   ·exact hk.elim
   obtain rfl := beqT hb2
   cases hr with
   | ob h1 hat =>
    obtain ⟨g1, c, rfl, hc1, hc2, rfl⟩ := hat.now hev
    obtain ⟨g2, cs, e2, hB, hR⟩ := hob
    cases e2
    obtain ⟨k1, k2, k3⟩ := lU hR hs
    have hrg := iD hB.range off len
    rw [Nat.zero_add, k2] at hrg
    refine ⟨_, .sl (vs := bs.map u8w) ⟨by simp [k1], _, c, rfl, hc1, hc2, fun hn => ⟨g1, off, rfl, fun j u hj => hrg j u hj⟩⟩ (fun b hb _ => ⟨trivial, ?_⟩) (fun i hi => aAo _ bs i (by omega)), hk⟩
    simp only [Value.ownBlock, Option.some.injEq] at hb
    subst hb
    exact hB.lt
 ·cases hr; exact ⟨_, .any (by assumption), hk⟩
 ·exact hk.elim
theorem aUo (h : GamE A s a w env) : ∀ {l : List PC} {xs : List Value} {k : List PC → M}, RL (aY A w env) l xs → (expL l k).ok none s F → ∃ l', RL (aHv w) l' xs ∧ (k l').ok none s F
 | [], _, k, hr, hk => by cases hr; exact ⟨[], .nil, hk⟩
 | c :: l, _, k, hr, hk => by
  cases hr with
  | cons h1 h2 =>
   obtain ⟨c', h3, hk2⟩ := aUp h h1 hk
   obtain ⟨l', h4, hk3⟩ := aUo h h2 hk2
   exact ⟨c' :: l', .cons h3 h4, hk3⟩
theorem expV_ok (h : GamE A s a w env) {v : PV} {val : Value} {k : PV → M} (hr : RV (aY A w env) v val) (hk : (expV v k).ok none s F) : ∃ v', RV (aHv w) v' val ∧ (k v').ok none s F := by
 unfold expV at hk
 split at hk
 ·obtain ⟨c', h1, h2⟩ := aUp h hr.inv hk
  exact ⟨_, .w (.one h1), h2⟩
 ·cases hr with
  | w hr => cases hr with
   | agg hr =>
    obtain ⟨l', h1, h2⟩ := aUo h hr hk
    exact ⟨_, .w (.agg h1), h2⟩
 ·exact hk.elim
theorem aEe (h : GamE A s a w env) : ∀ {vs : List PV} {l : List Value} {k : List PV → M}, Vals (aY A w env) vs l → (expVs vs k).ok none s F → ∃ vs', Vals (aHv w) vs' l ∧ (k vs').ok none s F
 | [], [], k, _, hk => ⟨[], trivial, hk⟩
 | [], _ :: _, _, h, _ => h.elim
 | _ :: _, [], _, h, _ => h.elim
 | v :: vs, x :: l, k, ⟨h1, h2⟩, hk => by
  obtain ⟨v', h3, hk2⟩ := expV_ok h h1 hk
  obtain ⟨vs', h4, hk3⟩ := aEe h h2 hk2
  exact ⟨v' :: vs', ⟨h3, h4⟩, hk3⟩
def tN : PV → Bool
 | .w (.one c) => dY false c
 | .w (.agg l) => l.all (dY false)
 | _ => false
def bD (new : Bool) (g : List PV → Option (Prop × PV)) : Spec := fun _ xs => match new with
 | true => expVs xs fun ys => (match g ys with
  | some (p, r) => .need p (.ret r)
  | none => .fail)
 | false => (match xs.all tN, g xs with
  | true, some (p, r) => .need p (.ret r)
  | _, _ => .fail)
theorem coldV_le {C : Ctx} {v : PV} {x : Value} (h : RV C v x) (hc : tN v = true) : RV C.cold v x := by
 unfold tN at hc
 split at hc
 ·exact .w (.one (aAj h.inv hc))
 ·cases h with
  | w h => cases h with
   | agg h => exact .w (.agg (kR h hc))
 ·cases hc
theorem aAi {C : Ctx} : ∀ {vs : List PV} {l : List Value}, Vals C vs l → vs.all tN = true → Vals C.cold vs l
 | [], [], _, _ => trivial
 | [], _ :: _, h, _ => h.elim
 | _ :: _, [], h, _ => h.elim
 | v :: vs, x :: l, ⟨h1, h2⟩, hc => by
  rw [List.all_cons, Bool.and_eq_true] at hc
  exact ⟨coldV_le h1 hc.1, aAi h2 hc.2⟩
theorem res_le (h : GamE A s a w env) {w' : World} (_ : Ext w w') {new : Bool} : ({ w := w', ok := fun b => (new = false ∧ (aY A w env).ok b) ∨ w.heap.size ≤ b, env := fun _ => none } : Ctx).Le (aY A w' env) :=
 ⟨Nat.le_refl _, fun b _ hb => ⟨(by
  rcases hb with ⟨_, hb⟩ | hb
  ·exact hb
  ·exact ⟨.inr (Nat.le_trans h.chg.size hb), fun x ver hd he hbl => by have := (h.live x ver hd b he hbl).1; omega⟩), rfl⟩, fun _ _ _ h => by cases h⟩
theorem bM {f : Nat} {new : Bool} {g : List PV → Option (Prop × PV)} (hent : ∀ args w, (callFunc f args).run P w = .ok (.enter f args) w) (hg : ∀ xs p r, g xs = some (p, r) → p → iW P I f new xs r) : SpecOk P I f (bD new g) := by
 refine ⟨hent, fun A s a w env nm pvs vs F h hI hv hk => ?_⟩
 unfold bD at hk
 cases new with
 | true =>
  obtain ⟨ys, h1, hk⟩ := aEe h hv hk
  cases hq : g ys with
  | none => rw [hq] at hk; exact hk.elim
  | some q =>
   obtain ⟨p, r⟩ := q
   rw [hq] at hk
   obtain ⟨hp, hF⟩ := hk
   refine (hg ys p r hq hp w (fun _ => True) vs (hI.mem w h.chg) h1).mono ?_
   rintro e w' ⟨val, rfl, hE, hr⟩
   refine .inl ⟨r, [], val, env, rfl, hF, h.ext hE, hr.le ⟨Nat.le_refl _, fun b hb hok => ?_, fun _ _ _ h => by cases h⟩⟩
   exact (res_le (new := true) h hE).blk b hb (hok.elim (fun h => by cases h.1) (fun h => .inr h))
 | false =>
  dsimp only at hk
  cases hc : pvs.all tN <;> cases hq : g pvs <;> simp only [hc, hq] at hk <;> try exact hk.elim
  rename_i q
  obtain ⟨p, r⟩ := q
  obtain ⟨hp, hF⟩ := hk
  refine (hg pvs p r hq hp w (aY A w env).ok vs (hI.mem w h.chg) (aAi hv hc)).mono ?_
  rintro e w' ⟨val, rfl, hE, hr⟩
  exact .inl ⟨r, [], val, env, rfl, hF, h.ext hE, hr.le (res_le (new := false) h hE)⟩
end
end Go.Proofs.YtihghljfmlbfhaaGreatDoor.Pv
namespace Go.Proofs.YtihghljfmlbfhaaGreatDoor.Pv
open Go.RowKit
theorem aUf {C C' : Ctx} : ∀ {l : List PC} {xs : List Value}, RL C l xs → l.all (dY true) = true → RL C' l xs
 | [], _, h, _ => by cases h; exact .nil
 | c :: l, xs, h, hc => by
  rw [List.all_cons, Bool.and_eq_true] at hc
  cases h with
  | cons h3 h4 =>
   refine .cons ?_ (aUf h4 hc.2)
   have hc1 := hc.1
   cases h3 <;> first | exact .lit (by assumption) | exact .bs (by assumption) | (cases hc1; done)
def aCv (P : Program) (I : World → Prop) (f : Nat) (args : List PV) (e n len : Nat) (f' : Nat → List PC) : Prop :=
 ∀ (w : World) (ok0 : Nat → Prop) (vs : List Value), I w → Vals { w, ok := ok0, env := fun _ => none } args vs →
  Calls P f vs.toArray w fun r w' => ∃ val xs, r = .returned val ∧ Ext w w' ∧ w'.ownsRow w.heap.size e n val len xs ∧ ∀ (C : Ctx) i, i < len → RL C (f' i) ((xs.drop (i * n)).take n)
def RowTo (P : Program) (fn : Func) (e n len : Nat) (f' : Nat → List PC) (s : St) : Prop :=
 ∃ x ver g f, (retM P fn.results).ok none s (fun _ v' wr => v' = pv1 (.ow x ver n 0 len) ∧ wr = []) ∧ find s.o x = some (g, ver, .arr e n len f) ∧ gT g ∧ ∀ i, i < len → f i = f' i ∧ (f' i).all (dY true) = true
def RQR (P : Program) (A : Amb) (fn : Func) (e n len : Nat) (f' : Nat → List PC) : Exit → Act → World → Prop
 | .panic chain, a, w => a.defers = [] ∧ PanG A chain w
 | x, a, w => (x = .normal ∨ x = .ret) ∧ ∃ s, RowTo P fn e n len f' s ∧ Gam A s a w
theorem rowTo_of {P : Program} {fn : Func} {e n len x ver : Nat} {g : Option Bool} {f f' : Nat → List PC} {s : St} {out : Out} (h : (retM P fn.results).exec none s [] [] [] [] = some out) (hc : All out.conds) (hw : out.wr = []) (hx : out.val = pv1 (.ow x ver n 0 len)) (hf : find s.o x = some (g, ver, .arr e n len f)) (hg : gT g) (hff : ∀ i, i < len → f i = f' i ∧ (f' i).all (dY true) = true) : RowTo P fn e n len f' s := by
 rw [vM] at h
 exact ⟨x, ver, g, f, M.ok_of_run _ none s out _ h (fun p hp => hc.mem p hp) ⟨hx, hw⟩, hf, hg, hff⟩
theorem aUa {P : Program} {I : World → Prop} {f : Nat} {fn : Func} {c : Code} {args : List PV} {e n len : Nat} {f' : Nat → List PC} (hf : P.funcs[f]? = some fn) (hb : fn.body = some c) (hnb : Nat.ble args.length fn.ntmps = true) (hI : ∀ w w', Ext w w' → I w → I w')
  (hT : ∀ A : Amb, A.S = Non → A.nt = fn.ntmps → AmbOk P I A → Tri P A ⟨slots 0 args, []⟩ c (RQR P A fn e n len f')) (hmk : Nat.blt e mkT = true := by rfl) : aCv P I f args e n len f' := by
 intro w ok0 vs hIw hv
 have hn := Nat.le_of_ble_eq_true hnb
 have hlen := hv.length
 have hg : Gam (Amb.plain w ok0 fn.ntmps) ⟨slots 0 args, []⟩ { tmps := vs.toArray ++ Array.replicate (fn.ntmps - vs.toArray.size) undef, defers := [] } w := by
  refine ⟨fun _ => none, { chg := Chg.refl _ _, size := ?_, dom := fun x _ => rfl, objs := fun x g ver o h => (by cases h), live := fun x ver hd b h => (by cases h), inj := fun x y v1 h1 v2 h2 b h => (by cases h), tmps := fun t g pv h hgt => ?_, defers := rfl, und := fun t pv h => (by obtain ⟨k, _, h2⟩ := kH h; cases h2), exts := fun x hd h => (by cases h), dev := fun g ver O stp l h => (by cases h) }⟩
  ·simp [Amb.plain]; omega
  ·obtain ⟨k, h1, h2⟩ := lM h
   obtain ⟨v, h3, h4⟩ := hv.at h2
   rw [Nat.zero_add] at h1
   subst h1
   have hk : t < vs.length := (List.getElem?_eq_some_iff.1 h3).1
   refine ⟨v, ?_, ?_⟩
   ·rw [Array.getElem?_append_left (by simpa using hk)]
    simpa using h3
   ·refine h4.le ⟨Nat.le_refl _, fun b _ hb => ⟨⟨.inl hb, fun _ _ _ h => by cases h⟩, rfl⟩, fun _ _ _ h => by cases h⟩
 refine calls_of_wp hf hb (wp_mono (hT (Amb.plain w ok0 fn.ntmps) rfl rfl (AmbOk.plain fun w' hc => hI w w' hc hIw) _ w hg (fun _ _ _ hd h => ⟨hd, h⟩)) (fun x a' w' he => ?_))
 have he' : (x = .normal ∨ x = .ret) ∧ ∃ s, RowTo P fn e n len f' s ∧ Gam (Amb.plain w ok0 fn.ntmps) s a' w' := by
  cases x with
  | panic chain => obtain ⟨_, l, hl, _⟩ := he; exact hl.elim
  | _ => exact he
 obtain ⟨h1, s, ⟨x0, ver, g, f0, h2, hfo, hgt, hff⟩, h4⟩ := he'
 obtain ⟨env, hE⟩ := h4
 obtain ⟨v', val, h5, h6, h7, _⟩ := zI hE h2
 subst h7
 obtain ⟨hd, hev, hob⟩ := jC hE hfo hgt
 obtain ⟨A0, n0, c0, rfl, hle0, rfl⟩ := h6.ow_inv hev
 obtain ⟨xs, hown, hel⟩ := hob
 have hn0 : n0 = len := by
  obtain ⟨_, A1, c1, e1, _⟩ := Reads.of_ownX hown
  cases e1; rfl
 have hown := hown.plain hmk
 subst hn0
 have hA : A0.map (fun p => p.add (0 * n)) = A0 := by
  cases A0 with
  | none => rfl
  | some ad => simp [Addr.add]
 have hown2 : w'.ownsRow w.heap.size e n (.slice A0 n0 c0) n0 xs := ⟨hown.1, hown.2.imp id (fun ⟨g, cap, cur, h1, _, h3⟩ => ⟨g, cap, cur, h1, by
  have := (hE.live x0 ver _ g hev (by rw [h1]; rfl)).2
  exact this.resolve_right (fun h => h.1), h3⟩)⟩
 have this : a'.defers = [] ∧ ∃ v, (results fn a'.tmps).run P w' = .ok v w' ∧ ∃ val xs, Ending.returned v = .returned val ∧ Ext w w' ∧ w'.ownsRow w.heap.size e n val n0 xs ∧ ∀ (C : Ctx) i, i < n0 → RL C (f' i) ((xs.drop (i * n)).take n) := by
  refine ⟨hE.defers, _, h5, _, xs, rfl, hE.chg, ?_, fun C i hi => ?_⟩
  ·first | exact hown2 | (simp only [Nat.zero_mul, Nat.sub_zero] at hA ⊢; rw [hA]; exact hown2)
  ·have h8 := hel i hi
   rw [(hff i hi).1] at h8
   exact aUf h8 (hff i hi).2
 rcases h1 with rfl | rfl <;> exact this
def aIq (g : List PV → Option (Prop × Nat × Nat × Nat × (Nat → List PC))) : Spec := fun nm xs => expVs xs fun ys => match g ys with
 | some (p, e, n, len, f) => .need p (.new nm (.arr e n len f) fun v => .ret (pv1 (.ow nm v n 0 len)))
 | none => .fail
theorem aNr {P : Program} {I : World → Prop} {f : Nat} {g : List PV → Option (Prop × Nat × Nat × Nat × (Nat → List PC))} (hent : ∀ args w, (callFunc f args).run P w = .ok (.enter f args) w) (hg : ∀ xs p e n len f', g xs = some (p, e, n, len, f') → p → aCv P I f xs e n len f') : SpecOk P I f (aIq g) := by
 refine ⟨hent, fun A s a w env nm pvs vs F h hI hv hk => ?_⟩
 unfold aIq at hk
 obtain ⟨ys, h1, hk⟩ := aEe h hv hk
 cases hq : g ys with
 | none => rw [hq] at hk; exact hk.elim
 | some q =>
  obtain ⟨p, e, n, len, f'⟩ := q
  rw [hq] at hk
  obtain ⟨hp, hk⟩ := hk
  refine (hg ys p e n len f' hq hp w (fun _ => True) vs (hI.mem w h.chg) h1).mono ?_
  rintro r w' ⟨val, xs, rfl, hE, ho, hr⟩
  obtain ⟨env', h3, h4⟩ := h.new_own nm e n len (f := f') hE ho hr
  exact .inl ⟨_, _, _, env', rfl, hk, h3, h4⟩
@[simp] theorem polB_true (b : Bool) : polB true b = b := rfl
@[simp] theorem polB_false (b : Bool) : polB false b = !b := rfl
@[simp] theorem all_nil_ : All [] = True := rfl
@[simp] theorem all_cons_ (p : Prop) (l : List Prop) : All (p :: l) = (p ∧ All l) := rfl
@[simp] theorem hP_none (p : Prop) : hP none p = p := rfl
@[simp] theorem hP_some (b : Bool) (p : Prop) : hP (some b) p = (b = true → p) := rfl
end Go.Proofs.YtihghljfmlbfhaaGreatDoor.Pv
namespace Go.Proofs.YtihghljfmlbfhaaGreatDoor
def dM (x : UInt32) (n : UInt32) : UInt32 := (x >>> n) ||| (x <<< (32 - n))
def shaK : List UInt32 := [
 0x428a2f98, 0x71374491, 0xb5c0fbcf, 0xe9b5dba5, 0x3956c25b, 0x59f111f1, 0x923f82a4, 0xab1c5ed5,
 0xd807aa98, 0x12835b01, 0x243185be, 0x550c7dc3, 0x72be5d74, 0x80deb1fe, 0x9bdc06a7, 0xc19bf174,
 0xe49b69c1, 0xefbe4786, 0x0fc19dc6, 0x240ca1cc, 0x2de92c6f, 0x4a7484aa, 0x5cb0a9dc, 0x76f988da,
 0x983e5152, 0xa831c66d, 0xb00327c8, 0xbf597fc7, 0xc6e00bf3, 0xd5a79147, 0x06ca6351, 0x14292967,
 0x27b70a85, 0x2e1b2138, 0x4d2c6dfc, 0x53380d13, 0x650a7354, 0x766a0abb, 0x81c2c92e, 0x92722c85,
 0xa2bfe8a1, 0xa81a664b, 0xc24b8b70, 0xc76c51a3, 0xd192e819, 0xd6990624, 0xf40e3585, 0x106aa070,
 0x19a4c116, 0x1e376c08, 0x2748774c, 0x34b0bcb5, 0x391c0cb3, 0x4ed8aa4a, 0x5b9cca4f, 0x682e6ff3,
 0x748f82ee, 0x78a5636f, 0x84c87814, 0x8cc70208, 0x90befffa, 0xa4506ceb, 0xbef9a3f7, 0xc67178f2]
def kM : List UInt32 := [0x6a09e667, 0xbb67ae85, 0x3c6ef372, 0xa54ff53a, 0x510e527f, 0x9b05688c, 0x1f83d9ab, 0x5be0cd19]
def nN (l : List UInt8) : UInt32 := l.foldl (fun n b => (n <<< 8) ||| b.toUInt32) 0
def qQ (w : List UInt32) : UInt32 :=
 let i := w.length
 let x := w.getD (i - 15) 0
 let y := w.getD (i - 2) 0
 w.getD (i - 16) 0 + ((dM x 7 ^^^ dM x 18) ^^^ (x >>> 3)) + w.getD (i - 7) 0 + ((dM y 17 ^^^ dM y 19) ^^^ (y >>> 10))
def bU (b : List UInt8) : Nat → List UInt32
 | 0 => []
 | i + 1 => bU b i ++ [if i < 16 then nN ((b.drop (4 * i)).take 4) else qQ (bU b i)]
def sched (b : List UInt8) : List UInt32 := bU b 64
theorem fC (b : List UInt8) (i : Nat) : (bU b i).length = i := by induction i with
 | zero => rfl
 | succ i ih => simp [bU, ih]
def uT (v : List UInt32) (k w : UInt32) : List UInt32 :=
 let a := v.getD 0 0; let b := v.getD 1 0; let c := v.getD 2 0; let d := v.getD 3 0
 let e := v.getD 4 0; let f := v.getD 5 0; let g := v.getD 6 0; let h := v.getD 7 0
 let t := h + ((dM e 6 ^^^ dM e 11) ^^^ dM e 25) + ((e &&& f) ^^^ (~~~e &&& g)) + k + w
 let u := ((dM a 2 ^^^ dM a 13) ^^^ dM a 22) + (((a &&& b) ^^^ (a &&& c)) ^^^ (b &&& c))
 [t + u, a, b, c, d + t, e, f, g]
def bH (b : List UInt8) (v : List UInt32) : Nat → List UInt32
 | 0 => v
 | k + 1 => uT (bH b v k) (shaK.getD k 0) ((sched b).getD k 0)
def uS (b : List UInt8) (v : List UInt32) : List UInt32 := bH b v 64
theorem iU (b : List UInt8) (v : List UInt32) (h : v.length = 8) (k : Nat) : (bH b v k).length = 8 := by cases k with
 | zero => exact h
 | succ k => rfl
def jF (v : List UInt32) (b : List UInt8) : List UInt32 := List.zipWith (· + ·) (uS b v) v
def beBytes (n : Nat) : Nat → List UInt8
 | 0 => []
 | k + 1 => UInt8.ofNat (n / 256 ^ k) :: beBytes n k
def dP (m : List UInt8) : List UInt8 := m ++ [128] ++ List.replicate ((119 - m.length % 64) % 64) 0 ++ beBytes (8 * m.length) 8
def kN : Nat → List UInt32 → List UInt8 → List UInt32
 | 0, v, _ => v
 | n + 1, v, m => kN n (jF v (m.take 64)) (m.drop 64)
def sha (m : List UInt8) : List UInt8 := (kN ((dP m).length / 64) kM (dP m)).flatMap fun w => beBytes w.toNat 4
def hmac (key m : List UInt8) : List UInt8 :=
 let k := if key.length > 64 then sha key else key
 let pad := fun (x : UInt8) => (List.range 64).map fun i => k.getD i 0 ^^^ x
 sha (pad 0x5c ++ sha (pad 0x36 ++ m))
def mac (key m : List UInt8) : List UInt8 := (hmac key m).take 16
end Go.Proofs.YtihghljfmlbfhaaGreatDoor
namespace Go.Proofs.YtihghljfmlbfhaaGreatDoor
open Go.RowKit
theorem lt32 (a : UInt32) : 0 ≤ (a.toNat : Int) ∧ (a.toNat : Int) < 4294967296 := by have := a.toNat_lt; omega
theorem lt8 (a : UInt8) : 0 ≤ (a.toNat : Int) ∧ (a.toNat : Int) < 256 := by have := a.toNat_lt; omega
theorem or32 (a b : UInt32) : bits BinOp.or IntKind.u32 (a.toNat : Int) (b.toNat : Int) = ((a ||| b).toNat : Int) := by
 rw [u32_or _ _ (lt32 a).1 (lt32 a).2 (lt32 b).1 (lt32 b).2]; simp
theorem aBf (a b : UInt32) : bits BinOp.and IntKind.u32 (a.toNat : Int) (b.toNat : Int) = ((a &&& b).toNat : Int) := by
 rw [u32_and _ _ (lt32 a).1 (lt32 a).2 (lt32 b).1 (lt32 b).2]; simp
theorem sH (a b : UInt32) : bits BinOp.xor IntKind.u32 (a.toNat : Int) (b.toNat : Int) = ((a ^^^ b).toNat : Int) := by
 rw [u32_xor _ _ (lt32 a).1 (lt32 a).2 (lt32 b).1 (lt32 b).2]; simp
theorem add32 (a b : UInt32) : ((a.toNat : Int) + (b.toNat : Int)) % 4294967296 = ((a + b).toNat : Int) := by
 rw [UInt32.toNat_add]; omega
theorem xor8 (a b : UInt8) : bits BinOp.xor IntKind.u8 (a.toNat : Int) (b.toNat : Int) = ((a ^^^ b).toNat : Int) := by
 rw [u8_xor _ _ (lt8 a).1 (lt8 a).2 (lt8 b).1 (lt8 b).2]; simp
theorem aQv (a : UInt32) (n : Nat) (hn : n < 32) : (a.toNat : Int) / 2 ^ n = ((a >>> UInt32.ofNat n).toNat : Int) := by
 rw [UInt32.toNat_shiftRight, Nat.shiftRight_eq_div_pow]
 have : (UInt32.ofNat n).toNat % 32 = n := by simp; omega
 rw [this]
 simp
theorem aNd (a : UInt32) (n : Nat) (hn : n < 32) : (a.toNat : Int) * 2 ^ n % 4294967296 = ((a <<< UInt32.ofNat n).toNat : Int) := by
 rw [UInt32.toNat_shiftLeft, Nat.shiftLeft_eq]
 have : (UInt32.ofNat n).toNat % 32 = n := by simp; omega
 rw [this]
 simp
theorem addW (a b : UInt32) : IntKind.u32.wrap ((a.toNat : Int) + (b.toNat : Int)) = ((a + b).toNat : Int) := by rw [IntKind.wrap_u32]; exact add32 a b
theorem not32 (a : UInt32) : bits BinOp.xor IntKind.u32 IntKind.u32.max (a.toNat : Int) = ((~~~a).toNat : Int) := by
 rw [show IntKind.u32.max = (((-1 : UInt32)).toNat : Int) from rfl, sH, UInt32.neg_one_xor]
def w32 (x : UInt32) : Value := .int .u32 (x.toNat : Int)
theorem aSm (n : Nat) (hn : 0 < n) (hn2 : n < 32) : bits BinOp.and IntKind.u64 (IntKind.u64.wrap (-(n : Int))) 31 = ((32 - n : Nat) : Int) := by
 have h : IntKind.u64.wrap (-(n : Int)) = ((18446744073709551616 - n : Nat) : Int) := by
  rw [IntKind.wrap_u64]; omega
 rw [h, u64_and _ _ (by omega) (by omega) (by omega) (by omega)]
 rw [Int.toNat_natCast, show (31 : Int).toNat = 2 ^ 5 - 1 from rfl, Nat.and_two_pow_sub_one_eq_mod]
 omega
theorem rot_eq (x : UInt32) (n : Nat) (hn : 0 < n) (hn2 : n < 32) : bits BinOp.or IntKind.u32 ((x.toNat : Int) * 2 ^ (32 - n) % 4294967296) ((x.toNat : Int) / 2 ^ n) = ((dM x (UInt32.ofNat n)).toNat : Int) := by
 rw [aNd x (32 - n) (by omega), aQv x n hn2, or32]
 unfold dM
 have e : UInt32.ofNat (32 - n) = 32 - UInt32.ofNat n := by
  apply UInt32.toNat_inj.1
  rw [UInt32.toNat_sub]
  simp
  omega
 rw [e, UInt32.or_comm]
theorem rotl_any (x : UInt32) (n : Nat) (w : World) (hn : 0 < n) (hn2 : n < 32) :
  Calls Tryz.prog 139 #[.int .u32 (x.toNat : Int), .int .i64 (-(n : Int))] w fun e w' => e = .returned (.int .u32 ((dM x (UInt32.ofNat n)).toNat : Int)) ∧ w = w' := by
 have h0 := hide (rot_eq x n hn hn2)
 have hx := x.toNat_lt
 have h1 := aSm n hn hn2
 have h2 : IntKind.u64.wrap (32 - ((32 - n : Nat) : Int)) = (n : Int) := by
  rw [show (32 : Int) - ((32 - n : Nat) : Int) = (n : Int) by omega]
  exact IntWalk.u64_in _ (by omega)
 go_enter Tryz.func139, Tryz.ntmps139
 go_wp2
 go_ret
 exact ⟨pF (aA h0), rfl⟩
def qV (x : UInt32) (ns : List Nat) : UInt32 := ns.foldl (fun o n => o ^^^ dM x (UInt32.ofNat n)) 0
theorem jB {α : Type} (l : List α) (k : Nat) (h : k < l.length) : l.take (k + 1) = l.take k ++ [l[k]] := by rw [List.take_add_one, zH h]; rfl
theorem aIt (x : UInt32) (ns : List Nat) (k : Nat) (h : k < ns.length) : qV x (ns.take (k + 1)) = qV x (ns.take k) ^^^ dM x (UInt32.ofNat ns[k]) := by
 rw [jB ns k h]; unfold qV; rw [List.foldl_append]; rfl
theorem aKz (x : UInt32) (ns : List Nat) (v : Value) (w : World) (h : Reads w 1 v ns.length (ns.map fun n : Nat => Value.int .i64 (n : Int))) (hn : ∀ n ∈ ns, 0 < n ∧ n < 32) :
  Calls Tryz.prog 135 #[.int .u32 (x.toNat : Int), v] w fun e w' => e = .returned (.int .u32 ((qV x ns).toNat : Int)) ∧ w = w' := by
 have HH := hide h
 have hm := h.len_le
 unfold maxLen at hm
 obtain ⟨_, B, c, rfl, _, _, _⟩ := h
 go_enter Tryz.func135, Tryz.ntmps135
 go_wp2
 go_loop [5, 10] (fun o i => ∃ k : Nat, k ≤ ns.length ∧ i = .int .i64 k ∧ o = .int .u32 ((qV x (ns.take k)).toNat : Int)) (fun _ i => ns.length - (intOf i).toNat)
 case atStart => exact ⟨0, Nat.zero_le _, rfl, rfl⟩
 case round =>
  obtain ⟨k, hk, rfl, rfl⟩ := hrel
  by_cases hlt : k < ns.length
  ·obtain ⟨b, o, c', u, hv, _, _, hb, hu, hc1⟩ := (aA HH).at1 hlt
   cases hv
   rw [List.getElem?_map, zH hlt] at hu
   cases hu
   obtain ⟨n1, n2⟩ := hn _ (List.getElem_mem hlt)
   have HS := hide (aIt x ns k hlt)
   have HX := hide (sH (qV x (ns.take k)) (dM x (UInt32.ofNat ns[k])))
   dsimp only at hc1
   have HR := hide (fun w => rotl_any x ns[k] w n1 n2)
   generalize ns[k] = n at *
   generalize qV x (ns.take k) = acc at *
   have e1 : IntKind.i64.wrap (-(n : Int)) = -(n : Int) := IntWalk.i64_in _ (by omega)
   go_wp2_with fail
   refine (aA HR _).mono ?_
   rintro e w' ⟨rfl, rfl⟩
   go_wp2
   go_round
   case rel => exact ⟨k + 1, by omega, by go_num, int_eq (by rw [aA HS]; exact aA HX)⟩
   case measure => simp [intOf]; omega
  ·obtain rfl : k = ns.length := by omega
   have HT := hide (show qV x (ns.take ns.length) = qV x ns by rw [List.take_length])
   go_wp2
   go_ret
   exact ⟨pF (by first | rfl | rw [aA HT]), rfl⟩
structure Onto (w : World) (v : Value) (w' : World) (v' : Value) : Prop where
 chg : Chg (fun k => v.ownBlock = some k) w w'
 own : v'.ownBlock = v.ownBlock ∨ ∃ g, v'.ownBlock = some g ∧ w.heap.size ≤ g
theorem Onto.refl (w : World) (v : Value) : Onto w v w v := ⟨Chg.refl _ _, .inl rfl⟩
theorem Onto.trans {a b c : World} {u v x : Value} (h : Onto a u b v) (k : Onto b v c x) : Onto a u c x := by
 refine ⟨h.chg.trans' k.chg (fun _ _ h => h) (fun i hi e => ?_), ?_⟩
 ·rcases h.own with h1 | ⟨g, h1, h2⟩
  ·rw [← h1]; exact e
  ·rw [h1] at e; cases e; omega
 ·rcases k.own with h1 | ⟨g, h1, h2⟩
  ·rw [h1]; exact h.own
  ·exact .inr ⟨g, h1, Nat.le_trans h.chg.size h2⟩
theorem Onto.ext {a b c : World} {u v : Value} (h : Onto a u b v) (k : Ext b c) : Onto a u c v := ⟨h.chg.ext k, h.own⟩
theorem Onto.app {w w' : World} {v v' : Value} (hc : Chg (fun k => v.ownBlock = some k) w w') (hv : v'.ownBlock = v.ownBlock ∨ ∃ g, v'.ownBlock = some g ∧ w.heap.size ≤ g ∧ g < w'.heap.size) : Onto w v w' v' :=
 ⟨hc, hv.imp id fun ⟨g, h1, h2, _⟩ => ⟨g, h1, h2⟩⟩
theorem Onto.new_ext {w0 w w' : World} {v v' : Value} (h0 : Ext w0 w) (h : Onto w v w' v') (hv : ∀ g, v.ownBlock = some g → w0.heap.size ≤ g) : Ext w0 w' :=
 h0.trans' h.chg (fun _ _ h => h) (fun i hi e => by have := hv i e; omega)
def u8v (b : UInt8) : Value := .int .u8 (b.toNat : Int)
theorem aKh (l : List UInt8) (k : Nat) (h : k < l.length) : nN (l.take (k + 1)) = (nN (l.take k) <<< 8) ||| l[k].toUInt32 := by
 rw [jB l k h]; unfold nN; rw [List.foldl_append]; rfl
theorem aHl (b : UInt8) : (b.toNat : Int) = (b.toUInt32.toNat : Int) := by simp
theorem load_any (l : List UInt8) (v : Value) (w : World) (h : Reads w 1 v l.length (l.map u8v)) :
  Calls Tryz.prog 134 #[v] w fun e w' => e = .returned (.int .u32 ((nN l).toNat : Int)) ∧ w = w' := by
 have HH := hide h
 have hm := h.len_le
 unfold maxLen at hm
 obtain ⟨_, B, c, rfl, _, _, _⟩ := h
 go_enter Tryz.func134, Tryz.ntmps134
 go_wp2
 go_loop [3, 8] (fun o i => ∃ k : Nat, k ≤ l.length ∧ i = .int .i64 k ∧ o = .int .u32 ((nN (l.take k)).toNat : Int)) (fun _ i => l.length - (intOf i).toNat)
 case atStart => exact ⟨0, Nat.zero_le _, rfl, rfl⟩
 case round =>
  obtain ⟨k, hk, rfl, rfl⟩ := hrel
  by_cases hlt : k < l.length
  ·obtain ⟨b, o, c', u, hv, _, _, hb, hu, hc1⟩ := (aA HH).at1 hlt
   cases hv
   rw [List.getElem?_map, zH hlt] at hu
   cases hu
   unfold u8v at hc1
   have HS := hide (aKh l k hlt)
   generalize l[k] = z at *
   generalize nN (l.take k) = acc at *
   have hz := z.toNat_lt
   have ha := acc.toNat_lt
   have HX := hide (show bits BinOp.or IntKind.u32 ((acc.toNat : Int) * 2 ^ 8 % 4294967296) (z.toNat : Int) = ((acc <<< 8 ||| z.toUInt32).toNat : Int) from by rw [aNd acc 8 (by omega), aHl, or32]; rfl)
   go_wp2
   go_round
   case rel => exact ⟨k + 1, by omega, by go_num, int_eq (by rw [aA HS]; exact aA HX)⟩
   case measure => simp [intOf]; omega
  ·obtain rfl : k = l.length := by omega
   have HT := hide (show nN (l.take l.length) = nN l by rw [List.take_length])
   go_wp2
   go_ret
   exact ⟨pF (by first | rfl | rw [aA HT]), rfl⟩
theorem eG : SlTy Tryz.prog 40 5 1 1 := SlTy.mk' (z := .int .u8 0) (by kernel_rfl) (by kernel_rfl) rfl (by omega) (by omega)
theorem beBytes_length (n k : Nat) : (beBytes n k).length = k := by induction k with
 | zero => rfl
 | succ k ih => unfold beBytes; simp [ih]
theorem uD (n : Nat) : ∀ (many j : Nat), j < many → (beBytes n many)[j]? = some (UInt8.ofNat (n / 256 ^ (many - 1 - j)))
 | 0, j, h => by omega
 | many + 1, 0, h => by simp [beBytes]
 | many + 1, j + 1, h => by
  rw [beBytes, List.getElem?_cons_succ, uD n many j (by omega), show many + 1 - 1 - (j + 1) = many - 1 - j from by omega]
theorem wZ (n many k : Nat) (h0 : 0 < k) (hk : k ≤ many) : (beBytes n many).take (many - (k - 1)) = (beBytes n many).take (many - k) ++ [UInt8.ofNat (n / 256 ^ (k - 1))] := by
 rw [show many - (k - 1) = many - k + 1 from by omega, List.take_add_one, uD n many (many - k) (by omega), show many - 1 - (many - k) = k - 1 from by omega]
 rfl
theorem byte_of (n k : Nat) : (n : Int) / 2 ^ (8 * k) % 256 = ((UInt8.ofNat (n / 256 ^ k)).toNat : Int) := by
 rw [show (2 : Int) ^ (8 * k) = ((256 ^ k : Nat) : Int) from by rw [Int.pow_mul]; simp]
 simp
theorem aQm (v : Value) (m : Nat) (xs : List Value) (n : Nat) (many : Nat) (B : Nat) (w : World) (h : w.ownsRow B 5 1 v m xs) (hB : B ≤ w.heap.size) (hm : m ≤ 1000000000) (h8 : many ≤ 8) :
  Calls Tryz.prog 130 #[v, .int .u64 (n : Int), .int .i64 (many : Int)] w fun e w' => ∃ v', e = .returned v' ∧ w'.ownsRow B 5 1 v' (m + many) (xs ++ (beBytes n many).map u8v) ∧ Onto w v w' v' := by
 have H0 := hide h
 clear h
 go_enter Tryz.func130, Tryz.ntmps130
 go_wp2
 go_loopw [0, 7] (fun b i wr => ∃ (k : Nat), k ≤ many ∧ i = .int .i64 ((k : Int) - 1) ∧ Hid (wr.ownsRow B 5 1 b (m + (many - k)) (xs ++ ((beBytes n many).take (many - k)).map u8v) ∧ Onto w v wr b)) (fun _ i _ => (intOf i + 1).toNat)
 case atStart => exact ⟨many, Nat.le_refl _, rfl, hide ⟨by rw [Nat.sub_self]; simpa using aA H0, Onto.refl _ _⟩⟩
 case round =>
  obtain ⟨k, hk, rfl, HR⟩ := hrel
  by_cases hk0 : 0 < k
  ·have e0 : (0 : Int) ≤ (k : Int) - 1 := by omega
   have e1 : IntKind.i64.wrap (8 * ((k : Int) - 1)) = ((8 * (k - 1) : Nat) : Int) := by rw [IntWalk.i64_in _ (by omega)]; omega
   have hb := byte_of n (k - 1)
   have HX := hide (wZ n many k hk0 hk)
   generalize UInt8.ofNat (n / 256 ^ (k - 1)) = z at *
   have hsz : Hid (B ≤ wr.heap.size) := hide (Nat.le_trans hB (aA HR).2.chg.size)
   go_wp2_with (at_builtin; refine aU rfl rfl eG rfl (aQ (aA HR).1 ((Ext.refl _).alloc _)) rfl (Reads.new1 _ _ _) (bP.one rfl) (by omega) (Nat.le_trans (aA hsz) (by simp)) ?_; intro A' c' w2 ho hc hv)
   have HQ := hide (And.intro ho (((aA HR).2.ext ((Ext.refl wr).alloc _)).trans (Onto.app hc hv)))
   clear ho hc hv
   go_wp2
   go_roundw
   case rel => exact ⟨k - 1, by omega, by go_num, hide ⟨by rw [aA HX, List.map_append, ← List.append_assoc, show m + (many - (k - 1)) = m + (many - k) + 1 from by omega]; exact (aA HQ).1, (aA HQ).2⟩⟩
   case measure => simp [intOf]; omega
  ·obtain rfl : k = 0 := by omega
   go_wp2
   go_ret
   have h1 := (aA HR).1
   rw [Nat.sub_zero, List.take_of_length_le (by rw [beBytes_length]; exact Nat.le_refl _)] at h1
   exact ⟨_, rfl, h1, (aA HR).2⟩
theorem aFg (v : Value) (m : Nat) (xs : List Value) (n : Nat) (many : Nat) (B : Nat) (w : World) (nI mI : Int) (e1 : nI = (n : Int)) (e2 : mI = (many : Int)) (h : w.ownsRow B 5 1 v m xs) (hB : B ≤ w.heap.size) (hm : m ≤ 1000000000) (_ : n < 18446744073709551616) (h8 : many ≤ 8) :
  Calls Tryz.prog 130 #[v, .int .u64 nI, .int .i64 mI] w fun e w' => ∃ A c, e = .returned (.slice A (m + many) c) ∧ w'.ownsRow B 5 1 (.slice A (m + many) c) (m + many) (xs ++ (beBytes n many).map u8v) ∧ Onto w v w' (.slice A (m + many) c) := by
 subst e1 e2
 refine (aQm v m xs n many B w h hB hm h8).mono ?_
 rintro e w' ⟨v', rfl, h1, h2⟩
 obtain ⟨A, c, rfl⟩ := iO h1
 exact ⟨A, c, rfl, h1, h2⟩
end Go.Proofs.YtihghljfmlbfhaaGreatDoor
