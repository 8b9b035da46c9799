/-
  Several texts in one file: each has its own heading below.
-/
import Derived.Test.YtcjlkjcadaaleaaDoorQpD
import Derived.WalkKit
import Derived.Laws.BitsAllLaws
import Derived.Test.YtcjlkjcadaaleaaDoorProg
import Derived.Test.YtcjlkjcadaaleaaDoorQpA
import Derived.Outline
import Derived.OwnWalkIn
import Derived.RangeFuncNested
import Derived.RangeFuncBound
import Derived.RangeFuncCalls
import Derived.RangeFuncLeaves
import Derived.TacticsInMore
import Derived.LoopNIn
import Derived.LoopIn
import Derived.Deep.Cut
import Derived.ChangeKeysEq
import Derived.DeepKeys
import Derived.Deep.RegionHeld3
import Derived.Deep.DeepCutAuto

/-
  The abstract machine: a state is narrowed to what is still of use, its versions begin anew; a state is put in other words. Plain: no function of the program is named here.
-/
namespace Go.Proofs.YtcjlkjcadaaleaaDoor.Pv
open Go.RowKit

def verOk (kO : List Nat) (s : St) (x ver : Nat) : Bool := match kO.any (Nat.beq x), find s.o x with
  | true, some (_, vr, _) => Nat.beq ver vr
  | _, _ => false
mutual
def rv (kO : List Nat) (s : St) : PC → Option PC
  | .lit v => some (.lit v)
  | .bs n l => some (.bs n l)
  | .sl n len f => some (.sl n len f)
  | .ow x ver n off len => match verOk kO s x ver with | true => some (.ow x 0 n off len) | false => none
  | .ob x ver off len => match verOk kO s x ver with | true => some (.ob x 0 off len) | false => none
  | .pt x ver off => match verOk kO s x ver with | true => some (.pt x 0 off) | false => none
  | .pk x ver off k => match verOk kO s x ver with | true => some (.pk x 0 off k) | false => none
  | .pe x ver n i j => match verOk kO s x ver with | true => some (.pe x 0 n i j) | false => none
  | .pf n len f i j => some (.pf n len f i j)
  | .fn f first cap => match rvL kO s first, rvL kO s cap with
    | some a, some b => some (.fn f a b)
    | _, _ => none
def rvL (kO : List Nat) (s : St) : List PC → Option (List PC)
  | [] => some []
  | c :: l => match rv kO s c, rvL kO s l with
    | some c', some l' => some (c' :: l')
    | _, _ => none
end
def rvW (kO : List Nat) (s : St) : PW → Option PW
  | .one c => match rv kO s c with | some c => some (.one c) | none => none
  | .agg l => match rvL kO s l with | some l => some (.agg l) | none => none
def rvWs (kO : List Nat) (s : St) : List PW → Option (List PW)
  | [] => some []
  | x :: l => match rvW kO s x, rvWs kO s l with
    | some x, some l => some (x :: l)
    | _, _ => none
def rvV (kO : List Nat) (s : St) : PV → Option PV
  | .w x => match rvW kO s x with | some x => some (.w x) | none => none
  | .tup l => match rvWs kO s l with | some l => some (.tup l) | none => none
  | .none => some .none
def keepT (kO : List Nat) (s : St) : List Nat → Option (List (Nat × Option Bool × PV))
  | [] => some []
  | t :: l => match find s.t t, keepT kO s l with
    | some (g, v), some r => (match rvV kO s v with | some v' => some ((t, g, v') :: r) | none => none)
    | _, _ => none
def rvO (kO : List Nat) (s : St) : AObj → Option (List Prop × AObj)
  | .box t l => match rvL kO s l with | some l => some ([], .box t l) | none => none
  | .arr e n len f => some ([∀ i, i < len → (f i).all (coldPC false) = true], .arr e n len f)
  | .dead => some ([], .dead)
def keepO (kO : List Nat) (s : St) : List Nat → Option (List Prop × Wr)
  | [] => some ([], [])
  | x :: l => match find s.o x, keepO kO s l with
    | some (g, _, ob), some (cs, r) => (match rvO kO s ob with | some (c, ob') => some (c ++ cs, (x, g, 0, ob') :: r) | none => none)
    | _, _ => none
def resetSt (kT kO : List Nat) (s : St) : Option (List Prop × St) := match keepT kO s kT, keepO kO s kO with
  | some t, some (cs, o) => some (cs, ⟨t, o⟩)
  | _, _ => none

def envK (kO : List Nat) (env : Env) : Env := fun x => match kO.any (Nat.beq x) with
  | true => (env x).map fun p => (0, p.2)
  | false => none
section
variable {A : Amb} {s : St} {a : Act} {w : World} {env : Env} {kO : List Nat}
theorem ok_envK {b : Nat} (h : (ctxOf A w env).ok b) : (ctxOf A w (envK kO env)).ok b := ⟨h.1, fun x ver hd he => by
  have he' : envK kO env x = some (ver, hd) := he
  unfold envK at he'
  split at he'
  · cases hx : env x with
    | none => rw [hx] at he'; cases he'
    | some p =>
      obtain ⟨v, hd'⟩ := p
      rw [hx] at he'
      cases he'
      exact h.2 x v _ hx
  · cases he'⟩
theorem cold_envK : (ctxOf A w env).cold.Le (ctxOf A w (envK kO env)) := ⟨Nat.le_refl _, fun b _ h => ⟨ok_envK h, rfl⟩, fun _ _ _ h => by cases h⟩
theorem cold_envK' : (ctxOf A w env).cold.Le (ctxOf A w (envK kO env)).cold := ⟨Nat.le_refl _, fun b _ h => ⟨ok_envK (w := w) (env := env) (kO := kO) h, rfl⟩, fun _ _ _ h => by cases h⟩
theorem at_envK (h : GamE A s a w env) {x ver : Nat} {p : Value → Prop} (hv : verOk kO s x ver = true) (ha : At (ctxOf A w env) x ver p) : At (ctxOf A w (envK kO env)) x 0 p := by
  unfold verOk at hv
  split at hv
  · rename_i g vr ob h1 h2
    obtain ⟨hd, h3, _⟩ := h.objs x g vr ob h2
    have hp := ha.now (hd := hd) (by rw [beqT hv]; exact h3)
    refine ⟨0, hd, ?_, Nat.le_refl _, fun _ => hp⟩
    show envK kO env x = some (0, hd)
    unfold envK
    rw [h1, h3]
    rfl
  · cases hv
mutual
theorem rv_ok (h : GamE A s a w env) : ∀ {c c' : PC} {xs : List Value}, rv kO s c = some c' → R (ctxOf A w env) c xs → R (ctxOf A w (envK kO env)) c' xs
  | .lit v, c', xs, hr, hR => by
    simp only [rv, Option.some.injEq] at hr; subst hr; cases hR; exact .lit (by assumption)
  | .bs n l, c', xs, hr, hR => by
    simp only [rv, Option.some.injEq] at hr; subst hr; cases hR; exact .bs (by assumption)
  | .sl n len f, c', xs, hr, hR => by
    simp only [rv, Option.some.injEq] at hr
    subst hr
    cases hR with
    | sl h1 h2 h3 => exact .sl h1 (fun g hg hl => ⟨ok_envK (h2 g hg hl).1, (h2 g hg hl).2⟩) (fun i hi => (h3 i hi).le cold_envK')
  | .ow x ver n off len, c', xs, hr, hR => by
    unfold rv at hr
    cases hv : verOk kO s x ver <;> rw [hv] at hr <;> cases hr
    cases hR with | ow h1 h2 => exact .ow h1 (at_envK h hv h2)
  | .ob x ver off len, c', xs, hr, hR => by
    unfold rv at hr
    cases hv : verOk kO s x ver <;> rw [hv] at hr <;> cases hr
    cases hR with | ob h1 h2 => exact .ob h1 (at_envK h hv h2)
  | .pt x ver off, c', xs, hr, hR => by
    unfold rv at hr
    cases hv : verOk kO s x ver <;> rw [hv] at hr <;> cases hr
    cases hR with | pt h1 h2 => exact .pt h1 (at_envK h hv h2)
  | .pk x ver off k, c', xs, hr, hR => by
    unfold rv at hr
    cases hv : verOk kO s x ver <;> rw [hv] at hr <;> cases hr
    cases hR with | pk h1 h2 => exact .pk h1 (at_envK h hv h2)
  | .pe x ver n i j, c', xs, hr, hR => by
    unfold rv at hr
    cases hv : verOk kO s x ver <;> rw [hv] at hr <;> cases hr
    cases hR with | pe h1 h2 => exact .pe h1 (at_envK h hv h2)
  | .pf n len f i j, c', xs, hr, hR => by
    simp only [rv, Option.some.injEq] at hr
    subst hr
    cases hR with
    | pf h1 h2 h3 h4 => exact .pf h1 ⟨ok_envK h2.1, h2.2⟩ (fun i hi => (h3 i hi).le cold_envK') h4
  | .fn f first cap, c', xs, hr, hR => by
    unfold rv at hr
    cases h1 : rvL kO s first <;> cases h2 : rvL kO s cap <;> simp only [h1, h2] at hr <;> try (cases hr; done)
    cases hr
    cases hR with
    | fn h3 h4 => exact .fn (rvL_ok h h1 h3) (rvL_ok h h2 h4)
theorem rvL_ok (h : GamE A s a w env) : ∀ {l l' : List PC} {xs : List Value}, rvL kO s l = some l' → RL (ctxOf A w env) l xs → RL (ctxOf A w (envK kO env)) l' xs
  | [], l', xs, hr, hR => by
    simp only [rvL, Option.some.injEq] at hr; subst hr; cases hR; exact .nil
  | c :: l, l', xs, hr, hR => by
    unfold rvL at hr
    cases h1 : rv kO s c <;> cases h2 : rvL kO s l <;> simp only [h1, h2] at hr <;> try (cases hr; done)
    cases hr
    cases hR with
    | cons h3 h4 => exact .cons (rv_ok h h1 h3) (rvL_ok h h2 h4)
end
theorem rvW_ok (h : GamE A s a w env) {x x' : PW} {v : Value} (hr : rvW kO s x = some x') (hR : RW (ctxOf A w env) x v) : RW (ctxOf A w (envK kO env)) x' v := by
  cases hR with
  | @one c _ h1 =>
    unfold rvW at hr
    cases hq : rv kO s c <;> simp only [hq] at hr <;> try (cases hr; done)
    cases hr
    exact .one (rv_ok h hq h1)
  | @agg l _ h1 =>
    unfold rvW at hr
    cases hq : rvL kO s l <;> simp only [hq] at hr <;> try (cases hr; done)
    cases hr
    exact .agg (rvL_ok h hq h1)
theorem rvWs_at : ∀ {l l' : List PW} {i : Nat} {x' : PW}, rvWs kO s l = some l' → l'[i]? = some x' → ∃ x, l[i]? = some x ∧ rvW kO s x = some x'
  | [], l', i, x', h, hi => by simp only [rvWs, Option.some.injEq] at h; subst h; simp at hi
  | y :: l, l', i, x', h, hi => by
    unfold rvWs at h
    cases h1 : rvW kO s y <;> cases h2 : rvWs kO s l <;> simp only [h1, h2] at h <;> try (cases h; done)
    rename_i y' l2
    cases h
    cases i with
    | zero =>
      obtain rfl : y' = x' := by simpa using hi
      exact ⟨y, rfl, h1⟩
    | succ i =>
      obtain ⟨x, h3, h4⟩ := rvWs_at h2 (by simpa using hi : l2[i]? = some x')
      exact ⟨x, by simpa using h3, h4⟩
theorem rvWs_len : ∀ {l l' : List PW}, rvWs kO s l = some l' → l.length = l'.length
  | [], l', h => by simp only [rvWs, Option.some.injEq] at h; subst h; rfl
  | y :: l, l', h => by
    unfold rvWs at h
    cases h1 : rvW kO s y <;> cases h2 : rvWs kO s l <;> simp only [h1, h2] at h <;> try (cases h; done)
    cases h
    rw [List.length_cons, List.length_cons, rvWs_len h2]
theorem rvV_ok (h : GamE A s a w env) {x x' : PV} {v : Value} (hr : rvV kO s x = some x') (hR : RV (ctxOf A w env) x v) : RV (ctxOf A w (envK kO env)) x' v := by
  cases hR with
  | @w x _ h1 =>
    unfold rvV at hr
    cases hq : rvW kO s x <;> simp only [hq] at hr <;> try (cases hr; done)
    cases hr
    exact .w (rvW_ok h hq h1)
  | @tup l _ hl h1 =>
    unfold rvV at hr
    cases hq : rvWs kO s l <;> simp only [hq] at hr <;> try (cases hr; done)
    cases hr
    refine .tup (by rw [← rvWs_len hq]; exact hl) (fun i x' hi => ?_)
    obtain ⟨x, h3, h4⟩ := rvWs_at hq hi
    obtain ⟨v, h5, h6⟩ := h1 i x h3
    exact ⟨v, h5, rvW_ok h h4 h6⟩
  | none =>
    simp only [rvV, Option.some.injEq] at hr
    subst hr
    exact .none
theorem keepT_at : ∀ {kT : List Nat} {l : List (Nat × Option Bool × PV)} {t : Nat} {g : Option Bool} {pv : PV}, keepT kO s kT = some l → find l t = some (g, pv) → ∃ v, find s.t t = some (g, v) ∧ rvV kO s v = some pv
  | [], l, t, g, pv, h, hf => by simp only [keepT, Option.some.injEq] at h; subst h; cases hf
  | t0 :: kT, l, t, g, pv, h, hf => by
    unfold keepT at h
    cases h1 : find s.t t0 <;> cases h2 : keepT kO s kT <;> simp only [h1, h2] at h <;> try (cases h; done)
    rename_i p r
    obtain ⟨g0, v0⟩ := p
    dsimp only at h
    cases h3 : rvV kO s v0 <;> simp only [h3] at h <;> try (cases h; done)
    cases h
    by_cases ht : t0 = t
    · subst ht
      rw [find_cons_eq] at hf
      cases hf
      exact ⟨v0, h1, h3⟩
    · rw [find_cons_ne _ _ ht] at hf
      exact keepT_at h2 hf
theorem keepO_at : ∀ {l : List Nat} {cs : List Prop} {r : Wr} {x : Nat}, keepO kO s l = some (cs, r) → (find r x = none → ¬ (l.any (Nat.beq x) = true)) ∧ ∀ g ver ob, find r x = some (g, ver, ob) → ver = 0 ∧ l.any (Nat.beq x) = true ∧ ∃ vr ob0 c, find s.o x = some (g, vr, ob0) ∧ rvO kO s ob0 = some (c, ob) ∧ (All cs → All c)
  | [], cs, r, x, h => by
    simp only [keepO, Option.some.injEq, Prod.mk.injEq] at h
    obtain ⟨rfl, rfl⟩ := h
    exact ⟨fun _ => by simp, fun g ver ob hf => by cases hf⟩
  | x0 :: l, cs, r, x, h => by
    unfold keepO at h
    cases h1 : find s.o x0 <;> cases h2 : keepO kO s l <;> simp only [h1, h2] at h <;> try (cases h; done)
    rename_i p q
    obtain ⟨g0, vr0, ob0⟩ := p
    obtain ⟨cs2, r2⟩ := q
    dsimp only at h
    cases h3 : rvO kO s ob0 <;> simp only [h3] at h <;> try (cases h; done)
    rename_i z
    obtain ⟨c, ob'⟩ := z
    cases h
    have allL : ∀ {a b : List Prop}, All (a ++ b) → All a ∧ All b := by
      intro a
      induction a with
      | nil => intro b h; exact ⟨trivial, h⟩
      | cons p a ih => intro b h; exact ⟨⟨h.1, (ih h.2).1⟩, (ih h.2).2⟩
    by_cases hx : x0 = x
    · subst hx
      refine ⟨fun hf => (by rw [find_cons_eq] at hf; cases hf), fun g ver ob hf => ?_⟩
      rw [find_cons_eq] at hf
      cases hf
      exact ⟨rfl, by simp, vr0, ob0, c, h1, h3, fun h => (allL h).1⟩
    · have ih := keepO_at (x := x) h2
      refine ⟨fun hf => ?_, fun g ver ob hf => ?_⟩
      · rw [find_cons_ne _ _ hx] at hf
        have := ih.1 hf
        rw [List.any_cons]
        simp only [Bool.or_eq_true, not_or]
        exact ⟨fun e => hx (beqT e).symm, this⟩
      · rw [find_cons_ne _ _ hx] at hf
        obtain ⟨h4, h5, vr, ob1, c1, h6, h7, h8⟩ := ih.2 g ver ob hf
        exact ⟨h4, by rw [List.any_cons, h5, Bool.or_true], vr, ob1, c1, h6, h7, fun h => h8 (allL h).2⟩
theorem rvO_ok (h : GamE A s a w env) {ob ob' : AObj} {c : List Prop} {hd : Value} (hr : rvO kO s ob = some (c, ob')) (hc : All c) (hO : ObjOk (ctxOf A w env) hd ob) : ObjOk (ctxOf A w (envK kO env)) hd ob' := by
  cases ob with
  | dead => simp only [rvO, Option.some.injEq, Prod.mk.injEq] at hr; obtain ⟨_, rfl⟩ := hr; trivial
  | box t l =>
    unfold rvO at hr
    cases hq : rvL kO s l <;> simp only [hq] at hr <;> try (cases hr; done)
    cases hr
    obtain ⟨g, cs, rfl, h1, h2⟩ := hO
    exact ⟨g, cs, rfl, h1, rvL_ok h hq h2⟩
  | arr e n len f =>
    simp only [rvO, Option.some.injEq, Prod.mk.injEq] at hr
    obtain ⟨rfl, rfl⟩ := hr
    obtain ⟨vs, h1, h2⟩ := hO
    exact ⟨vs, h1, fun i hi => (coldPL_le (h2 i hi) (hc.1 i hi)).le cold_envK⟩
theorem Gam.reset {kT : List Nat} {cs : List Prop} {s' : St} (h : Gam A s a w) (hr : resetSt kT kO s = some (cs, s')) (hc : All cs) : Gam A s' a w := by
  obtain ⟨env, h⟩ := h
  unfold resetSt at hr
  cases h1 : keepT kO s kT <;> cases h2 : keepO kO s kO <;> simp only [h1, h2] at hr <;> try (cases hr; done)
  rename_i t q
  obtain ⟨cs', o⟩ := q
  cases hr
  refine ⟨envK kO env, { chg := h.chg, size := h.size, dom := fun x hx => ?_, objs := fun x g ver ob hf => ?_, live := fun x ver hd b he hb => ?_, inj := fun x y v1 h1 v2 h2 b he1 he2 hb1 hb2 => ?_, tmps := fun t' g pv hf hg => ?_, defers := h.defers }⟩
  · have := (keepO_at (x := x) h2).1 hx
    unfold envK
    cases hb : kO.any (Nat.beq x) with
    | true => exact absurd hb this
    | false => rfl
  · obtain ⟨rfl, hk, vr, ob0, c, h4, h5, h6⟩ := (keepO_at (x := x) h2).2 g ver ob hf
    obtain ⟨hd, h7, h8⟩ := h.objs x g vr ob0 h4
    refine ⟨hd, ?_, fun hg => rvO_ok h h5 (h6 hc) (h8 hg)⟩
    unfold envK
    rw [hk, h7]
    rfl
  · unfold envK at he
    split at he
    · cases hx : env x with
      | none => rw [hx] at he; cases he
      | some p => obtain ⟨v, hd'⟩ := p; rw [hx] at he; cases he; exact h.live x v _ b hx hb
    · cases he
  · unfold envK at he1 he2
    split at he1
    · split at he2
      · cases hx : env x with
        | none => rw [hx] at he1; cases he1
        | some p =>
          cases hy : env y with
          | none => rw [hy] at he2; cases he2
          | some q => obtain ⟨v, hd'⟩ := p; obtain ⟨v2', hd2'⟩ := q; rw [hx] at he1; rw [hy] at he2; cases he1; cases he2; exact h.inj x y v _ v2' _ b hx hy hb1 hb2
      · cases he2
    · cases he1
  · obtain ⟨v, h4, h5⟩ := keepT_at h1 hf
    obtain ⟨val, h6, h7⟩ := h.tmps t' g v h4 hg
    exact ⟨val, h6, rvV_ok h h5 h7⟩

/-! ### The same in other words -/
inductive SameO : AObj → AObj → Prop where
  | box {t : TypeId} {l l' : List PC} (h : l = l') : SameO (.box t l) (.box t l')
  | arr {e n len len' : Nat} {f f' : Nat → List PC} (hl : len = len') (h : ∀ i, i < len → f i = f' i) : SameO (.arr e n len f) (.arr e n len' f')
  | dead {o : AObj} : SameO o .dead
inductive SameT : List (Nat × Option Bool × PV) → List (Nat × Option Bool × PV) → Prop where
  | nil : SameT [] []
  | cons {t : Nat} {g : Option Bool} {v v' : PV} {l l' : List (Nat × Option Bool × PV)} (h : v = v') (hl : SameT l l') : SameT ((t, g, v) :: l) ((t, g, v') :: l')
inductive SameW : Wr → Wr → Prop where
  | nil : SameW [] []
  | cons {x ver : Nat} {g : Option Bool} {o o' : AObj} {l l' : Wr} (h : SameO o o') (hl : SameW l l') : SameW ((x, g, ver, o) :: l) ((x, g, ver, o') :: l')
theorem SameT.eq {l l' : List (Nat × Option Bool × PV)} (h : SameT l l') : l = l' := by
  induction h with
  | nil => rfl
  | cons h _ ih => rw [h, ih]
theorem SameW.find {l l' : Wr} (h : SameW l l') (x : Nat) : (find l x = none ∧ find l' x = none) ∨ ∃ g ver o o', find l x = some (g, ver, o) ∧ find l' x = some (g, ver, o') ∧ SameO o o' := by
  induction h with
  | nil => exact .inl ⟨rfl, rfl⟩
  | @cons y ver g o o' l l' h _ ih =>
    by_cases hy : y = x
    · subst hy; exact .inr ⟨g, ver, o, o', find_cons_eq _ _ _, find_cons_eq _ _ _, h⟩
    · rw [find_cons_ne _ _ hy, find_cons_ne _ _ hy]; exact ih
theorem SameO.ok {C : Ctx} {hd : Value} {o o' : AObj} (h : SameO o o') (hO : ObjOk C hd o) : ObjOk C hd o' := by
  cases h with
  | box h => rw [← h]; exact hO
  | arr hl h =>
    subst hl
    obtain ⟨vs, h1, h2⟩ := hO
    exact ⟨vs, h1, fun i hi => by rw [← h i hi]; exact h2 i hi⟩
  | dead => trivial
theorem Gam.same {s' : St} (h : Gam A s a w) (hT : SameT s.t s'.t) (hO : SameW s.o s'.o) : Gam A s' a w := by
  obtain ⟨env, h⟩ := h
  refine ⟨env, { chg := h.chg, size := h.size, dom := fun x hx => ?_, objs := fun x g ver ob hf => ?_, live := h.live, inj := h.inj, tmps := fun t g pv hf => ?_, defers := h.defers }⟩
  · rcases hO.find x with h1 | ⟨g, ver, o, o', _, h2, _⟩
    · exact h.dom x h1.1
    · rw [h2] at hx; cases hx
  · rcases hO.find x with h1 | ⟨g', ver', o, o', h1, h2, h3⟩
    · rw [h1.2] at hf; cases hf
    · rw [h2] at hf
      cases hf
      obtain ⟨hd, h4, h5⟩ := h.objs x _ _ o h1
      exact ⟨hd, h4, fun hg => h3.ok (h5 hg)⟩
  · rw [← hT.eq] at hf
    exact h.tmps t g pv hf
/-- An empty slice may be taken for a row that the call owns. -/
theorem Gam.nilRow {x e n t : Nat} (h : Gam A s a w) (hx : find s.o x = none) (ht : find s.t t = some (none, lit1 (.slice none 0 0))) : Gam A { t := (t, none, pv1 (.ow x 0 n 0 0)) :: s.t, o := (x, none, 0, .arr e n 0 (fun _ => [])) :: s.o } a w := by
  obtain ⟨env, h⟩ := h
  have hfr : fresh s x = 0 := by unfold fresh; rw [hx]
  obtain ⟨h1, h2⟩ := h.new (w' := w) x none (.slice none 0 0) (.arr e n 0 (fun _ => [])) (Ext.refl w) (fun b hb => by cases hb) (fun _ _ => ⟨[], ⟨by simp, .inl ⟨rfl, rfl⟩⟩, fun i hi => by omega⟩)
  rw [hfr] at h1 h2
  refine ⟨_, { h1 with tmps := fun t' g pv hf hg => ?_ }⟩
  by_cases ht' : t = t'
  · subst ht'
    rw [find_cons_eq] at hf
    cases hf
    obtain ⟨v, h3, h4⟩ := h.tmps t none _ ht trivial
    have := h4.lit_inv
    subst this
    exact ⟨_, h3, .w (.one (.ow ⟨_, _, rfl⟩ ⟨0, _, updE_eq _ _ _ _, Nat.le_refl _, fun _ => ⟨none, 0, 0, rfl, by omega, rfl⟩⟩))⟩
  · rw [find_cons_ne _ _ ht'] at hf
    exact h1.tmps t' g pv hf hg
end

theorem RL.repl {C : Ctx} {c c' : PC} {l2 : List PC} (hc : ∀ ys, R C c ys → R C c' ys) : ∀ {l1 : List PC} {xs : List Value}, RL C (l1 ++ c :: l2) xs → RL C (l1 ++ c' :: l2) xs
  | [], _, h => by cases h with | cons h1 h2 => exact .cons (hc _ h1) h2
  | _ :: l1, _, h => by cases h with | cons h1 h2 => exact .cons h1 (RL.repl hc (l1 := l1) h2)
/-- An empty slice in a box may be taken for a row that the call owns. -/
theorem Gam.nilRowB {A : Amb} {s : St} {a : Act} {w : World} {x e n b vr ty : Nat} {l1 l2 : List PC} (h : Gam A s a w) (hx : find s.o x = none) (hb : find s.o b = some (none, vr, .box ty (l1 ++ .lit (.slice none 0 0) :: l2))) :
    Gam A { t := s.t, o := (b, none, vr, .box ty (l1 ++ .ow x 0 n 0 0 :: l2)) :: (x, none, 0, .arr e n 0 (fun _ => [])) :: s.o } a w := by
  obtain ⟨env, h⟩ := h
  have hfr : fresh s x = 0 := by unfold fresh; rw [hx]
  obtain ⟨h1, h2⟩ := h.new (w' := w) x none (.slice none 0 0) (.arr e n 0 (fun _ => [])) (Ext.refl w) (fun b hb => by cases hb) (fun _ _ => ⟨[], ⟨by simp, .inl ⟨rfl, rfl⟩⟩, fun i hi => by omega⟩)
  rw [hfr] at h1 h2
  have hxb : x ≠ b := fun e => by subst e; rw [hx] at hb; cases hb
  refine ⟨_, { h1 with dom := fun x' hf => ?_, objs := fun x' g ver o hf => ?_, tmps := fun t' g pv hf hg => h1.tmps t' g pv hf hg }⟩
  · by_cases hbx : b = x'
    · subst hbx; rw [find_cons_eq] at hf; cases hf
    · rw [find_cons_ne _ _ hbx] at hf
      exact h1.dom x' hf
  · by_cases hbx : b = x'
    · subst hbx
      rw [find_cons_eq] at hf
      cases hf
      obtain ⟨hd, h3, h4⟩ := h1.objs b none vr _ (show find ((x, none, 0, AObj.arr e n 0 (fun _ => [])) :: s.o) b = _ by rw [find_cons_ne _ _ hxb]; exact hb)
      refine ⟨hd, h3, fun hg => ?_⟩
      obtain ⟨g, cs, rfl, h5, h6⟩ := h4 hg
      refine ⟨g, cs, rfl, h5, h6.repl (fun ys hr => ?_)⟩
      cases hr
      exact .ow ⟨_, _, rfl⟩ ⟨0, _, updE_eq _ _ _ _, Nat.le_refl _, fun _ => ⟨none, 0, 0, rfl, by omega, rfl⟩⟩
    · rw [find_cons_ne _ _ hbx] at hf
      exact h1.objs x' g ver o hf

theorem appF_ext {k : Nat} {f g f2 : Nat → List PC} (h1 : ∀ i, i < k → f i = f2 i) (h2 : g 0 = f2 k) : ∀ i, i < k + 1 → appF k f g i = f2 i := fun i hi => by
  unfold appF
  by_cases h : i < k
  · rw [if_pos h]; exact h1 i h
  · obtain rfl : i = k := by omega
    rw [if_neg h, Nat.sub_self]; exact h2
theorem appF_cold {k : Nat} {f g : Nat → List PC} (h1 : ∀ i, i < k → ∀ x ∈ f i, coldPC false x = true) (h2 : ∀ x ∈ g 0, coldPC false x = true) : ∀ i, i < k + 1 → ∀ x ∈ appF k f g i, coldPC false x = true := fun i hi x hx => by
  unfold appF at hx
  by_cases h : i < k
  · rw [if_pos h] at hx; exact h1 i h x hx
  · obtain rfl : i = k := by omega
    rw [if_neg h, Nat.sub_self] at hx; exact h2 x hx
theorem one_cold {c : PC} (h : coldPC false c = true) : ∀ x ∈ [c], coldPC false x = true := fun x hx => by
  rw [List.mem_singleton.1 hx]; exact h

end Go.Proofs.YtcjlkjcadaaleaaDoor.Pv

/-
  The abstract machine: specifications of functions out of contracts. Plain: no function of the program is named here.
-/
namespace Go.Proofs.YtcjlkjcadaaleaaDoor.Pv
open Go.RowKit

section
variable {P : Program} {I : World → Prop} {A : Amb} {s : St} {a : Act} {w : World} {env : Env} {F : Option Bool → PV → Wr → Prop}
/-- A row that the call hands over. -/
theorem GamE.new_own (h : GamE A s a w env) (nm : Nat) (e n len : Nat) {f : Nat → List PC} {v : Value} {xs : List Value} {w' : World} (hE : Ext w w') (ho : w'.ownsRow w.heap.size e n v len xs) (hr : ∀ C : Ctx, ∀ i, i < len → RL C (f i) ((xs.drop (i * n)).take n)) :
    ∃ env', GamE A { s with o := [(nm, none, fresh s nm, .arr e n len f)] ++ s.o } a w' env' ∧ RV (ctxOf A w' env') (pv1 (.ow nm (fresh s nm) n 0 len)) v := by
  have ho0 : w'.ownsRow 0 e n v len xs := ⟨ho.1, ho.2.imp id (fun ⟨g, cap, cur, h1, _, h3⟩ => ⟨g, cap, cur, h1, Nat.zero_le _, h3⟩)⟩
  obtain ⟨A0, c0, rfl⟩ := own_slice ho
  obtain ⟨h1, h2⟩ := h.new (w' := w') nm none (.slice A0 len c0) (.arr e n len f) hE (fun b hb => by
      have hb' : (Value.slice A0 len c0).ownBlock = some b := by cases A0 <;> exact hb
      exact ⟨(ho.lt b hb').2, (ho.lt b hb').1⟩)
    (fun hle _ => ⟨xs, ho0, fun i hi => hr _ i hi⟩)
  refine ⟨_, h1, .w (.one (.ow ⟨_, _, rfl⟩ ⟨_, _, updE_eq _ _ _ _, Nat.le_refl _, fun _ => ⟨_, _, _, rfl, by omega, ?_⟩⟩))⟩
  cases A0 with
  | none => simp
  | some ad => simp [Addr.add]
/-! ### Arguments without names of objects -/
def expC (c : PC) (k : PC → M) : M := match c with
  | .lit v => k (.lit v)
  | .bs n l => k (.bs n l)
  | .sl n len f => k (.sl n len f)
  | .ow x ver n off len => .obj x fun g vr ob => guardT g (match Nat.beq ver vr, ob with
    | true, .arr _ m tot f => (match Nat.beq n m with
      | true => .need (off + len ≤ tot ∧ ∀ i, i < len → (f (off + i)).all (coldPC false) = true) (k (.sl n len (fun i => f (off + i))))
      | false => .fail)
    | _, _ => .fail)
  | .ob x ver off len => .obj x fun g vr ob => guardT g (match Nat.beq ver vr, ob with
    | true, .box _ l => (match bsAt l off with
      | some (m, bs) => (match Nat.beq len m with
        | true => k (.sl 1 len (byF bs))
        | false => .fail)
      | none => .fail)
    | _, _ => .fail)
  | _ => .fail
def expL : List PC → (List PC → M) → M
  | [], k => k []
  | c :: l, k => expC c fun c => expL l fun l => k (c :: l)
def expV (v : PV) (k : PV → M) : M := match v with
  | .w (.one c) => expC c fun c => k (.w (.one c))
  | .w (.agg l) => expL l fun l => k (.w (.agg l))
  | _ => .fail
def expVs : List PV → (List PV → M) → M
  | [], k => k []
  | v :: l, k => expV v fun v => expVs l fun l => k (v :: l)
def anyCtx (w : World) : Ctx := { w, ok := fun _ => True, env := fun _ => none }
theorem cold_any : (ctxOf A w env).cold.Le (anyCtx w) := ⟨Nat.le_refl _, fun b _ _ => ⟨trivial, rfl⟩, fun _ _ _ h => by cases h⟩
theorem cold_any' : (ctxOf A w env).cold.Le (anyCtx w).cold := ⟨Nat.le_refl _, fun b _ _ => ⟨trivial, rfl⟩, fun _ _ _ h => by cases h⟩
theorem expC_ok (h : GamE A s a w env) {c : PC} {xs : List Value} (hr : R (ctxOf A w env) c xs) {k : PC → M} (hk : (expC c k).ok none s F) : ∃ c', R (anyCtx w) c' xs ∧ (k c').ok none s F := by
  unfold expC at hk
  split at hk
  · cases hr; exact ⟨_, .lit (by assumption), hk⟩
  · cases hr; exact ⟨_, .bs (by assumption), hk⟩
  · cases hr with
    | sl h1 h2 h3 => exact ⟨_, .sl h1 (fun g hg hl => ⟨trivial, (h2 g hg hl).2⟩) (fun i hi => (h3 i hi).le cold_any'), hk⟩
  · rename_i x ver n off len
    obtain ⟨g, vr, ob, hfo, hk⟩ := hk
    have hk2 := guardT_ok hk
    clear hk
    obtain ⟨hg, hk⟩ := hk2
    obtain ⟨hd, hev, hob⟩ := obj_at h hfo hg
    cases hb : Nat.beq ver vr <;> cases ob <;> simp only [hb] at hk <;> try exact hk.elim
    rename_i e m tot f
    obtain rfl := beqT hb
    cases hb4 : Nat.beq n m <;> rw [hb4] at hk
    · exact hk.elim
    obtain rfl := beqT hb4
    obtain ⟨⟨hle, hcold⟩, hk⟩ := hk
    cases hr with
    | ow h1 hat =>
      obtain ⟨A0, n0, c0, rfl, hle0, rfl⟩ := hat.now hev
      obtain ⟨vs, hown, hel⟩ := hob
      have hrd := Reads.of_own hown
      have hn0 : n0 = tot := by
        obtain ⟨_, A1, c1, e1, _⟩ := hrd
        cases e1; rfl
      subst hn0
      refine ⟨_, .sl (vs := (vs.drop (off * n)).take (len * n)) (reads_slice hle hrd) (fun b hb hlt => ⟨trivial, ?_⟩) (fun i hi => ?_), hk⟩
      · cases A0 with
        | none => simp [Value.ownBlock] at hb
        | some ad =>
          simp only [Option.map_some, Value.ownBlock, Option.some.injEq, block_of_add] at hb
          exact (h.live x ver _ b hev (by simp [hblk, hb])).1
      · rw [window_window vs hi]
        exact (coldPL_le (hel _ (by omega)) (hcold i hi)).le cold_any'
  · rename_i x ver off len
    obtain ⟨g, vr, ob, hfo, hk⟩ := hk
    have hk2 := guardT_ok hk
    clear hk
    obtain ⟨hg, hk⟩ := hk2
    obtain ⟨hd, hev, hob⟩ := obj_at h hfo hg
    cases hb : Nat.beq ver vr <;> cases ob <;> simp only [hb] at hk <;> try exact hk.elim
    rename_i bt l
    obtain rfl := beqT hb
    cases hs : bsAt l off with
    | none => rw [hs] at hk; exact hk.elim
    | some q =>
      obtain ⟨m, bs⟩ := q
      rw [hs] at hk
      dsimp only at hk
      cases hb2 : Nat.beq len m <;> rw [hb2] at hk
      · exact hk.elim
      obtain rfl := beqT hb2
      cases hr with
      | ob h1 hat =>
        obtain ⟨g1, c, rfl, hc1, hc2, rfl⟩ := hat.now hev
        obtain ⟨g2, cs, e2, hB, hR⟩ := hob
        cases e2
        obtain ⟨k1, k2, k3⟩ := bsAt_range hR hs
        have hrg := range_drop hB.range off len
        rw [Nat.zero_add, k2] at hrg
        refine ⟨_, .sl (vs := bs.map u8w) ⟨by simp [k1], _, c, rfl, hc1, hc2, fun hn => ⟨g1, off, rfl, fun j u hj => hrg j u hj⟩⟩ (fun b hb _ => ⟨trivial, ?_⟩) (fun i hi => byF_cells _ bs i (by omega)), hk⟩
        simp only [Value.ownBlock, Option.some.injEq] at hb
        subst hb
        exact hB.lt
  · exact hk.elim
theorem expL_ok (h : GamE A s a w env) : ∀ {l : List PC} {xs : List Value} {k : List PC → M}, RL (ctxOf A w env) l xs → (expL l k).ok none s F → ∃ l', RL (anyCtx w) l' xs ∧ (k l').ok none s F
  | [], _, k, hr, hk => by cases hr; exact ⟨[], .nil, hk⟩
  | c :: l, _, k, hr, hk => by
    cases hr with
    | cons h1 h2 =>
      obtain ⟨c', h3, hk2⟩ := expC_ok h h1 hk
      obtain ⟨l', h4, hk3⟩ := expL_ok h h2 hk2
      exact ⟨c' :: l', .cons h3 h4, hk3⟩
theorem expV_ok (h : GamE A s a w env) {v : PV} {val : Value} {k : PV → M} (hr : RV (ctxOf A w env) v val) (hk : (expV v k).ok none s F) : ∃ v', RV (anyCtx w) v' val ∧ (k v').ok none s F := by
  unfold expV at hk
  split at hk
  · obtain ⟨c', h1, h2⟩ := expC_ok h hr.inv hk
    exact ⟨_, .w (.one h1), h2⟩
  · cases hr with
    | w hr => cases hr with
      | agg hr =>
        obtain ⟨l', h1, h2⟩ := expL_ok h hr hk
        exact ⟨_, .w (.agg h1), h2⟩
  · exact hk.elim
theorem expVs_ok (h : GamE A s a w env) : ∀ {vs : List PV} {l : List Value} {k : List PV → M}, Vals (ctxOf A w env) vs l → (expVs vs k).ok none s F → ∃ vs', Vals (anyCtx w) vs' l ∧ (k vs').ok none s F
  | [], [], k, _, hk => ⟨[], trivial, hk⟩
  | [], _ :: _, _, h, _ => h.elim
  | _ :: _, [], _, h, _ => h.elim
  | v :: vs, x :: l, k, ⟨h1, h2⟩, hk => by
    obtain ⟨v', h3, hk2⟩ := expV_ok h h1 hk
    obtain ⟨vs', h4, hk3⟩ := expVs_ok h h2 hk2
    exact ⟨v' :: vs', ⟨h3, h4⟩, hk3⟩
def isColdV : PV → Bool
  | .w (.one c) => coldPC false c
  | .w (.agg l) => l.all (coldPC false)
  | _ => false
/-- A specification out of contracts: what is asked, what is returned. If the result lies in new memory (new), arguments may be rows that the caller owns. -/
def funSpec (new : Bool) (g : List PV → Option (Prop × PV)) : Spec := fun _ xs => match new with
  | true => expVs xs fun ys => (match g ys with
    | some (p, r) => .need p (.ret r)
    | none => .fail)
  | false => (match xs.all isColdV, g xs with
    | true, some (p, r) => .need p (.ret r)
    | _, _ => .fail)
theorem coldV_le {C : Ctx} {v : PV} {x : Value} (h : RV C v x) (hc : isColdV v = true) : RV C.cold v x := by
  unfold isColdV at hc
  split at hc
  · exact .w (.one (coldPC_le h.inv hc))
  · cases h with
    | w h => cases h with
      | agg h => exact .w (.agg (coldPL_le h hc))
  · cases hc
theorem coldVs_le {C : Ctx} : ∀ {vs : List PV} {l : List Value}, Vals C vs l → vs.all isColdV = true → Vals C.cold vs l
  | [], [], _, _ => trivial
  | [], _ :: _, h, _ => h.elim
  | _ :: _, [], h, _ => h.elim
  | v :: vs, x :: l, ⟨h1, h2⟩, hc => by
    rw [List.all_cons, Bool.and_eq_true] at hc
    exact ⟨coldV_le h1 hc.1, coldVs_le h2 hc.2⟩
theorem res_le (h : GamE A s a w env) {w' : World} (_ : Ext w w') {new : Bool} : ({ w := w', ok := fun b => (new = false ∧ (ctxOf A w env).ok b) ∨ w.heap.size ≤ b, env := fun _ => none } : Ctx).Le (ctxOf A w' env) :=
  ⟨Nat.le_refl _, fun b _ hb => ⟨(by
    rcases hb with ⟨_, hb⟩ | hb
    · exact hb
    · exact ⟨.inr (Nat.le_trans h.chg.size hb), fun x ver hd he hbl => by have := (h.live x ver hd b he hbl).1; omega⟩), rfl⟩, fun _ _ _ h => by cases h⟩
theorem funSpec_ok {f : Nat} {new : Bool} {g : List PV → Option (Prop × PV)} (hent : ∀ args w, (callFunc f args).run P w = .ok (.enter f args) w) (hg : ∀ xs p r, g xs = some (p, r) → p → FunOk P I f new xs r) : SpecOk P I f (funSpec new g) := by
  refine ⟨hent, fun A s a w env nm pvs vs F h hI hv hk => ?_⟩
  unfold funSpec at hk
  cases new with
  | true =>
    obtain ⟨ys, h1, hk⟩ := expVs_ok h hv hk
    cases hq : g ys with
    | none => rw [hq] at hk; exact hk.elim
    | some q =>
      obtain ⟨p, r⟩ := q
      rw [hq] at hk
      obtain ⟨hp, hF⟩ := hk
      refine (hg ys p r hq hp w (fun _ => True) vs hI h1).mono ?_
      rintro e w' ⟨val, rfl, hE, hr⟩
      refine ⟨r, [], val, env, rfl, hF, h.ext hE, hr.le ⟨Nat.le_refl _, fun b hb hok => ?_, fun _ _ _ h => by cases h⟩⟩
      exact (res_le (new := true) h hE).blk b hb (hok.elim (fun h => by cases h.1) (fun h => .inr h))
  | false =>
    dsimp only at hk
    cases hc : pvs.all isColdV <;> cases hq : g pvs <;> simp only [hc, hq] at hk <;> try exact hk.elim
    rename_i q
    obtain ⟨p, r⟩ := q
    obtain ⟨hp, hF⟩ := hk
    refine (hg pvs p r hq hp w (ctxOf A w env).ok vs hI (coldVs_le hv hc)).mono ?_
    rintro e w' ⟨val, rfl, hE, hr⟩
    exact ⟨r, [], val, env, rfl, hF, h.ext hE, hr.le (res_le (new := false) h hE)⟩
end

end Go.Proofs.YtcjlkjcadaaleaaDoor.Pv

/-
  SHA-256, HMAC and what is made of them, as plain functions of lists of bytes: no program in sight.
-/
namespace Go.Proofs.YtcjlkjcadaaleaaDoor

def rotrW (x : UInt32) (n : UInt32) : UInt32 := (x >>> n) ||| (x <<< (32 - n))
def shaK : List UInt32 := [
  0x428a2f98, 0x71374491, 0xb5c0fbcf, 0xe9b5dba5, 0x3956c25b, 0x59f111f1, 0x923f82a4, 0xab1c5ed5,
  0xd807aa98, 0x12835b01, 0x243185be, 0x550c7dc3, 0x72be5d74, 0x80deb1fe, 0x9bdc06a7, 0xc19bf174,
  0xe49b69c1, 0xefbe4786, 0x0fc19dc6, 0x240ca1cc, 0x2de92c6f, 0x4a7484aa, 0x5cb0a9dc, 0x76f988da,
  0x983e5152, 0xa831c66d, 0xb00327c8, 0xbf597fc7, 0xc6e00bf3, 0xd5a79147, 0x06ca6351, 0x14292967,
  0x27b70a85, 0x2e1b2138, 0x4d2c6dfc, 0x53380d13, 0x650a7354, 0x766a0abb, 0x81c2c92e, 0x92722c85,
  0xa2bfe8a1, 0xa81a664b, 0xc24b8b70, 0xc76c51a3, 0xd192e819, 0xd6990624, 0xf40e3585, 0x106aa070,
  0x19a4c116, 0x1e376c08, 0x2748774c, 0x34b0bcb5, 0x391c0cb3, 0x4ed8aa4a, 0x5b9cca4f, 0x682e6ff3,
  0x748f82ee, 0x78a5636f, 0x84c87814, 0x8cc70208, 0x90befffa, 0xa4506ceb, 0xbef9a3f7, 0xc67178f2]
def shaH0 : List UInt32 := [0x6a09e667, 0xbb67ae85, 0x3c6ef372, 0xa54ff53a, 0x510e527f, 0x9b05688c, 0x1f83d9ab, 0x5be0cd19]
/-- The big-endian number of four bytes. -/
def beWord (l : List UInt8) : UInt32 := l.foldl (fun n b => (n <<< 8) ||| b.toUInt32) 0
/-- The message schedule's word i, given the words before it. -/
def schedNext (w : List UInt32) : UInt32 :=
  let i := w.length
  let x := w.getD (i - 15) 0
  let y := w.getD (i - 2) 0
  w.getD (i - 16) 0 + ((rotrW x 7 ^^^ rotrW x 18) ^^^ (x >>> 3)) + w.getD (i - 7) 0 + ((rotrW y 17 ^^^ rotrW y 19) ^^^ (y >>> 10))
/-- The first i words of the message schedule. -/
def schedAt (b : List UInt8) : Nat → List UInt32
  | 0 => []
  | i + 1 => schedAt b i ++ [if i < 16 then beWord ((b.drop (4 * i)).take 4) else schedNext (schedAt b i)]
def sched (b : List UInt8) : List UInt32 := schedAt b 64
theorem schedAt_length (b : List UInt8) (i : Nat) : (schedAt b i).length = i := by induction i with
  | zero => rfl
  | succ i ih => simp [schedAt, ih]
/-- One round. -/
def shaRound (v : List UInt32) (k w : UInt32) : List UInt32 :=
  let a := v.getD 0 0; let b := v.getD 1 0; let c := v.getD 2 0; let d := v.getD 3 0
  let e := v.getD 4 0; let f := v.getD 5 0; let g := v.getD 6 0; let h := v.getD 7 0
  let t := h + ((rotrW e 6 ^^^ rotrW e 11) ^^^ rotrW e 25) + ((e &&& f) ^^^ (~~~e &&& g)) + k + w
  let u := ((rotrW a 2 ^^^ rotrW a 13) ^^^ rotrW a 22) + (((a &&& b) ^^^ (a &&& c)) ^^^ (b &&& c))
  [t + u, a, b, c, d + t, e, f, g]
/-- The state after k rounds. -/
def roundsAt (b : List UInt8) (v : List UInt32) : Nat → List UInt32
  | 0 => v
  | k + 1 => shaRound (roundsAt b v k) (shaK.getD k 0) ((sched b).getD k 0)
def shaRounds (b : List UInt8) (v : List UInt32) : List UInt32 := roundsAt b v 64
theorem roundsAt_length (b : List UInt8) (v : List UInt32) (h : v.length = 8) (k : Nat) : (roundsAt b v k).length = 8 := by cases k with
  | zero => exact h
  | succ k => rfl
def shaBlock (v : List UInt32) (b : List UInt8) : List UInt32 := List.zipWith (· + ·) (shaRounds b v) v
def beBytes (n : Nat) : Nat → List UInt8
  | 0 => []
  | k + 1 => UInt8.ofNat (n / 256 ^ k) :: beBytes n k
def shaPad (m : List UInt8) : List UInt8 := m ++ [128] ++ List.replicate ((119 - m.length % 64) % 64) 0 ++ beBytes (8 * m.length) 8
def shaBlocks : Nat → List UInt32 → List UInt8 → List UInt32
  | 0, v, _ => v
  | n + 1, v, m => shaBlocks n (shaBlock v (m.take 64)) (m.drop 64)
def sha (m : List UInt8) : List UInt8 := (shaBlocks ((shaPad m).length / 64) shaH0 (shaPad m)).flatMap fun w => beBytes w.toNat 4
def hmac (key m : List UInt8) : List UInt8 :=
  let k := if key.length > 64 then sha key else key
  let pad := fun (x : UInt8) => (List.range 64).map fun i => k.getD i 0 ^^^ x
  sha (pad 0x5c ++ sha (pad 0x36 ++ m))
def mac (key m : List UInt8) : List UInt8 := (hmac key m).take 16

theorem sha_nil : (sha []).take 4 = [0xe3, 0xb0, 0xc4, 0x42] := by decide +kernel
theorem sha_abc : (sha [97, 98, 99]).take 4 = [0xba, 0x78, 0x16, 0xbf] := by decide +kernel

end Go.Proofs.YtcjlkjcadaaleaaDoor

/-
  The model's arithmetic on uint32 and bytes, as Lean's UInt32 and UInt8 have it.
-/
namespace Go.Proofs.YtcjlkjcadaaleaaDoor
open Go.RowKit

theorem lt32 (a : UInt32) : 0 ≤ (a.toNat : Int) ∧ (a.toNat : Int) < 4294967296 := by have := a.toNat_lt; omega
theorem lt8 (a : UInt8) : 0 ≤ (a.toNat : Int) ∧ (a.toNat : Int) < 256 := by have := a.toNat_lt; omega
theorem or32 (a b : UInt32) : bits BinOp.or IntKind.u32 (a.toNat : Int) (b.toNat : Int) = ((a ||| b).toNat : Int) := by
  rw [u32_or _ _ (lt32 a).1 (lt32 a).2 (lt32 b).1 (lt32 b).2]; simp
theorem and32 (a b : UInt32) : bits BinOp.and IntKind.u32 (a.toNat : Int) (b.toNat : Int) = ((a &&& b).toNat : Int) := by
  rw [u32_and _ _ (lt32 a).1 (lt32 a).2 (lt32 b).1 (lt32 b).2]; simp
theorem xor32 (a b : UInt32) : bits BinOp.xor IntKind.u32 (a.toNat : Int) (b.toNat : Int) = ((a ^^^ b).toNat : Int) := by
  rw [u32_xor _ _ (lt32 a).1 (lt32 a).2 (lt32 b).1 (lt32 b).2]; simp
theorem add32 (a b : UInt32) : ((a.toNat : Int) + (b.toNat : Int)) % 4294967296 = ((a + b).toNat : Int) := by
  rw [UInt32.toNat_add]; omega
theorem xor8 (a b : UInt8) : bits BinOp.xor IntKind.u8 (a.toNat : Int) (b.toNat : Int) = ((a ^^^ b).toNat : Int) := by
  rw [u8_xor _ _ (lt8 a).1 (lt8 a).2 (lt8 b).1 (lt8 b).2]; simp
theorem shr32 (a : UInt32) (n : Nat) (hn : n < 32) : (a.toNat : Int) / 2 ^ n = ((a >>> UInt32.ofNat n).toNat : Int) := by
  rw [UInt32.toNat_shiftRight, Nat.shiftRight_eq_div_pow]
  have : (UInt32.ofNat n).toNat % 32 = n := by simp; omega
  rw [this]
  simp
theorem shl32 (a : UInt32) (n : Nat) (hn : n < 32) : (a.toNat : Int) * 2 ^ n % 4294967296 = ((a <<< UInt32.ofNat n).toNat : Int) := by
  rw [UInt32.toNat_shiftLeft, Nat.shiftLeft_eq]
  have : (UInt32.ofNat n).toNat % 32 = n := by simp; omega
  rw [this]
  simp

theorem addW (a b : UInt32) : IntKind.u32.wrap ((a.toNat : Int) + (b.toNat : Int)) = ((a + b).toNat : Int) := by rw [IntKind.wrap_u32]; exact add32 a b
theorem not32 (a : UInt32) : bits BinOp.xor IntKind.u32 IntKind.u32.max (a.toNat : Int) = ((~~~a).toNat : Int) := by
  rw [show IntKind.u32.max = (((-1 : UInt32)).toNat : Int) from rfl, xor32, UInt32.neg_one_xor]

end Go.Proofs.YtcjlkjcadaaleaaDoor

/-
  Words: rotations.
-/
namespace Go.Proofs.YtcjlkjcadaaleaaDoor
open Go.RowKit

def w32 (x : UInt32) : Value := .int .u32 (x.toNat : Int)

theorem neg_and31 (n : Nat) (hn : 0 < n) (hn2 : n < 32) : bits BinOp.and IntKind.u64 (IntKind.u64.wrap (-(n : Int))) 31 = ((32 - n : Nat) : Int) := by
  have h : IntKind.u64.wrap (-(n : Int)) = ((18446744073709551616 - n : Nat) : Int) := by
    rw [IntKind.wrap_u64]; omega
  rw [h, u64_and _ _ (by omega) (by omega) (by omega) (by omega)]
  rw [Int.toNat_natCast, show (31 : Int).toNat = 2 ^ 5 - 1 from rfl, Nat.and_two_pow_sub_one_eq_mod]
  omega
theorem rot_eq (x : UInt32) (n : Nat) (hn : 0 < n) (hn2 : n < 32) : bits BinOp.or IntKind.u32 ((x.toNat : Int) * 2 ^ (32 - n) % 4294967296) ((x.toNat : Int) / 2 ^ n) = ((rotrW x (UInt32.ofNat n)).toNat : Int) := by
  rw [shl32 x (32 - n) (by omega), shr32 x n hn2, or32]
  unfold rotrW
  have e : UInt32.ofNat (32 - n) = 32 - UInt32.ofNat n := by
    apply UInt32.toNat_inj.1
    rw [UInt32.toNat_sub]
    simp
    omega
  rw [e, UInt32.or_comm]

theorem rotl_any (x : UInt32) (n : Nat) (w : World) (hn : 0 < n) (hn2 : n < 32) :
    Calls Tryd.prog 121 #[.int .u32 (x.toNat : Int), .int .i64 (-(n : Int))] w fun e w' => e = .returned (.int .u32 ((rotrW x (UInt32.ofNat n)).toNat : Int)) ∧ w = w' := by
  have h0 := hide (rot_eq x n hn hn2)
  have hx := x.toNat_lt
  have h1 := neg_and31 n hn hn2
  have h2 : IntKind.u64.wrap (32 - ((32 - n : Nat) : Int)) = (n : Int) := by
    rw [show (32 : Int) - ((32 - n : Nat) : Int) = (n : Int) by omega]
    exact IntWalk.u64_in _ (by omega)
  go_enter Tryd.func121, Tryd.ntmps121
  go_wp2
  go_ret
  exact ⟨ret_int (unhide h0), rfl⟩

/-- sha.rotr: several rotations, combined. -/
def rotXor (x : UInt32) (ns : List Nat) : UInt32 := ns.foldl (fun o n => o ^^^ rotrW x (UInt32.ofNat n)) 0
theorem take_step {α : Type} (l : List α) (k : Nat) (h : k < l.length) : l.take (k + 1) = l.take k ++ [l[k]] := by rw [List.take_add_one, List.getElem?_eq_getElem h]; rfl
theorem rotXor_step (x : UInt32) (ns : List Nat) (k : Nat) (h : k < ns.length) : rotXor x (ns.take (k + 1)) = rotXor x (ns.take k) ^^^ rotrW x (UInt32.ofNat ns[k]) := by
  rw [take_step ns k h]; unfold rotXor; rw [List.foldl_append]; rfl

set_option maxHeartbeats 400000 in
theorem rotr_any (x : UInt32) (ns : List Nat) (v : Value) (w : World) (h : Reads w 1 v ns.length (ns.map fun n : Nat => Value.int .i64 (n : Int))) (hn : ∀ n ∈ ns, 0 < n ∧ n < 32) :
    Calls Tryd.prog 114 #[.int .u32 (x.toNat : Int), v] w fun e w' => e = .returned (.int .u32 ((rotXor x ns).toNat : Int)) ∧ w = w' := by
  have HH := hide h
  have hm := h.len_le
  unfold maxLen at hm
  obtain ⟨_, B, c, rfl, _, _, _⟩ := h
  go_enter Tryd.func114, Tryd.ntmps114
  go_wp2
  go_loop [5, 10] (fun o i => ∃ k : Nat, k ≤ ns.length ∧ i = .int .i64 k ∧ o = .int .u32 ((rotXor x (ns.take k)).toNat : Int)) (fun _ i => ns.length - (intOf i).toNat)
  case atStart => exact ⟨0, Nat.zero_le _, rfl, rfl⟩
  case round =>
    obtain ⟨k, hk, rfl, rfl⟩ := hrel
    by_cases hlt : k < ns.length
    · obtain ⟨b, o, c', u, hv, _, _, hb, hu, hc1⟩ := (unhide HH).at1 hlt
      cases hv
      rw [List.getElem?_map, List.getElem?_eq_getElem hlt] at hu
      cases hu
      obtain ⟨n1, n2⟩ := hn _ (List.getElem_mem hlt)
      have HS := hide (rotXor_step x ns k hlt)
      have HX := hide (xor32 (rotXor x (ns.take k)) (rotrW x (UInt32.ofNat ns[k])))
      dsimp only at hc1
      have HR := hide (fun w => rotl_any x ns[k] w n1 n2)
      generalize ns[k] = n at *
      generalize rotXor x (ns.take k) = acc at *
      have e1 : IntKind.i64.wrap (-(n : Int)) = -(n : Int) := IntWalk.i64_in _ (by omega)
      go_wp2_with fail
      refine (unhide HR _).mono ?_
      rintro e w' ⟨rfl, rfl⟩
      go_wp2
      go_round
      case rel => exact ⟨k + 1, by omega, by go_num, int_eq (by rw [unhide HS]; exact unhide HX)⟩
      case measure => simp [intOf]; omega
    · obtain rfl : k = ns.length := by omega
      have HT := hide (show rotXor x (ns.take ns.length) = rotXor x ns by rw [List.take_length])
      go_wp2
      go_ret
      exact ⟨ret_int (by first | rfl | rw [unhide HT]), rfl⟩

end Go.Proofs.YtcjlkjcadaaleaaDoor

/-
  A slice of the call's own that is appended to again and again: what else may have changed.
-/
namespace Go.Proofs.YtcjlkjcadaaleaaDoor
open Go.RowKit

/-- From (w, v) to (w', v'): of the blocks that were there only v's own has changed; v' lies there or in a new block. -/
structure Onto (w : World) (v : Value) (w' : World) (v' : Value) : Prop where
  chg : Chg (fun k => v.ownBlock = some k) w w'
  own : v'.ownBlock = v.ownBlock ∨ ∃ g, v'.ownBlock = some g ∧ w.heap.size ≤ g
theorem Onto.refl (w : World) (v : Value) : Onto w v w v := ⟨Chg.refl _ _, .inl rfl⟩
theorem Onto.trans {a b c : World} {u v x : Value} (h : Onto a u b v) (k : Onto b v c x) : Onto a u c x := by
  refine ⟨h.chg.trans' k.chg (fun _ _ h => h) (fun i hi e => ?_), ?_⟩
  · rcases h.own with h1 | ⟨g, h1, h2⟩
    · rw [← h1]; exact e
    · rw [h1] at e; cases e; omega
  · rcases k.own with h1 | ⟨g, h1, h2⟩
    · rw [h1]; exact h.own
    · exact .inr ⟨g, h1, Nat.le_trans h.chg.size h2⟩
theorem Onto.ext {a b c : World} {u v : Value} (h : Onto a u b v) (k : Ext b c) : Onto a u c v := ⟨h.chg.ext k, h.own⟩
theorem Onto.of_ext {a b : World} {v : Value} (k : Ext a b) : Onto a v b v := ⟨k.chg, .inl rfl⟩
theorem Onto.app {w w' : World} {v v' : Value} (hc : Chg (fun k => v.ownBlock = some k) w w') (hv : v'.ownBlock = v.ownBlock ∨ ∃ g, v'.ownBlock = some g ∧ w.heap.size ≤ g ∧ g < w'.heap.size) : Onto w v w' v' :=
  ⟨hc, hv.imp id fun ⟨g, h1, h2, _⟩ => ⟨g, h1, h2⟩⟩
/-- A row whose block is new is no one else's. -/
theorem Onto.to_ext {w w' : World} {v' : Value} {n c : Nat} (h : Onto w (.slice none n c) w' v') : Ext w w' := h.chg.mono (fun k _ e => by simp [Value.ownBlock] at e)
theorem Onto.new_ext {w0 w w' : World} {v v' : Value} (h0 : Ext w0 w) (h : Onto w v w' v') (hv : ∀ g, v.ownBlock = some g → w0.heap.size ≤ g) : Ext w0 w' :=
  h0.trans' h.chg (fun _ _ h => h) (fun i hi e => by have := hv i e; omega)

end Go.Proofs.YtcjlkjcadaaleaaDoor

/-
  sha.load, sha.store.
-/
namespace Go.Proofs.YtcjlkjcadaaleaaDoor
open Go.RowKit

def u8v (b : UInt8) : Value := .int .u8 (b.toNat : Int)
theorem beWord_step (l : List UInt8) (k : Nat) (h : k < l.length) : beWord (l.take (k + 1)) = (beWord (l.take k) <<< 8) ||| l[k].toUInt32 := by
  rw [take_step l k h]; unfold beWord; rw [List.foldl_append]; rfl
theorem conv32 (b : UInt8) : (b.toNat : Int) = (b.toUInt32.toNat : Int) := by simp

set_option maxHeartbeats 400000 in
theorem load_any (l : List UInt8) (v : Value) (w : World) (h : Reads w 1 v l.length (l.map u8v)) :
    Calls Tryd.prog 113 #[v] w fun e w' => e = .returned (.int .u32 ((beWord l).toNat : Int)) ∧ w = w' := by
  have HH := hide h
  have hm := h.len_le
  unfold maxLen at hm
  obtain ⟨_, B, c, rfl, _, _, _⟩ := h
  go_enter Tryd.func113, Tryd.ntmps113
  go_wp2
  go_loop [3, 8] (fun o i => ∃ k : Nat, k ≤ l.length ∧ i = .int .i64 k ∧ o = .int .u32 ((beWord (l.take k)).toNat : Int)) (fun _ i => l.length - (intOf i).toNat)
  case atStart => exact ⟨0, Nat.zero_le _, rfl, rfl⟩
  case round =>
    obtain ⟨k, hk, rfl, rfl⟩ := hrel
    by_cases hlt : k < l.length
    · obtain ⟨b, o, c', u, hv, _, _, hb, hu, hc1⟩ := (unhide HH).at1 hlt
      cases hv
      rw [List.getElem?_map, List.getElem?_eq_getElem hlt] at hu
      cases hu
      unfold u8v at hc1
      have HS := hide (beWord_step l k hlt)
      generalize l[k] = z at *
      generalize beWord (l.take k) = acc at *
      have hz := z.toNat_lt
      have ha := acc.toNat_lt
      have HX := hide (show bits BinOp.or IntKind.u32 ((acc.toNat : Int) * 2 ^ 8 % 4294967296) (z.toNat : Int) = ((acc <<< 8 ||| z.toUInt32).toNat : Int) from by rw [shl32 acc 8 (by omega), conv32, or32]; rfl)
      go_wp2

      go_round
      case rel => exact ⟨k + 1, by omega, by go_num, int_eq (by rw [unhide HS]; exact unhide HX)⟩
      case measure => simp [intOf]; omega
    · obtain rfl : k = l.length := by omega
      have HT := hide (show beWord (l.take l.length) = beWord l by rw [List.take_length])
      go_wp2
      go_ret
      exact ⟨ret_int (by first | rfl | rw [unhide HT]), rfl⟩

theorem u8_row : SlTy Tryd.prog 29 5 1 1 := SlTy.mk' (z := .int .u8 0) (by kernel_rfl) (by kernel_rfl) rfl (by omega) (by omega)
/-- The k bytes below 256 ^ k of n, the highest first; what is left of them. -/
theorem beBytes_length (n k : Nat) : (beBytes n k).length = k := by induction k with
  | zero => rfl
  | succ k ih => unfold beBytes; simp [ih]

theorem beBytes_get (n : Nat) : ∀ (many j : Nat), j < many → (beBytes n many)[j]? = some (UInt8.ofNat (n / 256 ^ (many - 1 - j)))
  | 0, j, h => by omega
  | many + 1, 0, h => by simp [beBytes]
  | many + 1, j + 1, h => by
    rw [beBytes, List.getElem?_cons_succ, beBytes_get n many j (by omega), show many + 1 - 1 - (j + 1) = many - 1 - j from by omega]
theorem beBytes_step (n many k : Nat) (h0 : 0 < k) (hk : k ≤ many) : (beBytes n many).take (many - (k - 1)) = (beBytes n many).take (many - k) ++ [UInt8.ofNat (n / 256 ^ (k - 1))] := by
  rw [show many - (k - 1) = many - k + 1 from by omega, List.take_add_one, beBytes_get n many (many - k) (by omega), show many - 1 - (many - k) = k - 1 from by omega]
  rfl
theorem byte_of (n k : Nat) : (n : Int) / 2 ^ (8 * k) % 256 = ((UInt8.ofNat (n / 256 ^ k)).toNat : Int) := by
  rw [show (2 : Int) ^ (8 * k) = ((256 ^ k : Nat) : Int) from by rw [Int.pow_mul]; simp]
  simp

set_option maxHeartbeats 1000000 in
theorem store_any (v : Value) (m : Nat) (xs : List Value) (n : Nat) (many : Nat) (B : Nat) (w : World) (h : w.ownsRow B 5 1 v m xs) (hB : B ≤ w.heap.size) (hm : m ≤ 1000000000) (h8 : many ≤ 8) :
    Calls Tryd.prog 101 #[v, .int .u64 (n : Int), .int .i64 (many : Int)] w fun e w' => ∃ v', e = .returned v' ∧ w'.ownsRow B 5 1 v' (m + many) (xs ++ (beBytes n many).map u8v) ∧ Onto w v w' v' := by
  have H0 := hide h
  clear h
  go_enter Tryd.func101, Tryd.ntmps101
  go_wp2
  go_loopw [0, 7] (fun b i wr => ∃ (k : Nat), k ≤ many ∧ i = .int .i64 ((k : Int) - 1) ∧ Hid (wr.ownsRow B 5 1 b (m + (many - k)) (xs ++ ((beBytes n many).take (many - k)).map u8v) ∧ Onto w v wr b)) (fun _ i _ => (intOf i + 1).toNat)
  case atStart => exact ⟨many, Nat.le_refl _, rfl, hide ⟨by rw [Nat.sub_self]; simpa using unhide H0, Onto.refl _ _⟩⟩
  case round =>
    obtain ⟨k, hk, rfl, HR⟩ := hrel
    by_cases hk0 : 0 < k
    · have e0 : (0 : Int) ≤ (k : Int) - 1 := by omega
      have e1 : IntKind.i64.wrap (8 * ((k : Int) - 1)) = ((8 * (k - 1) : Nat) : Int) := by rw [IntWalk.i64_in _ (by omega)]; omega
      have hb := byte_of n (k - 1)
      have HX := hide (beBytes_step n many k hk0 hk)
      generalize UInt8.ofNat (n / 256 ^ (k - 1)) = z at *
      have hsz : Hid (B ≤ wr.heap.size) := hide (Nat.le_trans hB (unhide HR).2.chg.size)
      go_wp2_with (at_builtin; refine wpList_app rfl rfl u8_row rfl (ownsRow_ext (unhide HR).1 ((Ext.refl _).alloc _)) rfl (Reads.new1 _ _ _) (AllOne.one rfl) (by omega) (Nat.le_trans (unhide hsz) (by simp)) ?_; intro A' c' w2 ho hc hv)
      have HQ := hide (And.intro ho (((unhide HR).2.ext ((Ext.refl wr).alloc _)).trans (Onto.app hc hv)))
      clear ho hc hv
      go_wp2
      go_roundw
      case rel => exact ⟨k - 1, by omega, by go_num, hide ⟨by rw [unhide HX, List.map_append, ← List.append_assoc, show m + (many - (k - 1)) = m + (many - k) + 1 from by omega]; exact (unhide HQ).1, (unhide HQ).2⟩⟩
      case measure => simp [intOf]; omega
    · obtain rfl : k = 0 := by omega
      go_wp2
      go_ret
      have h1 := (unhide HR).1
      rw [Nat.sub_zero, List.take_of_length_le (by rw [beBytes_length]; exact Nat.le_refl _)] at h1
      exact ⟨_, rfl, h1, (unhide HR).2⟩

theorem store_lit (v : Value) (m : Nat) (xs : List Value) (n : Nat) (many : Nat) (B : Nat) (w : World) (nI mI : Int) (e1 : nI = (n : Int)) (e2 : mI = (many : Int)) (h : w.ownsRow B 5 1 v m xs) (hB : B ≤ w.heap.size) (hm : m ≤ 1000000000) (_ : n < 18446744073709551616) (h8 : many ≤ 8) :
    Calls Tryd.prog 101 #[v, .int .u64 nI, .int .i64 mI] w fun e w' => ∃ A c, e = .returned (.slice A (m + many) c) ∧ w'.ownsRow B 5 1 (.slice A (m + many) c) (m + many) (xs ++ (beBytes n many).map u8v) ∧ Onto w v w' (.slice A (m + many) c) := by
  subst e1 e2
  refine (store_any v m xs n many B w h hB hm h8).mono ?_
  rintro e w' ⟨v', rfl, h1, h2⟩
  obtain ⟨A, c, rfl⟩ := own_slice h1
  exact ⟨A, c, rfl, h1, h2⟩

end Go.Proofs.YtcjlkjcadaaleaaDoor

/-
  slices.Clone of bytes.
-/
namespace Go.Proofs.YtcjlkjcadaaleaaDoor
open Go.RowKit

theorem AllOne.u8 (l : List UInt8) : AllOne (l.map u8v) := AllOne.map (fun _ => rfl) l

set_option maxHeartbeats 400000 in
theorem clone_any (v : Value) (l : List UInt8) (w : World) (h : Reads w 1 v l.length (l.map u8v)) (hn : l.length ≤ 1000000000) :
    Calls Tryd.prog 100 #[v] w fun e w' => ∃ v', e = .returned v' ∧ w'.ownsRow w.heap.size 5 1 v' l.length (l.map u8v) ∧ Ext w w' := by
  have HH := hide h
  obtain ⟨hl, A, c, rfl, _, _, hp⟩ := h
  rcases A with _ | a
  · have h0 : l = [] := by
      cases l with
      | nil => rfl
      | cons x l =>
        obtain ⟨b, o, e, _⟩ := hp (by simp)
        cases e
    subst h0
    clear hl hp
    simp only [List.length_nil]
    have hnil := fun w => Lib.run_eql_slice_nil (P := Tryd.prog) w 29 5 none 0 c 0 0 Tryd.underlying29
    go_enter Tryd.func100, Tryd.ntmps100
    go_wp2
    go_ret
    exact ⟨_, rfl, World.ownsRow_nil _ _ _ _, Ext.refl _⟩
  · clear hl hp
    have hnil := fun w => Lib.run_eql_slice_nil (P := Tryd.prog) w 29 5 (some a) l.length c 0 0 Tryd.underlying29
    go_enter Tryd.func100, Tryd.ntmps100
    go_wp2_with (at_builtin; refine wpList_app rfl rfl u8_row rfl (own_empty _ w.heap.size _ _ (Nat.le_refl _)) rfl ((unhide HH).ext ((Ext.refl w).alloc _)) (AllOne.u8 l) (by omega) (by simp) ?_; intro A' c' w2 ho hc hv)
    have HQ := hide (And.intro ho (And.intro hc hv))
    clear ho hc hv
    go_wp2
    go_ret
    obtain ⟨ho, hc, hv⟩ := unhide HQ
    refine ⟨_, rfl, by simpa using ho, ?_⟩
    exact ((Ext.refl w).alloc (.cells #[] 5)).trans' hc (fun _ _ h => h) (fun i hi e => by cases e; exact absurd hi (Nat.lt_irrefl _))

end Go.Proofs.YtcjlkjcadaaleaaDoor

/-
  A range over a function, as one law of the plain walk: the loop's body may change the blocks S, which were there before the loop, and make new ones.
-/
namespace Go.Proofs.YtcjlkjcadaaleaaDoor
open Go.RowKit

/-- '[n]T(s)'. -/
theorem run_arrayAt {P : Program} {T e : TypeId} {n : Nat} (hu : P.underlying T = some (.array n e)) {ad : Option Addr} {len c : Nat} (hl : n ≤ len) (w : World) : (Instr.arrayAt T (.slice ad len c)).run P w = .ok (.pointer ad) w := by
  have h : ¬ len < n := by omega
  simp [Instr.arrayAt, run_underlying hu, h]
/-- The cells of all blocks but those of S stay. -/
def KeepC (S : Nat → Prop) (w w' : World) : Prop := ∀ p v, ¬ S p.block → w.cell? p = some v → w'.cell? p = some v
theorem KeepC.trans {S : Nat → Prop} {a b c : World} (h : KeepC S a b) (k : KeepC S b c) : KeepC S a c := fun p v hn hc => k p v hn (h p v hn hc)
theorem KeepC.of_chg {S : Nat → Prop} {a b : World} (h : Chg S a b) : KeepC S a b := fun _ _ hn hc => Chg.cellv h hc hn
/-- The blocks that hold cells stay. -/
def KeepB (w w' : World) : Prop := ∀ (k : Nat) (o : Obj), w.heap[k]? = some o → o.isCells = true → w'.heap[k]? = some o
theorem cells_of_cell {w : World} {p : Addr} {v : Value} (h : w.cell? p = some v) : ∃ o, w.heap[p.block]? = some o ∧ o.isCells = true := by
  have hl := lt_of_cell h
  refine ⟨_, Array.getElem?_eq_getElem hl, ?_⟩
  unfold World.cell? at h
  rw [Array.getElem?_eq_getElem hl] at h
  cases ho : w.heap[p.block] <;> simp_all [Obj.isCells]
theorem KeepC.putObj {S : Nat → Prop} (W : World) (l : Nat) {o : Obj} (o' : Obj) (h : W.heap[l]? = some o) (ho : o.isCells = false) : KeepC S W (W.putObj l o') := fun p v _ hc => by
  obtain ⟨q, hq, hqc⟩ := cells_of_cell hc
  have hne : p.block ≠ l := fun e => by
    rw [e, h] at hq
    cases hq
    rw [ho] at hqc
    cases hqc
  rw [World.cell?_of_block (w := W) (World.putObj_heap_other hne)]
  exact hc

theorem KeepB.cell {w w' : World} (h : KeepB w w') {p : Addr} {v : Value} (hc : w.cell? p = some v) : w'.cell? p = some v := by
  obtain ⟨o, ho, hoc⟩ := cells_of_cell hc
  rw [World.cell?_of_block (w := w) ((h _ _ ho hoc).trans ho.symm)]
  exact hc
theorem KeepB.blk {w w' : World} (h : KeepB w w') {g : Nat} {t : TypeId} {cs : Array Value} (hb : Blk w g t cs) : Blk w' g t cs := h _ _ hb rfl

theorem call_enters {P : Program} {f : FuncId} {fn : Func} {c : Code} (hf : P.funcs[f]? = some fn) (hname : (fn.name == "runtime.NumGoroutine") = false) (hb : fn.body = some c) (args : Array Value) (w : World) : (callFunc f args).run P w = .ok (.enter f args) w := by
  have h1 : fn.name ≠ "runtime.NumGoroutine" := by simpa using hname
  simp [callFunc, hf, h1, hb, mark]

theorem wp_range {α : Type} {P : Program} {g : Operand} {ps : Array Tmp} {assign body : Code} {Q : Exit → Act → World → Prop} {a : Act} {w : World}
    {gf : Nat} {lb : Array Value} (hg : a.eval g = .func (.func gf) #[] lb) (eg : ∀ args w, (callFunc gf args).run P w = .ok (.enter gf args) w)
    {encs : α → Array Value} {S : Nat → Prop} {all : List α} {N : Nat} (hS : ∀ k, S k → k < w.heap.size)
    (hseq : SeqStopsK Fence.wide 2 P gf lb encs (KeepC S) (fun ys => ys = all) (fun _ => True) N w) (hps : ∀ x, (encs x).size = ps.size)
    (J : List α → World → Prop) (hJ : ∀ pre W W', J pre W → KeepB W W' → J pre W') (h0 : J [] w) (a₁ : α → Act)
    (hassign : ∀ (l : Nat) (x : α) (W : World) (K : Act → World → Prop), K (a₁ x) W →
      assign.wpIn (Fence.wide.inRound l) 1 P (Exit.then K (fun _ _ _ => False)) { tmps := (ps.zip (encs x)).foldl (fun t (p, v) => t.setIfInBounds p v) a.tmps, defers := [] } W)
    (hbody : ∀ (l : Nat) (pre : List α) (x : α) (W : World), Chg S w W → J pre W → pre.length < N →
      body.wpIn (Fence.wide.inRound l) 1 P (Exit.then (fun _ W' => Chg S W W' ∧ J (pre ++ [x]) W') (fun _ _ _ => False)) (a₁ x) W)
    (hdone : ∀ (D : Nat) (W : World), w.heap.size ≤ D → Chg S w W → J all W → W.heap[D]? = some (.deferred (some [])) → Q .normal { a with defers := { target := .collected D, args := #[] } :: a.defers } W) :
    (Code.rangeFunc g ps assign body).wp P Q a w := by
  refine (wpIn_wide (n := 3)).1 ?_
  refine wpIn_rangeFunc_ownG (n := 3) (N := N) (w0 := w) rfl (by omega) hg trivial eg hseq (fun h k => h.trans k) (fun W l o o' _ h ho _ => KeepC.putObj W l o' h ho) (Below.refl _ _) hps
    (fun pre W => Chg S w W ∧ J pre W) (fun _ _ _ => False) ?hI (fun _ _ _ _ _ h _ _ => h) ⟨Chg.refl _ _, h0⟩ a₁ hassign ?hbody ?hdone (fun _ _ _ _ _ _ h _ => h.elim)
  case hI =>
    rintro pre W W' row ⟨hc, hj⟩ hgr hrow
    refine ⟨hc.grown hgr fun k e => .inr (hrow k e).1, hJ _ _ _ hj (show KeepB W W' from fun k o hk ho => ?_)⟩
    rw [hgr.block k (lt_of_heap hk) (fun e => ?_)]
    · exact hk
    · obtain ⟨_, q, hq, hqc⟩ := hrow k e.symm
      rw [hk] at hq
      cases hq
      rw [ho] at hqc
      cases hqc
  case hbody =>
    rintro l pre x W ⟨hc, hj⟩ hl
    refine wpIn_mono (hbody l pre x W hc hj hl) ?_
    rintro e b W' h
    cases e with
    | normal =>
      obtain ⟨h1, h2⟩ := h
      refine ⟨⟨h1.size, fun k o hk ho _ => h1.blk ho (fun hs => ?_)⟩, KeepC.of_chg h1, hc.trans h1, h2⟩
      have := hS k hs
      omega
    | _ => exact h.elim
  case hdone =>
    rintro D xs W hD rfl ⟨hc, hj⟩ hd
    exact hdone D W hD hc hj hd

section
variable {P : Program} {F : Fence} {n0 : Nat}
theorem wpListIn_loadB {ops : Array Oper} {rest : List Oper} {o : Oper} {a : Act} {w : World} {Q : Exit → Act → World → Prop} (hgd : o.guard = none) {ty : TypeId} {x : Operand} (ho : o.op = .load ty x) {n : Nat} (W : Wide P ty n)
    {g : Nat} (hx : a.eval x = .pointer (some ⟨g, 0, none⟩)) {t : TypeId} {cs : Array Value} (hB : Blk w g t cs) (hn : cs.size = n) (h : wpListIn F n0 P ops Q rest (a.put o.dst (.agg cs)) w) : wpListIn F n0 P ops Q (o :: rest) a w :=
  wpListIn_plain hgd fun _ hK => by
    obtain ⟨d, hu, hd⟩ := W.und
    unfold Oper.wpIn
    refine ⟨by simp [Oper.about, ho], ?_⟩
    rw [Oper.semAt_plain F _ _ (by rw [ho]; intro c h; cases h)]
    unfold execOp
    have hr := run_loadVar_mid (P := P) w g 0 ty cs.toList d hB.range hu hd (by rw [Array.length_toList, hn]; exact W.info)
    rw [Array.toArray_toList] at hr
    simp only [ho, hx, Instr.loadAt, Instr.sureAddr, Sem.run_bind, Sem.run_pure, Result.andThen_ok, hr]
    exact hK _ _ h
theorem wpListIn_storeB {ops : Array Oper} {rest : List Oper} {o : Oper} {a : Act} {w : World} {Q : Exit → Act → World → Prop} (hgd : o.guard = none) {ty : TypeId} {x y : Operand} (ho : o.op = .store ty x y) {n : Nat} (W : Wide P ty n)
    {g : Nat} (hx : a.eval x = .pointer (some ⟨g, 0, none⟩)) {cs : Array Value} (hy : a.eval y = .agg cs) {t : TypeId} {old : Array Value} (hB : Blk w g t old) (ho2 : old.size = n) (hn : cs.size = n) (h1 : cs.all (·.oneCell') = true)
    (h : ∀ w', Blk w' g t cs → Chg (fun k => k = g) w w' → w'.heap.size = w.heap.size → wpListIn F n0 P ops Q rest (a.put o.dst undef) w') : wpListIn F n0 P ops Q (o :: rest) a w :=
  wpListIn_plain hgd fun _ hK => by
    unfold Oper.wpIn
    refine ⟨by simp [Oper.about, ho], ?_⟩
    rw [Oper.semAt_plain F _ _ (by rw [ho]; intro c h; cases h)]
    unfold execOp
    have hr := run_storeAt_mid (P := P) w g 0 ty cs (by rw [show cs.size = old.size from by omega]; exact hB.there_) (by rw [hn]; exact W.info) h1
    simp only [ho, hx, hy, Sem.run_bind, Sem.run_pure, hr, Result.andThen_ok]
    exact hK _ _ (h _ (store_blk hB (by omega)) (setCells_chg g cs.toList 0 w).1 (setCells_chg g cs.toList 0 w).2)
end

/-- A function that ran one such loop returns. -/
theorem leave_mark {P : Program} {fn : Func} {R : Ending → World → Prop} {n : Nat} {a : Act} {W : World} {D : Nat} {v : Value} (hd : a.defers = [{ target := .collected D, args := #[] }]) (hD : W.heap[D]? = some (.deferred (some [])))
    (hr : (results fn a.tmps).run P (W.putObj D (.deferred none)) = .ok v (W.putObj D (.deferred none))) (h : R (.returned v) (W.putObj D (.deferred none))) : bodyPostM Fence.wide n P fn R .ret a W := by
  show LeavesInM Fence.wide n P fn a.tmps R a.defers .returning W
  rw [hd]
  refine ⟨by simp, .inl ⟨_, _, rfl, run_takeDeferred hD, ?_⟩⟩
  exact ⟨_, hr, h⟩
theorem putObj_ext {w W : World} {D : Nat} (o : Obj) (h : Ext w W) (hD : w.heap.size ≤ D) : Ext w (W.putObj D o) :=
  h.grown (grownBy_putObj' W D o) (fun k e => by cases e; exact hD)

end Go.Proofs.YtcjlkjcadaaleaaDoor

/-
  slices.Chunk of bytes, in pieces of 64.
-/
namespace Go.Proofs.YtcjlkjcadaaleaaDoor
open Go.RowKit
attribute [local go_sem] Oper.semAt_some

theorem chunk_any (A : Option Addr) (n c : Nat) (w : World) :
    Calls Tryd.prog 103 #[.slice A n c, .int .i64 64] w fun e w' => e = .returned (.func (.func 115) #[] #[.pointer (some ⟨w.heap.size, 0, none⟩), .pointer (some ⟨w.heap.size + 1, 0, none⟩)]) ∧
      (w.alloc (.cells #[.slice A n c] 29)).alloc (.cells #[.int .i64 64] 3) = w' := by
  go_enter Tryd.func103, Tryd.ntmps103
  go_wp2
  go_ret
  exact ⟨rfl, rfl⟩

theorem fin_step (m k : Nat) (h : k < m) : (List.finRange m).take (k + 1) = (List.finRange m).take k ++ [⟨k, h⟩] := by
  rw [take_step _ k (by simpa using h)]
  simp
theorem fin_map (m : Nat) : (List.finRange m).map Fin.val = List.range m := by
  apply List.ext_getElem
  · simp
  · intro i h1 h2; simp
set_option maxHeartbeats 1000000 in
theorem chunk_stops (b o c m : Nat) (Bs Bn : Nat) (S : Nat → Prop) (w : World) (hm : 64 * m ≤ 1000000000) (hc : 64 * m ≤ c) (hs : ¬ S Bs) (hn : ¬ S Bn)
    (h1 : w.cell? ⟨Bs, 0, none⟩ = some (.slice (some ⟨b, o, none⟩) (64 * m) c)) (h2 : w.cell? ⟨Bn, 0, none⟩ = some (.int .i64 64)) :
    SeqStopsK Fence.wide 2 Tryd.prog 115 #[.pointer (some ⟨Bs, 0, none⟩), .pointer (some ⟨Bn, 0, none⟩)] (fun x : Fin m => #[.slice (some ⟨b, o + 64 * x.val, none⟩) 64 64]) (KeepC S) (fun ys => ys = List.finRange m) (fun _ => True) m w := by
  intro l J Jx W hW hJ hJx hY h0
  have k1 := (hW.cell (p := ⟨Bs, 0, none⟩) (lt_of_cell h1)).trans h1
  have k2 := (hW.cell (p := ⟨Bn, 0, none⟩) (lt_of_cell h2)).trans h2
  clear h1 h2
  refine callsIn_wide.2 ?_
  go_enter Tryd.func115, Tryd.ntmps115
  go_wp2
  go_loopw [4] (fun i wr => ∃ k : Nat, k ≤ m ∧ i = .int .i64 ((64 * k : Nat) : Int) ∧ Hid (J ((List.finRange m).take k) wr) ∧ wr.cell? ⟨Bs, 0, none⟩ = some (.slice (some ⟨b, o, none⟩) (64 * m) c) ∧ wr.cell? ⟨Bn, 0, none⟩ = some (.int .i64 64)) (fun i _ => 64 * m - (intOf i).toNat)
  case atStart => exact ⟨0, Nat.zero_le _, rfl, hide h0, k1, k2⟩
  case round =>
    obtain ⟨k, hk, rfl, hj, g1, g2⟩ := hrel
    by_cases hlt : k < m
    · have e1 : ¬ 64 * k = c := by omega
      have e2 : 64 * k < 64 * m := by omega
      have e3 : 64 ≤ 64 * m - 64 * k := by omega
      go_wp2
      go_quiet (fail)
      go_upto_region 4 with fail
      have hj' := hJ _ _ (wr.drewN nq) none (unhide hj) ⟨rfl, rfl, rfl, Nat.le_refl _, fun _ _ _ => rfl⟩ (fun r e => by cases e)
      obtain ⟨fn, tmps, assign, body, hy, hR⟩ := hY ((List.finRange m).take k) ⟨k, hlt⟩ (wr.drewN nq) hj' (by simp; omega)
      dsimp only at hy
      refine (wpIn_wide (n := 2)).1 ?_
      gi_wp2
      clear hy
      refine hR.mono ?_
      rintro e W3 (⟨rfl, hJ3, hk3⟩ | ⟨rfl, hJx3⟩)
      · have g1' := hk3 _ _ hs g1
        have g2' := hk3 _ _ hn g2
        have hJ4 := hide hJ3
        clear hJ3 hk3
        gi_wp2
        go_wp2
        go_roundw
        case rel => exact ⟨k + 1, by omega, by go_num, hide (by rw [fin_step m k hlt]; exact unhide hJ4), g1', g2'⟩
        case measure => simp [intOf]; omega
      · gi_wp2
        go_wp2
        refine bodyPost_ret (results_none rfl _ _ _) rfl ?_
        exact ⟨⟨_, rfl⟩, .inr ⟨_, trivial, hJx3⟩⟩
    · obtain rfl : k = m := by omega
      go_wp2
      go_end0
      exact ⟨⟨_, rfl⟩, .inl ⟨_, rfl, by have := unhide hj; rwa [List.take_of_length_le (by simp)] at this⟩⟩

end Go.Proofs.YtcjlkjcadaaleaaDoor

/-
  Arrays by value and parts of slices.
-/
namespace Go.Proofs.YtcjlkjcadaaleaaDoor
open Go.RowKit

theorem Blk.far' {w : World} {g : Nat} {t : TypeId} {cs : Array Value} (h : Blk w g t cs) {b : Nat} (hn : ¬ g = b) (i : Nat) (u : Value) : Blk (w.setCell ⟨b, i, none⟩ u) g t cs := h.far hn u
theorem new_cell (W : World) (t : TypeId) (cs : Array Value) {g : Nat} (hg : g = W.heap.size) {i : Nat} {v : Value} (hv : cs[i]? = some v) : (W.alloc (.cells cs t)).cell? ⟨g, i, none⟩ = some v := by
  rw [(Blk.new' W t cs hg).cell]; exact hv
theorem old_cell (W : World) (o : Obj) {p : Addr} {v : Value} (h : W.cell? p = some v) : (W.alloc o).cell? p = some v := Ext.cellv ((Ext.refl W).alloc o) h
theorem keep5 {W : World} (o : Obj) {p q r s u : Addr} {a b c d e : Value} (h : W.cell? p = some a ∧ W.cell? q = some b ∧ W.cell? r = some c ∧ W.cell? s = some d ∧ W.cell? u = some e) : (W.alloc o).cell? p = some a ∧ (W.alloc o).cell? q = some b ∧ (W.alloc o).cell? r = some c ∧ (W.alloc o).cell? s = some d ∧ (W.alloc o).cell? u = some e :=
  ⟨old_cell _ _ h.1, old_cell _ _ h.2.1, old_cell _ _ h.2.2.1, old_cell _ _ h.2.2.2.1, old_cell _ _ h.2.2.2.2⟩
theorem keepc3 {W : World} (o : Obj) {p q r : Addr} {a b c : Value} (h : W.cell? p = some a ∧ W.cell? q = some b ∧ W.cell? r = some c) : (W.alloc o).cell? p = some a ∧ (W.alloc o).cell? q = some b ∧ (W.alloc o).cell? r = some c :=
  ⟨old_cell _ _ h.1, old_cell _ _ h.2.1, old_cell _ _ h.2.2⟩
theorem keep3 {W : World} (o : Obj) {p q : Addr} {a b : Value} (h : W.cell? p = some a ∧ W.cell? q = some b) : (W.alloc o).cell? p = some a ∧ (W.alloc o).cell? q = some b := ⟨old_cell _ _ h.1, old_cell _ _ h.2⟩
/-- What a region keeps whose last store goes to cell r. -/
def KeptFor (p q r : Addr) (a b : Value) (W : World) : Prop := W.cell? p = some a ∧ W.cell? q = some b ∧ W.cell? r = some (held W r) ∧ W.frozen? r = false
theorem keepS {W : World} (o : Obj) {p q r : Addr} {a b : Value} (h : W.cell? p = some a ∧ W.cell? q = some b ∧ W.cell? r = some (held W r) ∧ W.frozen? r = false) : (W.alloc o).cell? p = some a ∧ (W.alloc o).cell? q = some b ∧ (W.alloc o).cell? r = some (held (W.alloc o) r) ∧ (W.alloc o).frozen? r = false :=
  ⟨old_cell _ _ h.1, old_cell _ _ h.2.1, cell_held (old_cell _ _ h.2.2.1), Ext.frozenv ((Ext.refl W).alloc o) h.2.2.2 (lt_of_cell h.2.2.1)⟩
theorem keepT {W : World} (u : Value) {g i j k : Nat} {a b : Value} (hi : i ≠ k) (hj : j ≠ k) (h : W.cell? ⟨g, i, none⟩ = some a ∧ W.cell? ⟨g, j, none⟩ = some b ∧ W.cell? ⟨g, k, none⟩ = some (held W ⟨g, k, none⟩) ∧ W.frozen? ⟨g, k, none⟩ = false) :
    (W.setCell ⟨g, k, none⟩ u).cell? ⟨g, i, none⟩ = some a ∧ (W.setCell ⟨g, k, none⟩ u).cell? ⟨g, j, none⟩ = some b ∧ (W.setCell ⟨g, k, none⟩ u).cell? ⟨g, k, none⟩ = some (held (W.setCell ⟨g, k, none⟩ u) ⟨g, k, none⟩) ∧ (W.setCell ⟨g, k, none⟩ u).frozen? ⟨g, k, none⟩ = false := by
  refine ⟨?_, ?_, cell_held (World.cell?_setCell_same' _ _ _ (by rw [h.2.2.1]; rfl)), by rw [World.frozen?_setCell]; exact h.2.2.2⟩
  · rw [World.cell?_setCell_other (h := by intro e; cases e; exact hi rfl)]; exact h.1
  · rw [World.cell?_setCell_other (h := by intro e; cases e; exact hj rfl)]; exact h.2.1
section
variable {P : Program}
theorem run_index_arr {T elem : TypeId} {len : Nat} (hu : P.underlying T = some (.array len elem)) (hp : P.plainKey elem = true) {inf : TypeInfo} (hi : P.info? elem = some inf) (h1 : P.cellsOf elem = 1)
    {cs : Array Value} {k : Nat} (hk : k < len) {v : Value} (hv : cs[k]? = some v) (w : World) : (Instr.index T (.agg cs) (.int .i64 (k : Int))).run P w = .ok v w := by
  have h2 : (0 : Int) ≤ (k : Int) ∧ (k : Int) < (len : Int) := by omega
  simp [Instr.index, asIntOf, run_underlying hu, run_sizeOf (w := w) hi, h1, hk, run_part_plain w hp hv]

/-- A table is loaded whole. -/
theorem wpList_loadR {ops : Array Oper} {rest : List Oper} {o : Oper} {a : Act} {w : World} {Q : Exit → Act → World → Prop} (hgd : o.guard = none) {ty : TypeId} {x : Operand} (ho : o.op = .load ty x) {n : Nat} (W : Wide P ty n)
    {g : Nat} (hx : a.eval x = .pointer (some ⟨g, 0, none⟩)) {cs : List Value} {arr : Array Value} (hB : w.rangeAt g 0 cs) (hn : cs.length = n) (ha : cs.toArray = arr) (h : wpList P ops Q rest (a.put o.dst (.agg arr)) w) : wpList P ops Q (o :: rest) a w :=
  wpList_plain hgd fun _ hK => by
    obtain ⟨d, hu, hd⟩ := W.und
    refine wp_load_mid ty x ho g 0 hx cs d hB hu hd (by rw [hn]; exact W.info) ?_
    rw [ha]
    exact hK _ _ h
/-- The one result lies in a block of its own. -/
theorem loadVar_blk {w : World} {b : Nat} {t : TypeId} {cs : Array Value} (hB : Blk w b t cs) {T : TypeId} {n : Nat} (W : Wide P T n) (hn : cs.size = n) : (loadVar T ⟨b, 0, none⟩).run P w = .ok (.agg cs) w := by
  obtain ⟨d, hu, hd⟩ := W.und
  have := run_loadVar_mid (P := P) w b 0 T cs.toList d hB.range hu hd (by rw [Array.length_toList, hn]; exact W.info)
  rw [Array.toArray_toList] at this
  exact this
theorem results_blk {fn : Func} {i : Tmp} {T : TypeId} {n : Nat} (W : Wide P T n) (hf : fn.results = #[.cell i T]) {tmps : Array Value} {w : World} {b : Nat} {t : TypeId} {cs : Array Value} (hB : Blk w b t cs) (hn : cs.size = n) (ei : tmps.getD i undef = .pointer (some ⟨b, 0, none⟩)) :
    (results fn tmps).run P w = .ok (.agg cs) w := by
  have h1 := loadVar_blk hB W hn
  simp only [Array.getD_eq_getD_getElem?] at ei
  simp [results, hf, ei, asAddr, h1]
/-- A part of a slice. -/
theorem Reads.sub {w : World} {v : Value} {n : Nat} {xs : List Value} (h : Reads w 1 v n xs) (i m : Nat) (hi : i + m ≤ n) (hm : 0 < m) :
    ∃ b o c, v = .slice (some ⟨b, o, none⟩) n c ∧ n ≤ c ∧ c ≤ maxLen ∧ b < w.heap.size ∧ Reads w 1 (.slice (some ⟨b, o + i, none⟩) m (c - i)) m ((xs.drop i).take m) := by
  obtain ⟨b, o, c, u, rfl, h1, h2, h3, _, _⟩ := h.at1 (k := 0) (by omega)
  have hl := h.1
  refine ⟨b, o, c, rfl, h1, h2, h3, by simp; omega, _, _, rfl, by omega, by omega, fun _ => ⟨b, o + i, rfl, fun j u hu => ?_⟩⟩
  have hj : j < m := by
    rcases Nat.lt_or_ge j m with h | h
    · exact h
    · rw [List.getElem?_eq_none (by simp; omega)] at hu; cases hu
  rw [List.getElem?_take, if_pos hj, List.getElem?_drop] at hu
  obtain ⟨_, A, c', e, _, _, h4⟩ := h
  cases e
  obtain ⟨b', o', e, hc⟩ := h4 (by omega)
  cases e
  rw [Nat.add_assoc]
  exact hc _ _ hu
/-- The same with another capacity. -/
theorem Reads.cap {w : World} {A : Option Addr} {n c c' : Nat} {xs : List Value} (h : Reads w 1 (.slice A n c) n xs) (h1 : n ≤ c') (h2 : c' ≤ maxLen) : Reads w 1 (.slice A n c') n xs := by
  obtain ⟨hl, A', c'', e, _, _, h4⟩ := h
  cases e
  exact ⟨hl, A, c', rfl, h1, h2, h4⟩
/-- The cells of a block. -/
theorem Reads.of_blk {w : World} {g : Nat} {t : TypeId} {cs : Array Value} (h : Blk w g t cs) {i n c : Nat} (hi : i + n ≤ cs.size) (hc : n ≤ c) (hm : c ≤ maxLen) :
    Reads w 1 (.slice (some ⟨g, i, none⟩) n c) n ((cs.toList.drop i).take n) := by
  refine ⟨by simp; omega, _, _, rfl, hc, hm, fun _ => ⟨g, i, rfl, fun j u hu => ?_⟩⟩
  have hj : j < n := by
    rcases Nat.lt_or_ge j n with h | h
    · exact h
    · rw [List.getElem?_eq_none (by simp; omega)] at hu; cases hu
  rw [List.getElem?_take, if_pos hj, List.getElem?_drop] at hu
  rw [h.cell, ← hu]
  simp
end

end Go.Proofs.YtcjlkjcadaaleaaDoor

/-
  sha's compress: what its three loops keep.
-/
namespace Go.Proofs.YtcjlkjcadaaleaaDoor
open Go.RowKit

/-- Words, and zeros behind them up to n. -/
def wordsTo (n : Nat) (l : List UInt32) : Array Value := (l.map w32 ++ List.replicate (n - l.length) (Value.int .u32 0)).toArray
theorem wordsTo_get {n : Nat} {l : List UInt32} {i : Nat} (h : i < l.length) : (wordsTo n l)[i]? = some (.int .u32 ((l.getD i 0).toNat : Int)) := by
  unfold wordsTo
  rw [List.getElem?_toArray, List.getElem?_append_left (by simpa using h), List.getElem?_map, List.getD_eq_getElem?_getD, List.getElem?_eq_getElem h]
  rfl
theorem wordsTo_set {n : Nat} {l : List UInt32} (x : UInt32) (h : l.length < n) : (wordsTo n l).setIfInBounds l.length (.int .u32 (x.toNat : Int)) = wordsTo n (l ++ [x]) := by
  unfold wordsTo
  rw [show n - l.length = (n - (l ++ [x]).length) + 1 from by simp; omega, List.replicate_succ]
  simp [w32]
theorem wordsTo_set' {n k : Nat} {l : List UInt32} (x : UInt32) (hl : l.length = k) (h : k < n) : (wordsTo n l).setIfInBounds k (.int .u32 (x.toNat : Int)) = wordsTo n (l ++ [x]) := by subst hl; exact wordsTo_set x h
theorem wordsTo_zero (n : Nat) : wordsTo n [] = Array.replicate n (Value.int .u32 0) := by
  unfold wordsTo
  simp
theorem wordsTo_size {n : Nat} {l : List UInt32} (h : l.length ≤ n) : (wordsTo n l).size = n := by
  unfold wordsTo
  simp
  omega

theorem arr64_wide : Wide Tryd.prog 137 64 := ⟨⟨_, Tryd.underlying137, rfl⟩, by kernel_rfl⟩
theorem state_wide : Wide Tryd.prog 129 8 := ⟨⟨_, Tryd.underlying129, rfl⟩, by kernel_rfl⟩


/-- The package's two tables. -/
structure ShaMem (w : World) : Prop where
  k : w.rangeAt 1 0 (shaK.map w32)
  h : w.rangeAt 0 0 (shaH0.map w32)
theorem rangeAt_chg {S : Nat → Prop} {w w' : World} {b : Nat} {cs : List Value} (h : w.rangeAt b 0 cs) (hc : Chg S w w') (hn : ¬ S b) : w'.rangeAt b 0 cs := fun j v hj => Chg.cellv hc (h j v hj) hn
theorem ShaMem.chg {S : Nat → Prop} {w w' : World} (h : ShaMem w) (hc : Chg S w w') (h1 : ¬ S 1) (h2 : ¬ S 0) : ShaMem w' := ⟨rangeAt_chg h.k hc h1, rangeAt_chg h.h hc h2⟩
theorem ShaMem.ext {w w' : World} (h : ShaMem w) (hc : Ext w w') : ShaMem w' := h.chg hc (fun h => h) (fun h => h)


theorem rotr2 (x : UInt32) (n0 n1 : Nat) (g : Nat) (w : World) (h0 : w.cell? ⟨g, 0, none⟩ = some (.int .i64 (n0 : Int))) (h1 : w.cell? ⟨g, 1, none⟩ = some (.int .i64 (n1 : Int))) (hn : (0 < n0 ∧ n0 < 32) ∧ 0 < n1 ∧ n1 < 32) :
    Calls Tryd.prog 114 #[.int .u32 (x.toNat : Int), .slice (some ⟨g, 0, none⟩) 2 2] w fun e w' => e = .returned (.int .u32 ((rotrW x (UInt32.ofNat n0) ^^^ rotrW x (UInt32.ofNat n1)).toNat : Int)) ∧ w = w' := by
  have := rotr_any x [n0, n1] (.slice (some ⟨g, 0, none⟩) 2 2) w ⟨rfl, _, _, rfl, Nat.le_refl _, by unfold maxLen; omega, fun _ => ⟨g, 0, rfl, fun j u hu => ?_⟩⟩ (by simp; omega)
  · simpa [rotXor] using this
  · match j, hu with
    | 0, hu => cases hu; exact h0
    | 1, hu => cases hu; exact h1
theorem rotr3 (x : UInt32) (n0 n1 n2 : Nat) (g : Nat) (w : World) (h0 : w.cell? ⟨g, 0, none⟩ = some (.int .i64 (n0 : Int))) (h1 : w.cell? ⟨g, 1, none⟩ = some (.int .i64 (n1 : Int))) (h2 : w.cell? ⟨g, 2, none⟩ = some (.int .i64 (n2 : Int))) (hn : (0 < n0 ∧ n0 < 32) ∧ (0 < n1 ∧ n1 < 32) ∧ 0 < n2 ∧ n2 < 32) :
    Calls Tryd.prog 114 #[.int .u32 (x.toNat : Int), .slice (some ⟨g, 0, none⟩) 3 3] w fun e w' => e = .returned (.int .u32 ((rotrW x (UInt32.ofNat n0) ^^^ rotrW x (UInt32.ofNat n1) ^^^ rotrW x (UInt32.ofNat n2)).toNat : Int)) ∧ w = w' := by
  have := rotr_any x [n0, n1, n2] (.slice (some ⟨g, 0, none⟩) 3 3) w ⟨rfl, _, _, rfl, Nat.le_refl _, by unfold maxLen; omega, fun _ => ⟨g, 0, rfl, fun j u hu => ?_⟩⟩ (by simp; omega)
  · simpa [rotXor] using this
  · match j, hu with
    | 0, hu => cases hu; exact h0
    | 1, hu => cases hu; exact h1
    | 2, hu => cases hu; exact h2
def rr2 (x a b : UInt32) : UInt32 := rotrW x a ^^^ rotrW x b
def rr3 (x a b c : UInt32) : UInt32 := rotrW x a ^^^ rotrW x b ^^^ rotrW x c
theorem rotr_7_18 (x : UInt32) (g : Nat) (w : World) (h0 : w.cell? ⟨g, 0, none⟩ = some (.int .i64 7)) (h1 : w.cell? ⟨g, 1, none⟩ = some (.int .i64 18)) :
    Calls Tryd.prog 114 #[.int .u32 (x.toNat : Int), .slice (some ⟨g, 0, none⟩) 2 2] w fun e w' => e = .returned (.int .u32 ((rr2 x 7 18).toNat : Int)) ∧ w = w' :=
  rotr2 x 7 18 g w h0 h1 (by omega)
theorem rotr_17_19 (x : UInt32) (g : Nat) (w : World) (h0 : w.cell? ⟨g, 0, none⟩ = some (.int .i64 17)) (h1 : w.cell? ⟨g, 1, none⟩ = some (.int .i64 19)) :
    Calls Tryd.prog 114 #[.int .u32 (x.toNat : Int), .slice (some ⟨g, 0, none⟩) 2 2] w fun e w' => e = .returned (.int .u32 ((rr2 x 17 19).toNat : Int)) ∧ w = w' :=
  rotr2 x 17 19 g w h0 h1 (by omega)
theorem rotr_6_11_25 (x : UInt32) (g : Nat) (w : World) (h0 : w.cell? ⟨g, 0, none⟩ = some (.int .i64 6)) (h1 : w.cell? ⟨g, 1, none⟩ = some (.int .i64 11)) (h2 : w.cell? ⟨g, 2, none⟩ = some (.int .i64 25)) :
    Calls Tryd.prog 114 #[.int .u32 (x.toNat : Int), .slice (some ⟨g, 0, none⟩) 3 3] w fun e w' => e = .returned (.int .u32 ((rr3 x 6 11 25).toNat : Int)) ∧ w = w' :=
  rotr3 x 6 11 25 g w h0 h1 h2 (by omega)
theorem rotr_2_13_22 (x : UInt32) (g : Nat) (w : World) (h0 : w.cell? ⟨g, 0, none⟩ = some (.int .i64 2)) (h1 : w.cell? ⟨g, 1, none⟩ = some (.int .i64 13)) (h2 : w.cell? ⟨g, 2, none⟩ = some (.int .i64 22)) :
    Calls Tryd.prog 114 #[.int .u32 (x.toNat : Int), .slice (some ⟨g, 0, none⟩) 3 3] w fun e w' => e = .returned (.int .u32 ((rr3 x 2 13 22).toNat : Int)) ∧ w = w' :=
  rotr3 x 2 13 22 g w h0 h1 h2 (by omega)

theorem sched_val (x0 r1 x1 x9 r14 x14 : UInt32) : ((((x0.toNat : Int) + bits BinOp.xor IntKind.u32 (r1.toNat : Int) ((x1.toNat : Int) / (8 : Int))) % (4294967296 : Int) + (x9.toNat : Int)) % (4294967296 : Int) + bits BinOp.xor IntKind.u32 (r14.toNat : Int) ((x14.toNat : Int) / (1024 : Int))) % (4294967296 : Int) =
    ((x0 + (r1 ^^^ (x1 >>> 3)) + x9 + (r14 ^^^ (x14 >>> 10))).toNat : Int) := by
  have h3 := shr32 x1 3 (by omega)
  have h10 := shr32 x14 10 (by omega)
  rw [show (8 : Int) = 2 ^ 3 from rfl, show (1024 : Int) = 2 ^ 10 from rfl, h3, h10, xor32, xor32, add32, add32, add32]
  rfl
theorem t_val (x7 r x4 x5 x6 xk xw : UInt32) : IntKind.u32.wrap (IntKind.u32.wrap (IntKind.u32.wrap (IntKind.u32.wrap ((x7.toNat : Int) + (r.toNat : Int)) + bits BinOp.xor IntKind.u32 (bits BinOp.and IntKind.u32 (x4.toNat : Int) (x5.toNat : Int)) (bits BinOp.and IntKind.u32 (bits BinOp.xor IntKind.u32 IntKind.u32.max (x4.toNat : Int)) (x6.toNat : Int))) + (xk.toNat : Int)) + (xw.toNat : Int)) =
    ((x7 + r + ((x4 &&& x5) ^^^ (~~~x4 &&& x6)) + xk + xw).toNat : Int) := by
  rw [not32, and32, and32, xor32, addW, addW, addW, addW]
theorem u_val (r x0 x1 x2 : UInt32) : IntKind.u32.wrap ((r.toNat : Int) + bits BinOp.xor IntKind.u32 (bits BinOp.xor IntKind.u32 (bits BinOp.and IntKind.u32 (x0.toNat : Int) (x1.toNat : Int)) (bits BinOp.and IntKind.u32 (x0.toNat : Int) (x2.toNat : Int))) (bits BinOp.and IntKind.u32 (x1.toNat : Int) (x2.toNat : Int))) =
    ((r + (((x0 &&& x1) ^^^ (x0 &&& x2)) ^^^ (x1 &&& x2))).toNat : Int) := by
  rw [and32, and32, and32, xor32, xor32, addW]
/-- What the first loop keeps. -/
def SchInv (w : World) (hc : Array Value) (bs : List UInt8) (k : Nat) (wr : World) : Prop :=
  Blk wr w.heap.size 129 hc ∧ (∃ o8, Blk wr (w.heap.size + 1) 129 o8 ∧ o8.size = 8) ∧ Blk wr (w.heap.size + 1 + 1) 137 (wordsTo 64 (schedAt bs k)) ∧ Ext w wr
theorem SchInv.step {w wr wr' : World} {hc : Array Value} {bs : List UInt8} {k : Nat} (h : SchInv w hc bs k wr) (hE : Ext wr wr') (hk : k < 64) {x : UInt32} (hx : (if k < 16 then beWord ((bs.drop (4 * k)).take 4) else schedNext (schedAt bs k)) = x) :
    SchInv w hc bs (k + 1) (wr'.setCell ⟨w.heap.size + 1 + 1, k, none⟩ (.int .u32 (x.toNat : Int))) := by
  obtain ⟨q1, ⟨o8, q5, q6⟩, q3, q4⟩ := h
  refine ⟨(q1.ext hE).far' (by omega) _ _, ⟨o8, (q5.ext hE).far' (by omega) _ _, q6⟩, ?_, (q4.trans hE).setCell (by simp; omega) _⟩
  have := (q3.ext hE).set_ k (.int .u32 (x.toNat : Int))
  rw [wordsTo_set' x (schedAt_length bs k) hk] at this
  rw [schedAt, hx]
  exact this

/-- What the second loop keeps. -/
def RndInv (w : World) (hc : Array Value) (h : List UInt32) (bs : List UInt8) (g k : Nat) (wr : World) : Prop :=
  Blk wr w.heap.size 129 hc ∧ (∃ o8, Blk wr (w.heap.size + 1) 129 o8 ∧ o8.size = 8) ∧ Blk wr (w.heap.size + 1 + 1) 137 (wordsTo 64 (sched bs)) ∧ Blk wr g 129 (wordsTo 8 (roundsAt bs h k)) ∧ Ext w wr ∧ w.heap.size + 1 + 1 < g
theorem wordsTo_all {n : Nat} {l : List UInt32} (h : l.length = n) : wordsTo n l = (l.map w32).toArray := by
  unfold wordsTo
  rw [h, Nat.sub_self]
  simp
theorem wordsK {k : Nat} (h : k < 64) : ((shaK.map w32).toArray)[k]? = some (.int .u32 ((shaK.getD k 0).toNat : Int)) := by
  have := wordsTo_get (n := 64) (l := shaK) (i := k) h
  rwa [wordsTo_all (show shaK.length = 64 from rfl)] at this
theorem words_one (l : List UInt32) : ((l.map w32).toArray).all (·.oneCell') = true := by
  rw [← Array.all_toList]
  simp [w32]
  intro x _
  rfl

/-- What the third loop keeps: the first k sums are made. -/
def finAt (R h : List UInt32) (k : Nat) : List UInt32 := (List.zipWith (· + ·) R h).take k ++ R.drop k
def FinInv (w : World) (hc : Array Value) (h R : List UInt32) (g k : Nat) (wr : World) : Prop :=
  Blk wr w.heap.size 129 hc ∧ (∃ o8, Blk wr (w.heap.size + 1) 129 o8 ∧ o8.size = 8) ∧ Blk wr g 129 (wordsTo 8 (finAt R h k)) ∧ Ext w wr ∧ w.heap.size + 1 + 1 < g
theorem finAt_length {R h : List UInt32} (hR : R.length = 8) (hh : h.length = 8) {k : Nat} (hk : k ≤ 8) : (finAt R h k).length = 8 := by
  unfold finAt; simp; omega
theorem FinInv.start {w wr : World} {hc : Array Value} {h : List UInt32} {bs : List UInt8} {g : Nat} (hi : RndInv w hc h bs g 64 wr) : FinInv w hc h (roundsAt bs h 64) g 0 wr := by
  obtain ⟨q1, q2, _, q4, q5, q6⟩ := hi
  exact ⟨q1, q2, q4, q5, q6⟩
section
variable {w wr : World} {hc : Array Value} {h R : List UInt32} {g k : Nat}
theorem FinInv.new (hi : FinInv w hc h R g k wr) (hR : R.length = 8) (hh : h.length = 8) (hk : k < 8) : wr.cell? ⟨g, k, none⟩ = some (.int .u32 ((R.getD k 0).toNat : Int)) := by
  rw [hi.2.2.1.cell, wordsTo_get (by rw [finAt_length hR hh (by omega)]; exact hk)]
  have : (finAt R h k).getD k 0 = R.getD k 0 := by
    unfold finAt
    rw [List.getD_eq_getElem?_getD, List.getD_eq_getElem?_getD, List.getElem?_append_right (by simp; omega)]
    simp
    rw [show k + (k - min k (min R.length h.length)) = k from by omega]
  rw [this]
theorem FinInv.old (hi : FinInv w hc h R g k wr) (hC : (h.map w32).toArray = hc) (hh : h.length = 8) (hk : k < 8) : wr.cell? ⟨w.heap.size, k, none⟩ = some (.int .u32 ((h.getD k 0).toNat : Int)) := by
  rw [hi.1.cell, ← hC, ← wordsTo_all hh, wordsTo_get (by omega)]
theorem FinInv.step (hi : FinInv w hc h R g k wr) {wr' : World} (hE : Ext wr wr') (hR : R.length = 8) (hh : h.length = 8) (hk : k < 8) : FinInv w hc h R g (k + 1) (wr'.setCell ⟨g, k, none⟩ (.int .u32 ((R.getD k 0 + h.getD k 0).toNat : Int))) := by
  obtain ⟨q1, ⟨o8, q5, q6⟩, q3, q4, q7⟩ := hi
  refine ⟨(q1.ext hE).far' (by omega) _ _, ⟨o8, (q5.ext hE).far' (by omega) _ _, q6⟩, ?_, (q4.trans hE).setCell (by simp; omega) _, q7⟩
  have := (q3.ext hE).set_ k (.int .u32 ((R.getD k 0 + h.getD k 0).toNat : Int))
  have e : (wordsTo 8 (finAt R h k)).setIfInBounds k (.int .u32 ((R.getD k 0 + h.getD k 0).toNat : Int)) = wordsTo 8 (finAt R h (k + 1)) := by
    rw [wordsTo_all (finAt_length hR hh (by omega)), wordsTo_all (finAt_length hR hh (by omega))]
    apply Array.ext'
    rw [Array.toList_setIfInBounds]
    dsimp only
    have e1 : finAt R h (k + 1) = (finAt R h k).set k (R.getD k 0 + h.getD k 0) := by
      unfold finAt
      rw [take_step _ k (by simp; omega), List.set_append_right _ _ (by simp; omega)]
      rw [show k - ((List.zipWith (· + ·) R h).take k).length = 0 from by simp; omega]
      rw [List.drop_eq_getElem_cons (show k < R.length by omega)]
      rw [List.set_cons_zero, List.append_assoc, List.getD_eq_getElem?_getD, List.getD_eq_getElem?_getD, List.getElem?_eq_getElem (show k < R.length by omega), List.getElem?_eq_getElem (show k < h.length by omega), List.getElem_zipWith]
      rfl
    rw [e1, List.map_set]
    rfl
  rw [e] at this
  exact this
theorem FinInv.drew (hi : FinInv w hc h R g k wr) : FinInv w hc h R g k wr.drew := by
  obtain ⟨q1, ⟨o8, q5, q6⟩, q3, q4, q7⟩ := hi
  exact ⟨q1.drew, ⟨o8, q5.drew, q6⟩, q3.drew, q4.drew, q7⟩
theorem finAt_end (hR : R.length = 8) (hh : h.length = 8) : finAt R h 8 = List.zipWith (· + ·) R h := by
  unfold finAt
  rw [List.take_of_length_le (by simp; omega), List.drop_of_length_le (by omega), List.append_nil]
end

end Go.Proofs.YtcjlkjcadaaleaaDoor
