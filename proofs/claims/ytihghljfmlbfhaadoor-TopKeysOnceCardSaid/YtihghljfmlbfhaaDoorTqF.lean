/-
  Several texts in one file: each has its own heading below.
-/
import Derived.Test.YtihghljfmlbfhaaDoorTqE
import Derived.Test.YtihghljfmlbfhaaDoorTqA
import Derived.Scope
import Derived.WalkMore
import Derived.OwnWalkIn
import Derived.RangeFuncNested
import Derived.RangeFuncBound
import Derived.RangeFuncCalls
import Derived.RangeFuncLeaves
import Derived.Test.YtihghljfmlbfhaaDoorProg
import Derived.WalkKit
import Derived.Laws.BitsAllLaws
import Derived.Outline
import Derived.ChangeKeysEq
import Derived.DeepKeys


namespace Go.Proofs.YtihghljfmlbfhaaDoor.Pv
open Go.RowKit
structure Ob where
  x : Nat
  t : TypeId
  l : List PC
  l' : List PC
def hasOb (os : List Ob) (x : Nat) : Bool := os.any fun o => Nat.beq o.x x
theorem hasOb_mem {os : List Ob} {x : Nat} (h : hasOb os x = true) : ∃ o ∈ os, o.x = x := by
  obtain ⟨o, h1, h2⟩ := List.any_eq_true.1 h
  exact ⟨o, h1, beqT h2⟩
theorem mem_hasOb {os : List Ob} {o : Ob} (h : o ∈ os) : hasOb os o.x = true := List.any_eq_true.2 ⟨o, h, Nat.beq_refl _⟩
def extX (os : List Ob) (bl : Nat → Nat) (dev : Option (List Acc × List Acc)) (hd : Value) : Nat → Option Value := fun x => match hasOb os x, dev, Nat.beq x dx with
  | true, _, _ => some (boxAt (bl x))
  | false, some _, true => some hd
  | false, _, _ => none
def envX (os : List Ob) (bl : Nat → Nat) (dev : Option (List Acc × List Acc)) (hd : Value) : Env := fun x => (extX os bl dev hd x).map fun h => (0, h)
def SX (os : List Ob) (bl : Nat → Nat) (D : Dv) : Nat → Prop := fun b => D.S b ∨ ∃ o ∈ os, b = bl o.x
def FunX (P : Program) (I : World → Prop) (f : Nat) (new : Bool) (os : List Ob) (O : List Acc → Option Res) (dev : Option (List Acc × List Acc)) (stp : List Acc → Prop) (args : List PV) (res : PV) : Prop :=
  ∀ (w : World) (ok0 : Nat → Prop) (vs : List Value) (bl : Nat → Nat) (D : Dv) (X0 : Nat → Prop),
    (∀ w', Chg (SX os bl D) w w' → I w') → (∀ b, SX os bl D b → b < w.heap.size ∧ ¬ ok0 b) → DvStep P D stp → (∀ l X Y w w' chain, D.pan l X w chain → Chg X w w' → (∀ b, Y b → X b) → D.pan l Y w' chain) → D.O = O →
    (∀ p, dev = some p → D.inv p.1 X0 w) → (dev = none → (∀ b, ¬ D.S b) ∧ ∀ l X w, ¬ D.inv l X w) →
    (∀ o ∈ os, X0 (bl o.x) ∧ ∃ cs, Blk w (bl o.x) o.t cs ∧ RL { w, ok := ok0, env := fun _ => none } o.l cs.toList) → (∀ o ∈ os, ∀ o' ∈ os, bl o.x = bl o'.x → o.x = o'.x) →
    Vals { w, ok := ok0, env := envX os bl dev D.hd } args vs →
    Calls P f vs.toArray w fun e w' => Chg (SX os bl D) w w' ∧
      ((∃ val, e = .returned val ∧ RV { w := w', ok := okRes w ok0 new, env := fun _ => none } res val ∧ (∀ o ∈ os, ∃ cs, Blk w' (bl o.x) o.t cs ∧ RL { w := w', ok := okRes w ok0 new, env := fun _ => none } o.l' cs.toList) ∧ (∀ p, dev = some p → D.inv p.2 X0 w'))
      ∨ (∃ chain l, e = .panicked chain ∧ stp l ∧ O l = none ∧ D.pan l X0 w' chain))
def EndX (new : Bool) (os : List Ob) (O : List Acc → Option Res) (dev : Option (List Acc × List Acc)) (stp : List Acc → Prop) (s : St) : Prop :=
  (∀ o ∈ os, ∃ l, find s.o o.x = some (none, 0, .box o.t l) ∧ ExL s new l o.l') ∧ (∀ p, dev = some p → find s.o dx = some (none, 0, .dev O stp p.2))
def RQX (P : Program) (A : Amb) (fn : Func) (new : Bool) (os : List Ob) (O : List Acc → Option Res) (dev : Option (List Acc × List Acc)) (stp : List Acc → Prop) (res : PV) : Exit → Act → World → Prop
  | .panic chain, a, w => a.defers = [] ∧ PanG A chain w
  | e, a, w => (e = .normal ∨ e = .ret) ∧ ∃ s, (RetTo P fn new res s ∧ EndX new os O dev stp s) ∧ Gam A s a w
def headO (os : List Ob) (O : List Acc → Option Res) (dev : Option (List Acc × List Acc)) (stp : List Acc → Prop) : Wr := match dev with
  | some p => (dx, none, 0, .dev O stp p.1) :: os.map (fun o => (o.x, none, 0, .box o.t o.l))
  | none => os.map (fun o => (o.x, none, 0, .box o.t o.l))
theorem find_obs {os : List Ob} {x : Nat} {p : Option Bool × Nat × AObj} : find (os.map (fun o => (o.x, none, 0, AObj.box o.t o.l))) x = some p → ∃ o ∈ os, o.x = x ∧ p = (none, 0, .box o.t o.l) := by
  intro h
  obtain ⟨o, h1, h2⟩ := List.mem_map.1 (find_mem h)
  cases h2
  exact ⟨o, h1, rfl, rfl⟩
theorem find_obs_none {os : List Ob} {x : Nat} (h : find (os.map (fun o => (o.x, (none : Option Bool), 0, AObj.box o.t o.l))) x = none) : hasOb os x = false := by
  induction os with
  | nil => rfl
  | cons o os ih =>
    by_cases hx : o.x = x
    · rw [List.map_cons, ← hx, find_cons_eq] at h; cases h
    · rw [List.map_cons, find_cons_ne _ _ hx] at h
      have hb : Nat.beq o.x x = false := by
        cases hb : Nat.beq o.x x with
        | false => rfl
        | true => exact absurd (beqT hb) hx
      have := ih h
      unfold hasOb at this ⊢
      rw [List.any_cons, hb, Bool.false_or]
      exact this
theorem hblk_boxAt {g b : Nat} (h : hblk (boxAt g) = some b) : b = g := by cases h; rfl
theorem funX_of {P : Program} {I : World → Prop} {f : Nat} {fn : Func} {c : Code} {new : Bool} {os : List Ob} {O : List Acc → Option Res} {dev : Option (List Acc × List Acc)} {stp : List Acc → Prop} {args : List PV} {res : PV} (hf : P.funcs[f]? = some fn) (hb : fn.body = some c) (hnb : Nat.ble args.length fn.ntmps = true)
    (hos : (os.all fun o => Nat.blt dx o.x) = true)
    (hT : ∀ A : Amb, A.nt = fn.ntmps → AmbOk P I A → Tri P A ⟨slots 0 args, headO os O dev stp⟩ c (RQX P A fn new os O dev stp res)) : FunX P I f new os O dev stp args res := by
  intro w ok0 vs bl D X0 hM hold hst hpW hO hdv hnd hob hinj hv
  have hlen := hv.length
  have hn := Nat.le_of_ble_eq_true hnb
  have hgt : ∀ o ∈ os, dx < o.x := fun o ho => by
    have := List.all_eq_true.1 hos o ho
    have h3 : dx + 1 ≤ o.x := by simpa [Nat.blt] using this
    exact h3
  have hdxo : hasOb os dx = false := by
    cases h : hasOb os dx with
    | false => rfl
    | true =>
      obtain ⟨o, h1, h2⟩ := hasOb_mem h
      have := hgt o h1; omega
  subst hO
  let A : Amb := ⟨w, SX os bl D, ok0, fn.ntmps, extX os bl dev D.hd, D, stp, X0⟩
  have hext : ∀ x hd, extX os bl dev D.hd x = some hd → (hasOb os x = true ∧ hd = boxAt (bl x)) ∨ (x = dx ∧ hd = D.hd ∧ dev.isSome = true) := by
    intro x hd h
    unfold extX at h
    split at h
    · rename_i h1; cases h; exact .inl ⟨h1, rfl⟩
    · rename_i h1 h2 h3; cases h; exact .inr ⟨beqT h3, rfl, rfl⟩
    · cases h
  have hA : AmbOk P I A := ⟨hM, fun b h => .inl h, hold, hst, fun l X w' hi => by
    cases hd : dev with
    | none => exact ((hnd hd).2 l X w' hi).elim
    | some p => show extX os bl dev D.hd dx = _; unfold extX; rw [hdxo, hd]; rfl, hpW⟩
  have hown : ∀ b, ownB A (envX os bl dev D.hd) b → X0 b := by
    rintro b (h | ⟨x, ver, hd, h1, h2⟩)
    · exact h
    · unfold envX at h1
      cases hx : extX os bl dev D.hd x with
      | none => rw [hx] at h1; cases h1
      | some h =>
        rw [hx] at h1
        cases h1
        rcases hext x _ hx with ⟨h3, rfl⟩ | ⟨_, rfl, _⟩
        · obtain ⟨o, h4, rfl⟩ := hasOb_mem h3
          rw [hblk_boxAt h2]
          exact (hob o h4).1
        · rw [D.noBlk] at h2; cases h2
  have hhead : ∀ x p, find (headO os D.O dev stp) x = some p → (∃ o ∈ os, o.x = x ∧ p = (none, 0, .box o.t o.l)) ∨ (x = dx ∧ ∃ q, dev = some q ∧ p = (none, 0, .dev D.O stp q.1)) := by
    intro x p h
    unfold headO at h
    cases hd : dev with
    | none => rw [hd] at h; exact .inl (find_obs h)
    | some q =>
      rw [hd] at h
      by_cases hx : dx = x
      · subst hx; rw [find_cons_eq] at h; cases h; exact .inr ⟨rfl, q, rfl, rfl⟩
      · rw [find_cons_ne _ _ hx] at h; exact .inl (find_obs h)
  have henv : ∀ o ∈ os, envX os bl dev D.hd o.x = some (0, boxAt (bl o.x)) := fun o ho => by
    unfold envX extX
    rw [mem_hasOb ho]
    rfl
  have hle0 : ∀ {pv : PV} {v : Value}, RV { w, ok := ok0, env := envX os bl dev D.hd } pv v → RV (ctxOf A w (envX os bl dev D.hd)) pv v := fun h => h.le ⟨Nat.le_refl _, fun b hlt ho => ⟨⟨.inl ho, fun x ver hd hx hb => by
      unfold envX at hx
      cases hx2 : extX os bl dev D.hd x with
      | none => rw [hx2] at hx; cases hx
      | some h =>
        rw [hx2] at hx
        cases hx
        rcases hext x _ hx2 with ⟨h3, rfl⟩ | ⟨_, rfl, _⟩
        · obtain ⟨o, h4, rfl⟩ := hasOb_mem h3
          have := hblk_boxAt hb
          subst this
          exact (hold _ (.inr ⟨o, h4, rfl⟩)).2 ho
        · rw [D.noBlk] at hb; cases hb⟩, rfl⟩, fun x ver hd h => ⟨ver, hd, h, Nat.le_refl _, fun _ => rfl⟩⟩
  have hg : Gam A ⟨slots 0 args, headO os D.O dev stp⟩ { tmps := vs.toArray ++ Array.replicate (fn.ntmps - vs.toArray.size) undef, defers := [] } w := by
    refine ⟨envX os bl dev D.hd, { chg := Chg.refl _ _, size := ?_, dom := fun x hx => ?_, objs := fun x g ver o h => ?_, live := fun x ver hd b h hb => ?_, inj := fun x y v1 h1 v2 h2 b hx hy hb1 hb2 => ?_, tmps := fun t g pv h hgt => ?_, defers := rfl, und := fun t pv h => (by obtain ⟨k, _, h2⟩ := find_slotsG h; cases h2), exts := fun x hd hx => ?_, dev := fun g ver O stp' l h _ => ?_ }⟩
    · simp [A]; omega
    · unfold envX extX
      have h1 : hasOb os x = false := by
        unfold headO at hx
        cases hd : dev with
        | none => rw [hd] at hx; exact find_obs_none hx
        | some q =>
          rw [hd] at hx
          by_cases hdx : dx = x
          · subst hdx; exact hdxo
          · rw [find_cons_ne _ _ hdx] at hx; exact find_obs_none hx
      rw [h1]
      cases hd : dev with
      | none => rfl
      | some q =>
        have : Nat.beq x dx = false := by
          cases hb : Nat.beq x dx with
          | false => rfl
          | true =>
            obtain rfl := beqT hb
            unfold headO at hx
            rw [hd, find_cons_eq] at hx
            cases hx
        rw [this]
        rfl
    · rcases hhead x _ h with ⟨ob, h1, rfl, h2⟩ | ⟨rfl, q, h1, h2⟩
      · cases h2
        obtain ⟨_, cs, h3, h4⟩ := hob ob h1
        refine ⟨boxAt (bl ob.x), henv ob h1, fun _ => ⟨_, cs, rfl, h3, ?_⟩⟩
        refine h4.le ⟨Nat.le_refl _, fun b hlt hok => ⟨⟨.inl hok, fun x ver hd hx hb => ?_⟩, rfl⟩, fun _ _ _ h => by cases h⟩
        have hx' : envX os bl dev D.hd x = some (ver, hd) := hx
        unfold envX at hx'
        cases hx2 : extX os bl dev D.hd x with
        | none => rw [hx2] at hx'; cases hx'
        | some h =>
          rw [hx2] at hx'
          cases hx'
          rcases hext x _ hx2 with ⟨h5, rfl⟩ | ⟨_, rfl, _⟩
          · obtain ⟨o, h6, rfl⟩ := hasOb_mem h5
            have := hblk_boxAt hb
            subst this
            exact (hold _ (.inr ⟨o, h6, rfl⟩)).2 hok
          · rw [D.noBlk] at hb; cases hb
      · cases h2
        refine ⟨D.hd, ?_, fun _ => trivial⟩
        unfold envX extX
        rw [hdxo, h1]
        rfl
    · unfold envX at h
      cases hx2 : extX os bl dev D.hd x with
      | none => rw [hx2] at h; cases h
      | some h' =>
        rw [hx2] at h
        cases h
        rcases hext x _ hx2 with ⟨h3, rfl⟩ | ⟨_, rfl, _⟩
        · obtain ⟨o, h4, rfl⟩ := hasOb_mem h3
          have := hblk_boxAt hb
          subst this
          exact ⟨(hold _ (.inr ⟨o, h4, rfl⟩)).1, .inr ⟨.inr ⟨o, h4, rfl⟩, Nat.ble_eq_true_of_le (Nat.le_of_lt (hgt o h4))⟩⟩
        · rw [D.noBlk] at hb; cases hb
    · unfold envX at hx hy
      cases hx2 : extX os bl dev D.hd x with
      | none => rw [hx2] at hx; cases hx
      | some hx3 =>
        cases hy2 : extX os bl dev D.hd y with
        | none => rw [hy2] at hy; cases hy
        | some hy3 =>
          rw [hx2] at hx
          rw [hy2] at hy
          cases hx
          cases hy
          rcases hext x _ hx2 with ⟨h3, rfl⟩ | ⟨_, rfl, _⟩
          · rcases hext y _ hy2 with ⟨h4, rfl⟩ | ⟨_, rfl, _⟩
            · obtain ⟨o, h5, rfl⟩ := hasOb_mem h3
              obtain ⟨o', h6, rfl⟩ := hasOb_mem h4
              refine hinj o h5 o' h6 ?_
              rw [← hblk_boxAt hb1, ← hblk_boxAt hb2]
            · rw [D.noBlk] at hb2; cases hb2
          · rw [D.noBlk] at hb1; cases hb1
    · obtain ⟨k, h1, h2⟩ := find_slots h
      obtain ⟨v, h3, h4⟩ := hv.at h2
      rw [Nat.zero_add] at h1
      subst h1
      have hk : t < vs.length := (List.getElem?_eq_some_iff.1 h3).1
      refine ⟨v, ?_, hle0 h4⟩
      rw [Array.getElem?_append_left (by simpa using hk)]
      simpa using h3
    · refine ⟨?_, 0, hd, ?_, Nat.le_refl _, fun _ => rfl⟩
      · rcases hext x hd hx with ⟨h3, _⟩ | ⟨rfl, _, _⟩
        · obtain ⟨o, h4, rfl⟩ := hasOb_mem h3
          exact Nat.ble_eq_true_of_le (Nat.le_of_lt (hgt o h4))
        · exact Nat.ble_eq_true_of_le (Nat.le_refl _)
      · show envX os bl dev D.hd x = some (0, hd)
        unfold envX
        have : extX os bl dev D.hd x = some hd := hx
        rw [this]
        rfl
    · rcases hhead dx _ h with ⟨ob, h1, h2, _⟩ | ⟨_, q, h1, h2⟩
      · have := hgt ob h1; omega
      · cases h2
        exact ⟨rfl, rfl, D.grow _ _ _ _ _ (hdv q h1) (Chg.refl _ _) (fun b hb => .inl (hown b hb))⟩
  refine calls_of_wp hf hb (wp_mono (hT A rfl hA _ w hg (fun _ _ _ hd h => ⟨hd, h⟩)) (fun e a' w' he => ?_))
  cases e with
  | panic chain =>
    obtain ⟨hd, l, h1, h2, h3, h4⟩ := he
    exact ⟨hd, h4, .inr ⟨chain, l, rfl, h1, h2, h3⟩⟩
  | exit id => obtain ⟨h1 | h1, _⟩ := he <;> cases h1
  | goto _ => obtain ⟨h1 | h1, _⟩ := he <;> cases h1
  | outgrown => obtain ⟨h1 | h1, _⟩ := he <;> cases h1
  | normal | ret =>
    obtain ⟨_, s, ⟨⟨v, h2, h3⟩, hE1, hE2⟩, env, hE⟩ := he
    obtain ⟨v', val, h5, h6, h7, _⟩ := retM_ok hE h2
    subst h7
    have hbox : ∀ o ∈ os, env o.x = some (0, boxAt (bl o.x)) := fun o ho => by
      obtain ⟨l, hf', _⟩ := hE1 o ho
      obtain ⟨hd, h8, _⟩ := hE.objs o.x none 0 _ hf'
      have h9 : extX os bl dev D.hd o.x = some (boxAt (bl o.x)) := by unfold extX; rw [mem_hasOb ho]
      have := (hE.exts o.x _ h9).2.now h8
      rw [h8, this]
    have hS : OwnS A s env := by
      intro x g ver e n len f0 hd b hfx hex hbx hs
      rcases hs with hs | ⟨o, ho, rfl⟩
      · cases hd2 : dev with
        | none => exact (hnd hd2).1 b hs
        | some q =>
          obtain ⟨_, _, hi⟩ := hE.dev none 0 _ _ _ (hE2 q hd2) trivial
          exact D.notS _ _ _ _ hi (.inr ⟨x, ver, hd, hex, hbx⟩) hs
      · obtain ⟨l, hf', _⟩ := hE1 o ho
        have := hE.inj x o.x ver hd 0 _ (bl o.x) hex (hbox o ho) hbx rfl
        subst this
        rw [hf'] at hfx
        cases hfx
    have hres := exV_ok hE hS h3 h6
    have this : a'.defers = [] ∧ ∃ v, (results fn a'.tmps).run P w' = .ok v w' ∧ (Chg (SX os bl D) w w' ∧
      ((∃ val, Ending.returned v = .returned val ∧ RV { w := w', ok := okRes w ok0 new, env := fun _ => none } res val ∧ (∀ o ∈ os, ∃ cs, Blk w' (bl o.x) o.t cs ∧ RL { w := w', ok := okRes w ok0 new, env := fun _ => none } o.l' cs.toList) ∧ (∀ p, dev = some p → D.inv p.2 X0 w'))
      ∨ (∃ chain l, Ending.returned v = .panicked chain ∧ stp l ∧ D.O l = none ∧ D.pan l X0 w' chain))) := by
      refine ⟨hE.defers, val, h5, hE.chg, .inl ⟨val, rfl, hres, fun o ho => ?_, fun p hp => ?_⟩⟩
      · obtain ⟨l, hf', hx⟩ := hE1 o ho
        obtain ⟨hd, h8, h9⟩ := hE.objs o.x none 0 _ hf'
        obtain ⟨g, cs, e1, h10, h11⟩ := h9 trivial
        rw [hbox o ho] at h8
        cases h8
        cases e1
        exact ⟨cs, h10, exL_ok hE hS hx h11⟩
      · obtain ⟨_, _, hi⟩ := hE.dev none 0 _ _ _ (hE2 p hp) trivial
        exact D.grow _ _ _ _ _ hi (Chg.refl _ _) (fun b hb => .inl (.inl hb))
    exact this
end Go.Proofs.YtihghljfmlbfhaaDoor.Pv


namespace Go.Proofs.YtihghljfmlbfhaaDoor.Pv
open Go.RowKit
def px : Nat := 900001
def anyL (l : List PC) : Option (List PC) := match l.all (fun c => Nat.beq c.width 1) with
  | true => some (l.map fun _ => .any)
  | false => none
def argC : PC → Option PC
  | .lit v => some (.lit v)
  | .bs n l => some (.bs n l)
  | .sl n len f => some (.sl n len f)
  | .fn f first cap => match anyL first, anyL cap with
    | some a, some b => some (.fn f a b)
    | _, _ => none
  | .pt _ _ _ => some .any
  | .any => some .any
  | _ => none
def argL : List PC → Option (List PC)
  | [] => some []
  | c :: l => match argC c, argL l with
    | some c, some l => some (c :: l)
    | _, _ => none
def argV : PV → Option PV
  | .w (.one c) => match argC c with
    | some c => some (.w (.one c))
    | none => none
  | .w (.agg l) => match argL l with
    | some l => some (.w (.agg l))
    | none => none
  | _ => none
def argVs : List PV → Option (List PV)
  | [] => some []
  | v :: l => match argV v, argVs l with
    | some v, some l => some (v :: l)
    | _, _ => none
theorem anyL_ok {C C' : Ctx} : ∀ {l : List PC} {xs : List Value}, RL C l xs → (l.all fun c => Nat.beq c.width 1) = true → RL C' (l.map fun _ => .any) xs
  | [], _, h, _ => by cases h; exact .nil
  | c :: l, _, h, hc => by
    rw [List.all_cons, Bool.and_eq_true] at hc
    cases h with
    | @cons _ _ _ xs ys h1 h2 =>
      have hw := h1.width
      rw [beqT hc.1] at hw
      match xs, hw, h1 with
      | [v], _, h1 => exact .cons (xs := [v]) (.any (h1.ones v (by simp))) (anyL_ok h2 hc.2)
theorem argC_ok {C C' : Ctx} (hle : C.cold.Le C') {c c' : PC} {xs : List Value} (h : argC c = some c') (hr : R C c xs) : R C' c' xs := by
  unfold argC at h
  split at h
  · cases h; cases hr; exact .lit (by assumption)
  · cases h; cases hr; exact .bs (by assumption)
  · cases h
    exact (coldPC_le hr rfl).le hle
  · rename_i f first cap
    unfold anyL at h
    cases h1 : first.all fun c => Nat.beq c.width 1 <;> cases h2 : cap.all fun c => Nat.beq c.width 1 <;> simp only [h1, h2] at h <;> try (cases h; done)
    cases h
    cases hr with
    | fn h3 h4 => exact .fn (anyL_ok h3 h1) (anyL_ok h4 h2)
  · cases h
    cases hr with
    | pt h1 _ => obtain ⟨b, o, rfl⟩ := h1; exact .any rfl
  · cases h; cases hr; exact .any (by assumption)
  · cases h
theorem argL_ok {C C' : Ctx} (hle : C.cold.Le C') : ∀ {l l' : List PC} {xs : List Value}, argL l = some l' → RL C l xs → RL C' l' xs
  | [], _, _, h, hr => by simp only [argL, Option.some.injEq] at h; subst h; cases hr; exact .nil
  | c :: l, _, _, h, hr => by
    unfold argL at h
    cases h1 : argC c <;> cases h2 : argL l <;> simp only [h1, h2] at h <;> try (cases h; done)
    cases h
    cases hr with
    | cons h3 h4 => exact .cons (argC_ok hle h1 h3) (argL_ok hle h2 h4)
theorem argV_ok {C C' : Ctx} (hle : C.cold.Le C') {v v' : PV} {x : Value} (h : argV v = some v') (hr : RV C v x) : RV C' v' x := by
  unfold argV at h
  split at h
  · rename_i c
    cases h1 : argC c <;> simp only [h1] at h <;> try (cases h; done)
    cases h
    exact .w (.one (argC_ok hle h1 hr.inv))
  · rename_i l
    cases h1 : argL l <;> simp only [h1] at h <;> try (cases h; done)
    cases h
    cases hr with
    | w hr => cases hr with
      | agg hr => exact .w (.agg (argL_ok hle h1 hr))
  · cases h
theorem argVs_ok {C C' : Ctx} (hle : C.cold.Le C') : ∀ {vs vs' : List PV} {l : List Value}, argVs vs = some vs' → Vals C vs l → Vals C' vs' l
  | [], _, [], h, _ => by simp only [argVs, Option.some.injEq] at h; subst h; exact trivial
  | [], _, _ :: _, _, h => h.elim
  | _ :: _, _, [], _, h => h.elim
  | v :: vs, _, x :: l, h, ⟨h1, h2⟩ => by
    unfold argVs at h
    cases h3 : argV v <;> cases h4 : argVs vs <;> simp only [h3, h4] at h <;> try (cases h; done)
    cases h
    exact ⟨argV_ok hle h3 h1, argVs_ok hle h4 h2⟩
section
variable {P : Program} {I : World → Prop} {A : Amb} {s : St} {a : Act} {w : World} {env : Env} {F : Option Bool → PV → Wr → Prop}
theorem cold_to {e : Env} : (ctxOf A w env).cold.Le { w, ok := (ctxOf A w env).ok, env := e } := ⟨Nat.le_refl _, fun b _ hb => ⟨hb, rfl⟩, fun _ _ _ h => by cases h⟩
theorem res_leX (h : GamE A s a w env) {w' : World} (_ : w.heap.size ≤ w'.heap.size) {new : Bool} : ({ w := w', ok := okRes w (ctxOf A w env).ok new, env := fun _ => none } : Ctx).Le (ctxOf A w' env) :=
  ⟨Nat.le_refl _, fun b _ hb => ⟨(by
    rcases hb with ⟨_, hb⟩ | hb
    · exact hb
    · exact ⟨.inr (Nat.le_trans h.chg.size hb), fun x ver hd he hbl => by have := (h.live x ver hd b he hbl).1; omega⟩), rfl⟩, fun _ _ _ h => by cases h⟩
def ptSpec (t : TypeId) (g : List PC → List PV → Option (Prop × List PC × PV)) : Spec := fun _ xs => match xs with
  | .w (.one (.pt x ver off)) :: rest => (match Nat.beq off 0, argVs rest with
    | true, some ys => .obj x fun gd vr ob => guardT gd (match Nat.beq ver vr, ob with
      | true, .box t' l => (match Nat.beq t t', l.all (coldPC false), g l ys with
        | true, true, some (p, l', r) => .need p (.upd x vr (.box t l') (.ret r))
        | _, _, _ => .fail)
      | _, _ => .fail)
    | _, _ => .fail)
  | _ => .fail
theorem ptSpec_ok {f : Nat} {t : TypeId} {g : List PC → List PV → Option (Prop × List PC × PV)} (hent : ∀ args w, (callFunc f args).run P w = .ok (.enter f args) w)
    (hg : ∀ l ys p l' r, g l ys = some (p, l', r) → p → FunX P I f false [⟨px, t, l, l'⟩] (fun _ => none) none (fun _ => False) (.w (.one (.pt px 0 0)) :: ys) r) : SpecOk P I f (ptSpec t g) := by
  refine ⟨hent, fun A s a w env nm pvs vs F h hI hv hk => ?_⟩
  unfold ptSpec at hk
  split at hk
  · rename_i x ver off rest
    cases hb : Nat.beq off 0 <;> cases hr : argVs rest <;> simp only [hb, hr] at hk <;> try exact hk.elim
    rename_i ys
    obtain rfl := beqT hb
    obtain ⟨gd, vr, ob, hfo, hk⟩ := hk
    have hk2 := guardT_ok hk
    clear hk
    obtain ⟨hgt, hk⟩ := hk2
    obtain ⟨hd, he, hob⟩ := obj_at h hfo hgt
    cases hb2 : Nat.beq ver vr <;> cases ob <;> simp only [hb2] at hk <;> try exact hk.elim
    rename_i t' l
    obtain rfl := beqT hb2
    cases hb3 : Nat.beq t t' <;> cases hc : l.all (coldPC false) <;> cases hq : g l ys <;> simp only [hb3, hc, hq] at hk <;> try exact hk.elim
    rename_i q
    obtain ⟨p, l', r⟩ := q
    obtain rfl := beqT hb3
    obtain ⟨hp, _, hF⟩ := hk
    match vs, hv with
    | v :: vs, ⟨hv1, hv2⟩ =>
      obtain ⟨g0, rfl, rfl⟩ := hv1.pt_inv he
      obtain ⟨g1, cs, e1, hB, hR⟩ := hob
      cases e1
      have hlt : g0 < w.heap.size := hB.lt
      have hSX : ∀ b, SX [⟨px, t, l, l'⟩] (fun _ => g0) Dv.non b → b = g0 := by
        rintro b (h | ⟨o, ho, rfl⟩)
        · exact h.elim
        · rfl
      have hSA : ∀ b, SX [⟨px, t, l, l'⟩] (fun _ => g0) Dv.non b → b < A.w0.heap.size → A.S b := fun b hb hlt0 => by
        rw [hSX b hb] at hlt0 ⊢
        rcases (h.live x ver _ g0 he rfl).2 with h1 | h1
        · omega
        · exact h1.1
      have hSg : SX [⟨px, t, l, l'⟩] (fun _ => g0) Dv.non g0 := .inr ⟨_, List.mem_cons_self, rfl⟩
      have hnok : ¬ (ctxOf A w env).ok g0 := fun hok => hok.2 x ver _ he rfl
      refine (hg l ys p l' r hq hp w (ctxOf A w env).ok (boxAt g0 :: vs) (fun _ => g0) Dv.non (fun b => b = g0)
        (fun w' hw => hI.mem w' (h.chg.trans' hw (fun _ _ h => h) (fun b hlt0 hb => hSA b hb hlt0)))
        (fun b hb => by rw [hSX b hb]; exact ⟨hlt, hnok⟩) (DvStep.non P) (fun _ _ _ _ _ _ h => h.elim) rfl (fun p hp => by cases hp) (fun _ => ⟨fun _ h => h, fun _ _ _ h => h⟩)
        (fun o ho => by
          obtain rfl : o = ⟨px, t, l, l'⟩ := by simpa using ho
          exact ⟨rfl, cs, hB, coldPL_le hR hc⟩)
        (fun o ho o' ho' _ => by
          obtain rfl : o = ⟨px, t, l, l'⟩ := by simpa using ho
          obtain rfl : o' = ⟨px, t, l, l'⟩ := by simpa using ho'
          rfl)
        ⟨.w (.one (.pt ⟨g0, 0, rfl⟩ ⟨0, boxAt g0, rfl, Nat.le_refl _, fun _ => ⟨g0, rfl, rfl⟩⟩)), argVs_ok cold_to hr hv2⟩).mono ?_
      rintro e w' ⟨hw, ⟨val, rfl, hres, hbx, _⟩ | ⟨chain, l2, rfl, h1, _⟩⟩
      · obtain ⟨cs', hB', hR'⟩ := hbx _ List.mem_cons_self
        obtain ⟨h1, h2⟩ := h.upd (w' := w') x none ver (boxAt g0) (.box t l') (hw.mono fun b _ hb => ⟨ver, _, he, by rw [hSX b hb]; rfl⟩) (fun v hd e => by rw [he] at e; cases e; exact .inr ⟨rfl, rfl⟩)
          (fun b hb => by cases hb; exact ⟨Nat.lt_of_lt_of_le hlt hw.size, .inr ⟨ver, _, he, rfl⟩⟩)
          (fun hle _ => ⟨g0, cs', rfl, hB', (hR'.le (res_leX h hw.size)).le ⟨Nat.le_refl _, fun b _ hb => ⟨⟨hb.1, fun y v2 hd2 hy => by
            by_cases hyx : y = x
            · subst hyx
              have hy' : updE env y ver (boxAt g0) y = some (v2, hd2) := hy
              rw [updE_eq] at hy'
              cases hy'
              exact hb.2 y ver _ he
            · have hy' : updE env x ver (boxAt g0) y = some (v2, hd2) := hy
              rw [updE_ne hyx] at hy'
              exact hb.2 y v2 hd2 hy'⟩, rfl⟩, fun y v2 hd2 hy => by
            by_cases hyx : y = x
            · subst hyx
              have hy' : env y = some (v2, hd2) := hy
              rw [he] at hy'
              cases hy'
              exact ⟨ver, _, updE_eq _ _ _ _, Nat.le_refl _, fun _ => rfl⟩
            · exact ⟨v2, hd2, (updE_ne hyx).trans hy, Nat.le_refl _, fun _ => rfl⟩⟩⟩)
        exact .inl ⟨r, _, val, _, rfl, hF, h1, (hres.le (res_leX h hw.size)).le ⟨Nat.le_refl _, fun b _ hb => ⟨⟨hb.1, fun y v2 hd2 hy => by
            by_cases hyx : y = x
            · subst hyx
              have hy' : updE env y ver (boxAt g0) y = some (v2, hd2) := hy
              rw [updE_eq] at hy'
              cases hy'
              exact hb.2 y ver _ he
            · have hy' : updE env x ver (boxAt g0) y = some (v2, hd2) := hy
              rw [updE_ne hyx] at hy'
              exact hb.2 y v2 hd2 hy'⟩, rfl⟩, fun y v2 hd2 hy => by
            by_cases hyx : y = x
            · subst hyx
              have hy' : env y = some (v2, hd2) := hy
              rw [he] at hy'
              cases hy'
              exact ⟨ver, _, updE_eq _ _ _ _, Nat.le_refl _, fun _ => rfl⟩
            · exact ⟨v2, hd2, (updE_ne hyx).trans hy, Nat.le_refl _, fun _ => rfl⟩⟩⟩
      · exact h1.elim
  · exact hk.elim
def devSpec (hist : (List Acc → Option Res) → List Acc → List PV → List Acc) (res : (List Acc → Option Res) → List Acc → List PV → Option (Prop × PV)) : Spec := fun _ xs => match xs with
  | .w (.one .dv) :: rest => (match argVs rest with
    | some ys => .obj dx fun g vr ob => guardT g (match Nat.beq vr 0, ob with
      | true, .dev O stp l => (match res O l ys with
        | some (p, r) => .need p (.need (∀ h, l <+: h → h <+: hist O l ys → O h = none → stp h) (.upd dx 0 (.dev O stp (hist O l ys)) (.ret r)))
        | none => .fail)
      | _, _ => .fail)
    | none => .fail)
  | _ => .fail
theorem devSpec_ok {f : Nat} {hist : (List Acc → Option Res) → List Acc → List PV → List Acc} {res : (List Acc → Option Res) → List Acc → List PV → Option (Prop × PV)} (hent : ∀ args w, (callFunc f args).run P w = .ok (.enter f args) w)
    (hg : ∀ O l ys p r, res O l ys = some (p, r) → p → FunX P I f false [] O (some (l, hist O l ys)) (fun h => l <+: h ∧ h <+: hist O l ys) (.w (.one .dv) :: ys) r) : SpecOk P I f (devSpec hist res) := by
  refine ⟨hent, fun A s a w env nm pvs vs F h hI hv hk => ?_⟩
  unfold devSpec at hk
  split at hk
  · rename_i rest
    cases hr : argVs rest with
    | none => rw [hr] at hk; exact hk.elim
    | some ys =>
      rw [hr] at hk
      obtain ⟨gd, vr, ob, hfo, hk⟩ := hk
      have hk2 := guardT_ok hk
      clear hk
      obtain ⟨hgt, hk⟩ := hk2
      cases hb2 : Nat.beq vr 0 <;> cases ob <;> simp only [hb2] at hk <;> try exact hk.elim
      rename_i O stp l
      obtain rfl := beqT hb2
      cases hq : res O l ys with
      | none => rw [hq] at hk; exact hk.elim
      | some q =>
        obtain ⟨p, r⟩ := q
        rw [hq] at hk
        obtain ⟨hp, hst, _, hF⟩ := hk
        obtain ⟨hO, hstp, hinv⟩ := h.dev gd 0 O stp l hfo hgt
        subst hO hstp
        have hext := hI.dvh _ _ _ hinv
        obtain ⟨hd, he, _⟩ := h.objs dx gd 0 _ hfo
        obtain rfl := (h.exts dx _ hext).2.now he
        match vs, hv with
        | v :: vs, ⟨hv1, hv2⟩ =>
          have hva : v = A.dv.hd := hv1.dv_inv.now he
          have hSX : ∀ b, SX [] (fun _ => 0) A.dv b → A.dv.S b := by
            rintro b (h | ⟨o, ho, rfl⟩)
            · exact h
            · cases ho
          refine (hg A.dv.O l ys p r hq hp w (ctxOf A w env).ok (v :: vs) (fun _ => 0) A.dv (ownB A env)
            (fun w' hw => hI.mem w' (h.chg.trans' hw (fun _ _ h => h) (fun b _ hb => hI.sub b (hSX b hb))))
            (fun b hb => by
              have h1 := hI.old b (hI.sub b (hSX b hb))
              refine ⟨Nat.lt_of_lt_of_le h1.1 h.chg.size, fun hok => ?_⟩
              rcases hok.1 with h2 | h2
              · exact h1.2 h2
              · omega)
            (hI.step.mono fun l2 h1 h2 => hst l2 h1.1 h1.2 h2) hI.panW rfl (fun p hp => by cases hp; exact hinv) (fun h => by cases h) (fun o ho => by cases ho) (fun o ho => by cases ho)
            ⟨.w (.one (.dv (by rw [hva]; exact A.dv.one) ⟨0, A.dv.hd, rfl, Nat.le_refl _, fun _ => hva⟩)), argVs_ok cold_to hr hv2⟩).mono ?_
          rintro e w' ⟨hw, ⟨val, rfl, hres, _, hdv⟩ | ⟨chain, l2, rfl, h1, h2, h3⟩⟩
          · obtain ⟨h4, h5⟩ := h.asked (w' := w') hfo hgt hI.sub (fun b hb => hI.old b (hI.sub b hb)) (hw.mono fun b _ hb => hSX b hb) (hdv _ rfl)
            exact .inl ⟨r, _, val, env, rfl, hF, h4, hres.le (res_leX h hw.size)⟩
          · exact .inr ⟨chain, rfl, l2, hst l2 h1.1 h1.2 h2, h2, hI.panW _ _ _ _ _ _ h3 (Chg.refl _ _) (fun b hb => .inl hb), h.chg.trans (hw.mono fun b _ hb => hI.sub b (hSX b hb))⟩
  · exact hk.elim
end
end Go.Proofs.YtihghljfmlbfhaaDoor.Pv


namespace Go.Proofs.YtihghljfmlbfhaaDoor.Pv
open Go.RowKit
section
variable {P : Program} {I : World → Prop} {A : Amb} {s : St} {a : Act} {w w' : World} {env : Env} {F : Option Bool → PV → Wr → Prop}
theorem GamE.many (h : GamE A s a w env) (wr : Wr) (hw : Chg (fun b => ∃ p ∈ wr, ∃ hd, env p.1 = some (p.2.2.1, hd) ∧ hblk hd = some b) w w')
    (hwr : ∀ p ∈ wr, p.2.1 = none ∧ (∀ O stp l, p.2.2.2 ≠ .dev O stp l) ∧ ∃ hd, env p.1 = some (p.2.2.1, hd) ∧ ((ctxOf A w env).Le (ctxOf A w' env) → ObjOk (ctxOf A w' env) hd p.2.2.2)) :
    GamE A { s with o := wr ++ s.o } a w' env ∧ (ctxOf A w env).Le (ctxOf A w' env) := by
  have hle : (ctxOf A w env).Le (ctxOf A w' env) := ⟨hw.size, fun b hlt hok => ⟨hok, hw.block b hlt (fun ⟨p, _, hd, h1, h2⟩ => hok.2 _ _ _ h1 h2)⟩, fun x ver hd hx => ⟨ver, hd, hx, Nat.le_refl _, fun _ => rfl⟩⟩
  have hfind : ∀ (l : Wr) x, (∃ p ∈ l, p.1 = x ∧ find (l ++ s.o) x = some p.2) ∨ ((∀ p ∈ l, p.1 ≠ x) ∧ find (l ++ s.o) x = find s.o x) := by
    intro l x
    induction l with
    | nil => exact .inr ⟨(fun p hp => by cases hp), rfl⟩
    | cons p l ih =>
      by_cases hp : p.1 = x
      · exact .inl ⟨p, List.mem_cons_self, hp, by rw [← hp]; exact find_cons_eq _ _ _⟩
      · have e : find (p :: l ++ s.o) x = find (l ++ s.o) x := find_cons_ne _ _ hp
        rcases ih with ⟨q, h1, h2, h3⟩ | ⟨h1, h2⟩
        · exact .inl ⟨q, List.mem_cons_of_mem _ h1, h2, e.trans h3⟩
        · refine .inr ⟨fun q hq => ?_, e.trans h2⟩
          rcases List.mem_cons.1 hq with rfl | hq
          · exact hp
          · exact h1 q hq
  refine ⟨{ chg := ?_, size := h.size, dom := fun x hx => ?_, objs := fun x g ver o hf => ?_, live := fun x ver hd b h1 h2 => ⟨Nat.lt_of_lt_of_le (h.live x ver hd b h1 h2).1 hw.size, (h.live x ver hd b h1 h2).2⟩, inj := h.inj, tmps := fun t g pv hf hg => let ⟨v, h1, h2⟩ := h.tmps t g pv hf hg; ⟨v, h1, h2.le hle⟩, defers := h.defers, und := h.und, exts := fun y hd hy => ⟨(h.exts y hd hy).1, (h.exts y hd hy).2.le hle⟩, dev := fun g ver O stp l hf hg => ?_ }, hle⟩
  · refine h.chg.trans' hw (fun _ _ h => h) (fun i hi ⟨p, _, hd, h1, h2⟩ => ?_)
    rcases (h.live _ _ hd i h1 h2).2 with h3 | h3
    · omega
    · exact h3.1
  · rcases hfind wr x with ⟨p, _, _, h3⟩ | ⟨_, h2⟩
    · have hx' : find (wr ++ s.o) x = none := hx
      rw [h3] at hx'; cases hx'
    · exact h.dom x (h2.symm.trans hx)
  · have hf' : find (wr ++ s.o) x = some (g, ver, o) := hf
    rcases hfind wr x with ⟨p, h1, h2, h3⟩ | ⟨h1, h2⟩
    · rw [h3] at hf'
      obtain ⟨k1, _, hd, k2, k3⟩ := hwr p h1
      obtain ⟨x', g', vr, ob⟩ := p
      dsimp only at k1 k2 k3 h2
      subst h2
      cases hf'
      exact ⟨hd, k2, fun _ => k3 hle⟩
    · rw [h2] at hf'
      obtain ⟨hd, h3, h4⟩ := h.objs x g ver o hf'
      exact ⟨hd, h3, fun hg => (h4 hg).le_same hle (fun b hbl hlt => hw.block b hlt (fun ⟨p, hp, hd2, h5, h6⟩ => h1 p hp (h.inj p.1 x _ hd2 ver hd b h5 h3 h6 hbl)))⟩
  · have hf' : find (wr ++ s.o) dx = some (g, ver, .dev O stp l) := hf
    rcases hfind wr dx with ⟨p, h1, h2, h3⟩ | ⟨h1, h2⟩
    · rw [h3] at hf'
      obtain ⟨_, k1, _⟩ := hwr p h1
      obtain ⟨x', g', vr, ob⟩ := p
      cases hf'
      exact absurd rfl (k1 O stp l)
    · rw [h2] at hf'
      obtain ⟨k1, k2, k3⟩ := h.dev g ver O stp l hf' hg
      exact ⟨k1, k2, A.dv.grow _ _ _ _ _ k3 (hw.mono fun k _ ⟨p, _, hd, e1, e2⟩ => .inr ⟨p.1, _, hd, e1, e2⟩) (fun b hb => .inl hb)⟩
structure Gv where
  x : Nat
  vr : Nat
  t : TypeId
  l : List PC
end
end Go.Proofs.YtihghljfmlbfhaaDoor.Pv


namespace Go.Proofs.YtihghljfmlbfhaaDoor
open Go.RowKit
def nonzero (l : List Int) : Nat := (l.filter (fun n => n != 0)).length
def majorityB (l : List Int) : Bool := decide (l.length < 2 * nonzero l)
def Prg.fuse (a b : Int) : Prg Int := .ask ⟨1, a, b, noBytes⟩ fun r => .ret r.val
def Prg.pulse (a b : Int) : Prg Unit := .ask ⟨2, a, b, noBytes⟩ fun _ => .ret ()
def Prg.read (bank bit : Int) : Prg Bool :=
  (Prg.fuse bank (3 * bit + 0)).bind fun a => (Prg.fuse bank (3 * bit + 1)).bind fun b => (Prg.fuse bank (3 * bit + 2)).bind fun c => .ret (majorityB [a, b, c])
def Prg.pulses (bank bit : Int) : Prg Unit :=
  (Prg.pulse bank (3 * bit + 0)).bind fun _ => (Prg.pulse bank (3 * bit + 1)).bind fun _ => (Prg.pulse bank (3 * bit + 2)).bind fun _ => .ret ()
def Prg.up (bank : Int) : Nat → Nat → Prg Nat
  | 0, n => .ret n
  | f + 1, n => (Prg.read bank n).bind fun b => if b then Prg.up bank f (n + 1) else .ret n
def Prg.down (bank : Int) : Nat → Nat → Prg Unit
  | 0, _ => .ret ()
  | r + 1, b => (Prg.pulses bank b).bind fun _ => Prg.down bank r (b + 1)
def Prg.levelOf (bank : Int) (bits : Nat) : Prg Nat := (Prg.up bank bits 0).bind fun n => (Prg.down bank n 0).bind fun _ => .ret n
def Prg.raiseFrom (bank : Int) : Nat → Nat → Prg (Nat × Int)
  | 0, n => .ret (n, 0)
  | f + 1, n => (Prg.pulses bank n).bind fun _ => (Prg.read bank n).bind fun b => if b then Prg.raiseFrom bank f (n + 1) else .ret (n, 12)
def Prg.raiseTo (bank : Int) (bits target : Nat) : Prg (Nat × Int) := (Prg.levelOf bank bits).bind fun n => Prg.raiseFrom bank (target - n) n
def fuseBit (x : Int) (noise : Bool) : Int := if x = 2 ∨ (x = 1 ∧ noise = true) then 1 else 0
def pulsed (x : Int) (cut : Bool) : Int := if x ≤ 1 then (if cut then 1 else 2) else x
def faultAt (l : List Int) (i : Nat) : Bool × Bool := match l[i]? with | some x => (x % 2 == 1, x / 2 % 2 == 1) | none => (false, false)
def bitOne (cells : List Int) (noise : Bool) (b : Nat) : Bool := decide (2 ≤ fuseBit (cells.getD (3 * b) 0) noise + fuseBit (cells.getD (3 * b + 1) 0) noise + fuseBit (cells.getD (3 * b + 2) 0) noise)
def levelUp (cells : List Int) (noise : Bool) : Nat → Nat → Nat
  | 0, b => b
  | f + 1, b => if bitOne cells noise b then levelUp cells noise f (b + 1) else b
def levelOfCells (cells : List Int) (noise : Bool) : Nat := levelUp cells noise (cells.length / 3) 0
theorem fuseBit_01 (x : Int) (n : Bool) : 0 ≤ fuseBit x n ∧ fuseBit x n ≤ 1 := by unfold fuseBit; split <;> omega
theorem levelUp_no {cells : List Int} {noise : Bool} {f b : Nat} (h : bitOne cells noise b = false) : levelUp cells noise (f + 1) b = b := by simp [levelUp, h]
theorem levelUp_yes {cells : List Int} {noise : Bool} {f b : Nat} (h : bitOne cells noise b = true) : levelUp cells noise (f + 1) b = levelUp cells noise f (b + 1) := by simp [levelUp, h]
def Prg.In {α : Type} (n : Nat) : Prg α → Prop
  | .ret _ => True
  | .ask a k => (a.kind = 1 ∨ a.kind = 2) ∧ a.bank = 2 ∧ 0 ≤ a.cell ∧ a.cell < n ∧ a.bytes = noBytes ∧ ∀ r, Prg.In n (k r)
theorem Prg.In.bind {α β : Type} {n : Nat} {p : Prg α} {f : α → Prg β} (h : Prg.In n p) {R : α → Prop} (ha : Prg.All R p) (hf : ∀ a, R a → Prg.In n (f a)) : Prg.In n (p.bind f) := by
  induction p with
  | ret a => exact hf a ha
  | ask a k ih => exact ⟨h.1, h.2.1, h.2.2.1, h.2.2.2.1, h.2.2.2.2.1, fun r => ih r (h.2.2.2.2.2 r) (ha r)⟩
theorem Prg.In.bind' {α β : Type} {n : Nat} {p : Prg α} {f : α → Prg β} (h : Prg.In n p) (hf : ∀ a, Prg.In n (f a)) : Prg.In n (p.bind f) := h.bind (Prg.All.triv p) fun a _ => hf a
theorem fuse_in {n b : Nat} (k : Nat) (hb : 3 * b + k < n) : Prg.In n (Prg.fuse 2 (3 * (b : Int) + k)) := ⟨.inl rfl, rfl, by show (0 : Int) ≤ 3 * (b : Int) + k; omega, by show 3 * (b : Int) + k < (n : Int); omega, rfl, fun _ => trivial⟩
theorem pulse_in {n b : Nat} (k : Nat) (hb : 3 * b + k < n) : Prg.In n (Prg.pulse 2 (3 * (b : Int) + k)) := ⟨.inr rfl, rfl, by show (0 : Int) ≤ 3 * (b : Int) + k; omega, by show 3 * (b : Int) + k < (n : Int); omega, rfl, fun _ => trivial⟩
theorem read_in {n b : Nat} (hb : 3 * b + 2 < n) : Prg.In n (Prg.read 2 b) :=
  (fuse_in 0 (by omega)).bind' fun _ => (fuse_in 1 (by omega)).bind' fun _ => (fuse_in 2 (by omega)).bind' fun _ => trivial
theorem pulses_in {n b : Nat} (hb : 3 * b + 2 < n) : Prg.In n (Prg.pulses 2 b) :=
  (pulse_in 0 (by omega)).bind' fun _ => (pulse_in 1 (by omega)).bind' fun _ => (pulse_in 2 (by omega)).bind' fun _ => trivial
theorem up_in {n : Nat} : ∀ (f b : Nat), 3 * (b + f) ≤ n → Prg.In n (Prg.up 2 f b)
  | 0, _, _ => trivial
  | f + 1, b, h => (read_in (by omega)).bind' fun x => by
    cases x with
    | true => exact up_in f (b + 1) (by omega)
    | false => trivial
theorem up_le : ∀ (bank : Int) (f b : Nat), Prg.All (fun m => m ≤ b + f) (Prg.up bank f b)
  | _, 0, b => Nat.le_refl _
  | bank, f + 1, b => (Prg.All.triv (Prg.read bank b)).bind fun x _ => by
    cases x with
    | true => exact (up_le bank f (b + 1)).mono fun a h => by omega
    | false => exact (by omega : b ≤ b + (f + 1))
theorem down_in {n : Nat} : ∀ (r b : Nat), 3 * (b + r) ≤ n → Prg.In n (Prg.down 2 r b)
  | 0, _, _ => trivial
  | r + 1, b, h => (pulses_in (by omega)).bind' fun _ => down_in r (b + 1) (by omega)
theorem levelOf_in (bits : Nat) : Prg.In (3 * bits) (Prg.levelOf 2 bits) :=
  (up_in bits 0 (by omega)).bind (up_le 2 bits 0) fun m h => (down_in m 0 (by omega)).bind' fun _ => trivial
theorem levelOf_all (bank : Int) (bits : Nat) : Prg.All (fun m => m ≤ bits) (Prg.levelOf bank bits) :=
  (up_le bank bits 0).bind fun m h => (Prg.All.triv (Prg.down bank m 0)).bind fun _ _ => by show m ≤ bits; omega
theorem raiseFrom_in {n : Nat} : ∀ (f b : Nat), 3 * (b + f) ≤ n → Prg.In n (Prg.raiseFrom 2 f b)
  | 0, _, _ => trivial
  | f + 1, b, h => (pulses_in (by omega)).bind' fun _ => (read_in (by omega)).bind' fun x => by
    cases x with
    | true => exact raiseFrom_in f (b + 1) (by omega)
    | false => trivial
theorem raiseTo_in (bits target : Nat) (h : target ≤ bits) : Prg.In (3 * bits) (Prg.raiseTo 2 bits target) :=
  (levelOf_in bits).bind (levelOf_all 2 bits) fun m hm => by
    by_cases hmt : m ≤ target
    · exact raiseFrom_in _ _ (by omega)
    · rw [show target - m = 0 from by omega]
      trivial
abbrev cell (c : List Int) (j : Nat) : Int := c.getD j 0
def aftC (a : Acc) (f : Bool × Bool) (cells : List Int) : List Int := if a.kind = 1 then cells else cells.set a.cell.toNat (pulsed (cells.getD a.cell.toNat 0) f.1)
def aftV (a : Acc) (f : Bool × Bool) (cells : List Int) : Int := if a.kind = 1 then fuseBit (cells.getD a.cell.toNat 0) f.2 else 0
def exec {α : Type} (F : List Int) : Prg α → List Int → Nat → Option α × List Int × Nat
  | .ret a, c, i => (some a, c, i)
  | .ask a k, c, i => if (faultAt F i).1 = true then (none, aftC a (faultAt F i) c, i + 1) else exec F (k ⟨aftV a (faultAt F i) c, noBytes⟩) (aftC a (faultAt F i) c) (i + 1)
def Prg.Within {α : Type} : Nat → Prg α → Prop
  | _, .ret _ => True
  | 0, .ask _ _ => False
  | n + 1, .ask _ k => ∀ r, Prg.Within n (k r)
theorem Within.mono {α : Type} {p : Prg α} : ∀ {n m : Nat}, p.Within n → n ≤ m → p.Within m := by
  induction p with
  | ret a => intro n m _ _; cases m <;> trivial
  | ask a k ih =>
    intro n m h hm
    cases n with
    | zero => exact h.elim
    | succ n =>
      cases m with
      | zero => omega
      | succ m => exact fun r => ih r (h r) (by omega)
theorem Within.bind {α β : Type} {p : Prg α} {f : α → Prg β} {m : Nat} : ∀ {n : Nat}, p.Within n → (∀ a, (f a).Within m) → (p.bind f).Within (n + m) := by
  induction p with
  | ret a => intro n _ hf; exact Within.mono (hf a) (by omega)
  | ask a k ih =>
    intro n h hf
    cases n with
    | zero => exact h.elim
    | succ n =>
      rw [show n + 1 + m = (n + m) + 1 from by omega]
      exact fun r => ih r (h r) hf
theorem Within.bindR {α β : Type} {R : α → Prop} {p : Prg α} {f : α → Prg β} {m : Nat} : ∀ {n : Nat}, p.Within n → Prg.All R p → (∀ a, R a → (f a).Within m) → (p.bind f).Within (n + m) := by
  induction p with
  | ret a => intro n _ ha hf; exact Within.mono (hf a ha) (by omega)
  | ask a k ih =>
    intro n h ha hf
    cases n with
    | zero => exact h.elim
    | succ n =>
      rw [show n + 1 + m = (n + m) + 1 from by omega]
      exact fun r => ih r (h r) (ha r) hf
theorem within_fuse (a b : Int) : (Prg.fuse a b).Within 1 := fun _ => trivial
theorem within_pulse (a b : Int) : (Prg.pulse a b).Within 1 := fun _ => trivial
theorem within_read (a b : Int) : (Prg.read a b).Within 3 := Within.bind (m := 2) (within_fuse _ _) fun _ => Within.bind (m := 1) (within_fuse _ _) fun _ => Within.bind (m := 0) (within_fuse _ _) fun _ => trivial
theorem within_pulses (a b : Int) : (Prg.pulses a b).Within 3 := Within.bind (m := 2) (within_pulse _ _) fun _ => Within.bind (m := 1) (within_pulse _ _) fun _ => Within.bind (m := 0) (within_pulse _ _) fun _ => trivial
theorem within_up (a : Int) : ∀ f n, (Prg.up a f n).Within (3 * f)
  | 0, n => trivial
  | f + 1, n => by
    rw [show 3 * (f + 1) = 3 + 3 * f from by omega]
    refine Within.bind (within_read a n) fun b => ?_
    cases b with
    | true => exact within_up a f (n + 1)
    | false => exact Within.mono (n := 0) (show (Prg.ret n : Prg Nat).Within 0 from trivial) (by omega)
theorem within_down (a : Int) : ∀ r b, (Prg.down a r b).Within (3 * r)
  | 0, b => trivial
  | r + 1, b => by
    rw [show 3 * (r + 1) = 3 + 3 * r from by omega]
    exact Within.bind (within_pulses a b) fun _ => within_down a r (b + 1)
theorem within_levelOf (a : Int) (bits : Nat) : (Prg.levelOf a bits).Within (6 * bits) := by
  rw [show 6 * bits = 3 * bits + (3 * bits + 0) from by omega]
  refine Within.bindR (within_up a bits 0) (up_le a bits 0) fun n hn => ?_
  exact Within.bind (Within.mono (within_down a n 0) (by omega)) fun _ => trivial
theorem within_raiseFrom (a : Int) : ∀ f n, (Prg.raiseFrom a f n).Within (6 * f)
  | 0, n => trivial
  | f + 1, n => by
    rw [show 6 * (f + 1) = 3 + (3 + 6 * f) from by omega]
    refine Within.bind (within_pulses a n) fun _ => Within.bind (within_read a n) fun b => ?_
    cases b with
    | true => exact within_raiseFrom a f (n + 1)
    | false => exact Within.mono (n := 0) (show (Prg.ret (n, (12 : Int)) : Prg (Nat × Int)).Within 0 from trivial) (by omega)
theorem within_raiseTo (a : Int) (bits target : Nat) : (Prg.raiseTo a bits target).Within (6 * bits + 6 * target) :=
  Within.bind (within_levelOf a bits) fun n => Within.mono (within_raiseFrom a (target - n) n) (by omega)
theorem exec_bind {α β : Type} (F : List Int) (p : Prg α) (f : α → Prg β) : ∀ c i, exec F (p.bind f) c i = match exec F p c i with | (some a, c', i') => exec F (f a) c' i' | (none, c', i') => (none, c', i') := by
  induction p with
  | ret a => intro c i; rfl
  | ask a k ih =>
    intro c i
    simp only [Prg.bind, exec]
    split
    · rfl
    · exact ih _ _ _
theorem cell_set (c : List Int) (i j : Nat) (v : Int) : cell (c.set i v) j = if i = j ∧ i < c.length then v else cell c j := by
  unfold cell
  rw [List.getD_eq_getElem?_getD, List.getD_eq_getElem?_getD, List.getElem?_set]
  by_cases h : i = j
  · subst h
    by_cases h2 : i < c.length
    · simp [h2]
    · simp [h2]
  · simp [h]
structure Evo (c c' : List Int) : Prop where
  len : c'.length = c.length
  at_ : ∀ j, cell c' j = cell c j ∨ (cell c j ≤ 1 ∧ (cell c' j = 1 ∨ cell c' j = 2))
theorem Evo.refl (c : List Int) : Evo c c := ⟨rfl, fun _ => .inl rfl⟩
theorem Evo.trans {a b c : List Int} (h : Evo a b) (k : Evo b c) : Evo a c := ⟨k.len.trans h.len, fun j => by
  rcases h.at_ j with h1 | ⟨h1, h2⟩ <;> rcases k.at_ j with k1 | ⟨k1, k2⟩ <;> omega⟩
theorem Evo.set (c : List Int) (i : Nat) (cut : Bool) : Evo c (c.set i (pulsed (cell c i) cut)) := ⟨by simp, fun j => by
  rw [cell_set]
  by_cases h : i = j ∧ i < c.length
  · rw [if_pos h, h.1]
    unfold pulsed
    split
    · cases cut
      · exact .inr ⟨by assumption, .inr rfl⟩
      · exact .inr ⟨by assumption, .inl rfl⟩
    · exact .inl rfl
  · rw [if_neg h]; exact .inl rfl⟩
def Val (c : List Int) : Prop := ∀ j, 0 ≤ cell c j ∧ cell c j ≤ 3
theorem Val.evo {c c' : List Int} (h : Val c) (e : Evo c c') : Val c' := fun j => by have := h j; rcases e.at_ j with e1 | e1 <;> omega
def stuckC (c : List Int) (b : Nat) : Nat := (if cell c (3 * b) = 3 then 1 else 0) + (if cell c (3 * b + 1) = 3 then 1 else 0) + (if cell c (3 * b + 2) = 3 then 1 else 0)
theorem Evo.stuck1 {c c' : List Int} (h : Evo c c') (j : Nat) : cell c' j = 3 ↔ cell c j = 3 := by rcases h.at_ j with e1 | e1 <;> omega
theorem Evo.stuck {c c' : List Int} (h : Evo c c') (b : Nat) : stuckC c' b = stuckC c b := by
  unfold stuckC
  simp only [h.stuck1]
theorem fuseBit_mono {x y : Int} (h : y = x ∨ (x ≤ 1 ∧ (y = 1 ∨ y = 2))) : fuseBit x false ≤ fuseBit y false := by
  unfold fuseBit
  rcases h with rfl | ⟨h1, h2⟩
  · omega
  · simp only [Bool.false_eq_true, and_false, or_false]
    rw [if_neg (by omega)]
    split <;> omega
theorem Evo.low {c c' : List Int} (h : Evo c c') {b : Nat} (hb : bitOne c false b = true) : bitOne c' false b = true := by
  unfold bitOne at hb ⊢
  have h0 := fuseBit_mono (h.at_ (3 * b))
  have h1 := fuseBit_mono (h.at_ (3 * b + 1))
  have h2 := fuseBit_mono (h.at_ (3 * b + 2))
  unfold cell at h0 h1 h2
  simp only [decide_eq_true_eq] at hb ⊢
  omega
theorem levelUp_spec (c : List Int) (nz : Bool) : ∀ f n, n ≤ levelUp c nz f n ∧ levelUp c nz f n ≤ n + f ∧ (∀ b, n ≤ b → b < levelUp c nz f n → bitOne c nz b = true) ∧ (levelUp c nz f n < n + f → bitOne c nz (levelUp c nz f n) = false)
  | 0, n => ⟨Nat.le_refl _, Nat.le_refl _, fun b h1 h2 => by unfold levelUp at h2; omega, fun h => by unfold levelUp at h; omega⟩
  | f + 1, n => by
    by_cases hb : bitOne c nz n = true
    · rw [levelUp_yes hb]
      obtain ⟨h1, h2, h3, h4⟩ := levelUp_spec c nz f (n + 1)
      refine ⟨by omega, by omega, fun b hb1 hb2 => ?_, fun h => h4 (by omega)⟩
      by_cases e : b = n
      · rw [e]; exact hb
      · exact h3 b (by omega) hb2
    · have hb' : bitOne c nz n = false := by simpa using hb
      rw [levelUp_no hb']
      exact ⟨Nat.le_refl _, by omega, fun b h1 h2 => by omega, fun _ => hb'⟩
theorem le_levelUp (c : List Int) (nz : Bool) (m : Nat) : ∀ f n, (∀ b, n ≤ b → b < m → bitOne c nz b = true) → m ≤ n + f → m ≤ levelUp c nz f n
  | 0, n, _, h => by unfold levelUp; omega
  | f + 1, n, hb, h => by
    by_cases hn : n < m
    · rw [levelUp_yes (hb n (Nat.le_refl _) hn)]
      exact le_levelUp c nz m f (n + 1) (fun b h1 h2 => hb b (by omega) h2) (by omega)
    · have := (levelUp_spec c nz (f + 1) n).1
      omega
end Go.Proofs.YtihghljfmlbfhaaDoor


namespace Go.Proofs.YtihghljfmlbfhaaDoor.Pv
open Go.RowKit
def ans (O : List Acc → Option Res) (l : List Acc) : Res := (O l).getD ⟨0, noBytes⟩
def go {α : Type} (O : List Acc → Option Res) : Prg α → List Acc → α × List Acc
  | .ret a, l => (a, l)
  | .ask c k, l => go O (k (ans O (l ++ [c]))) (l ++ [c])
theorem go_ret {α : Type} (O : List Acc → Option Res) (a : α) (l : List Acc) : go O (.ret a) l = (a, l) := rfl
theorem go_ask {α : Type} (O : List Acc → Option Res) (c : Acc) (k : Res → Prg α) (l : List Acc) : go O (.ask c k) l = go O (k (ans O (l ++ [c]))) (l ++ [c]) := rfl
theorem go_bind {α β : Type} (O : List Acc → Option Res) (p : Prg α) (f : α → Prg β) : ∀ l, go O (p.bind f) l = go O (f (go O p l).1) (go O p l).2 := by
  induction p with
  | ret a => intro l; rfl
  | ask c k ih => intro l; exact ih _ _
theorem go_pre {α : Type} (O : List Acc → Option Res) (p : Prg α) : ∀ l, l <+: (go O p l).2 := by
  induction p with
  | ret a => intro l; exact List.prefix_refl _
  | ask c k ih => intro l; exact (List.prefix_append l [c]).trans (ih _ _)
theorem go_all {α : Type} {R : α → Prop} (O : List Acc → Option Res) {p : Prg α} (h : Prg.All R p) : ∀ l, R (go O p l).1 := by
  induction p with
  | ret a => intro l; exact h
  | ask c k ih => intro l; exact ih _ (h _) _
def prgSpec {α : Type} (dec : List PV → Option (Prop × Prg α × (α → PV))) : Spec :=
  devSpec (fun O l ys => match dec ys with | some (_, p, _) => (go O p l).2 | none => l) (fun O l ys => match dec ys with | some (c, p, f) => some (c, f (go O p l).1) | none => none)
def FunP (P : Program) (I : World → Prop) (f : Nat) {α : Type} (p : Prg α) (args : List PV) (val : α → PV) : Prop :=
  ∀ O l, FunX P I f false [] O (some (l, (go O p l).2)) (fun h => l <+: h ∧ h <+: (go O p l).2) args (val (go O p l).1)
theorem prgSpec_ok {P : Program} {I : World → Prop} {f : Nat} {α : Type} {dec : List PV → Option (Prop × Prg α × (α → PV))} (hent : ∀ args w, (callFunc f args).run P w = .ok (.enter f args) w)
    (hg : ∀ ys c p v, dec ys = some (c, p, v) → c → FunP P I f p (.w (.one .dv) :: ys) v) : SpecOk P I f (prgSpec dec) := by
  refine devSpec_ok hent (fun O l ys p r hq hp => ?_)
  cases hd : dec ys with
  | none => rw [hd] at hq; cases hq
  | some q =>
    obtain ⟨c, pr, v⟩ := q
    rw [hd] at hq
    cases hq
    exact hg ys _ pr v hd hp O l
theorem pre_ask {H L l : List Acc} {c : Acc} {X : Prop} (h1 : L <+: l) (h2 : l ++ [c] <+: H) : X → L <+: l ++ [c] ∧ l ++ [c] <+: H := fun _ => ⟨h1.trans (List.prefix_append l [c]), h2⟩
theorem pre_self (l : List Acc) : l <+: l := List.prefix_refl l
theorem tri_label {P : Program} {A : Amb} {s : St} {Q : Exit → Act → World → Prop} {id : Nat} (h : Aft A s (Q .normal)) : Tri P A s (.label id) Q := fun a w hg _ => wp_label (h a w hg)
theorem tri_scope {P : Program} {A : Amb} {s : St} {Q : Exit → Act → World → Prop} {c : Code} (h : Tri P A s c (Exit.noGoto Q)) : Tri P A s (.scope c) Q := fun a w hg hPQ => wp_scope_straight (h a w hg (fun chain a w hd hp => hPQ chain a w hd hp))
end Go.Proofs.YtihghljfmlbfhaaDoor.Pv


namespace Go.Proofs.YtihghljfmlbfhaaDoor
open Go.RowKit
theorem run_arrayAt {P : Program} {T e : TypeId} {n : Nat} (hu : P.underlying T = some (.array n e)) {ad : Option Addr} {len c : Nat} (hl : n ≤ len) (w : World) : (Instr.arrayAt T (.slice ad len c)).run P w = .ok (.pointer ad) w := by
  have h : ¬ len < n := by omega
  simp [Instr.arrayAt, run_underlying hu, h]
def KeepC (S : Nat → Prop) (w w' : World) : Prop := ∀ p v, ¬ S p.block → w.cell? p = some v → w'.cell? p = some v
theorem KeepC.trans {S : Nat → Prop} {a b c : World} (h : KeepC S a b) (k : KeepC S b c) : KeepC S a c := fun p v hn hc => k p v hn (h p v hn hc)
theorem KeepC.of_chg {S : Nat → Prop} {a b : World} (h : Chg S a b) : KeepC S a b := fun _ _ hn hc => Chg.cellv h hc hn
def KeepB (w w' : World) : Prop := ∀ (k : Nat) (o : Obj), w.heap[k]? = some o → o.isCells = true → w'.heap[k]? = some o
theorem cells_of_cell {w : World} {p : Addr} {v : Value} (h : w.cell? p = some v) : ∃ o, w.heap[p.block]? = some o ∧ o.isCells = true := by
  have hl := lt_of_cell h
  refine ⟨_, Array.getElem?_eq_getElem hl, ?_⟩
  unfold World.cell? at h
  rw [Array.getElem?_eq_getElem hl] at h
  cases ho : w.heap[p.block] <;> simp_all [Obj.isCells]
theorem KeepC.putObj {S : Nat → Prop} (W : World) (l : Nat) {o : Obj} (o' : Obj) (h : W.heap[l]? = some o) (ho : o.isCells = false) : KeepC S W (W.putObj l o') := fun p v _ hc => by
  obtain ⟨q, hq, hqc⟩ := cells_of_cell hc
  have hne : p.block ≠ l := fun e => by
    rw [e, h] at hq
    cases hq
    rw [ho] at hqc
    cases hqc
  rw [World.cell?_of_block (w := W) (World.putObj_heap_other hne)]
  exact hc
theorem KeepB.cell {w w' : World} (h : KeepB w w') {p : Addr} {v : Value} (hc : w.cell? p = some v) : w'.cell? p = some v := by
  obtain ⟨o, ho, hoc⟩ := cells_of_cell hc
  rw [World.cell?_of_block (w := w) ((h _ _ ho hoc).trans ho.symm)]
  exact hc
theorem KeepB.blk {w w' : World} (h : KeepB w w') {g : Nat} {t : TypeId} {cs : Array Value} (hb : Blk w g t cs) : Blk w' g t cs := h _ _ hb rfl
theorem call_enters {P : Program} {f : FuncId} {fn : Func} {c : Code} (hf : P.funcs[f]? = some fn) (hname : (fn.name == "runtime.NumGoroutine") = false) (hb : fn.body = some c) (args : Array Value) (w : World) : (callFunc f args).run P w = .ok (.enter f args) w := by
  have h1 : fn.name ≠ "runtime.NumGoroutine" := by simpa using hname
  simp [callFunc, hf, h1, hb, mark]
theorem wp_range {α : Type} {P : Program} {g : Operand} {ps : Array Tmp} {assign body : Code} {Q : Exit → Act → World → Prop} {a : Act} {w : World}
    {gf : Nat} {lb : Array Value} (hg : a.eval g = .func (.func gf) #[] lb) (eg : ∀ args w, (callFunc gf args).run P w = .ok (.enter gf args) w)
    {encs : α → Array Value} {S : Nat → Prop} {all : List α} {N : Nat} (hS : ∀ k, S k → k < w.heap.size)
    (hseq : SeqStopsK Fence.wide 2 P gf lb encs (KeepC S) (fun ys => ys = all) (fun _ => True) N w) (hps : ∀ x, (encs x).size = ps.size)
    (J : List α → World → Prop) (hJ : ∀ pre W W', J pre W → KeepB W W' → J pre W') (h0 : J [] w) (a₁ : α → Act)
    (hassign : ∀ (l : Nat) (x : α) (W : World) (K : Act → World → Prop), K (a₁ x) W →
      assign.wpIn (Fence.wide.inRound l) 1 P (Exit.then K (fun _ _ _ => False)) { tmps := (ps.zip (encs x)).foldl (fun t (p, v) => t.setIfInBounds p v) a.tmps, defers := [] } W)
    (hbody : ∀ (l : Nat) (pre : List α) (x : α) (W : World), Chg S w W → J pre W → pre.length < N →
      body.wpIn (Fence.wide.inRound l) 1 P (Exit.then (fun _ W' => Chg S W W' ∧ J (pre ++ [x]) W') (fun _ _ _ => False)) (a₁ x) W)
    (hdone : ∀ (D : Nat) (W : World), w.heap.size ≤ D → Chg S w W → J all W → W.heap[D]? = some (.deferred (some [])) → Q .normal { a with defers := { target := .collected D, args := #[] } :: a.defers } W) :
    (Code.rangeFunc g ps assign body).wp P Q a w := by
  refine (wpIn_wide (n := 3)).1 ?_
  refine wpIn_rangeFunc_ownG (n := 3) (N := N) (w0 := w) rfl (by omega) hg trivial eg hseq (fun h k => h.trans k) (fun W l o o' _ h ho _ => KeepC.putObj W l o' h ho) (Below.refl _ _) hps
    (fun pre W => Chg S w W ∧ J pre W) (fun _ _ _ => False) ?hI (fun _ _ _ _ _ h _ _ => h) ⟨Chg.refl _ _, h0⟩ a₁ hassign ?hbody ?hdone (fun _ _ _ _ _ _ h _ => h.elim)
  case hI =>
    rintro pre W W' row ⟨hc, hj⟩ hgr hrow
    refine ⟨hc.grown hgr fun k e => .inr (hrow k e).1, hJ _ _ _ hj (show KeepB W W' from fun k o hk ho => ?_)⟩
    rw [hgr.block k (lt_of_heap hk) (fun e => ?_)]
    · exact hk
    · obtain ⟨_, q, hq, hqc⟩ := hrow k e.symm
      rw [hk] at hq
      cases hq
      rw [ho] at hqc
      cases hqc
  case hbody =>
    rintro l pre x W ⟨hc, hj⟩ hl
    refine wpIn_mono (hbody l pre x W hc hj hl) ?_
    rintro e b W' h
    cases e with
    | normal =>
      obtain ⟨h1, h2⟩ := h
      refine ⟨⟨h1.size, fun k o hk ho _ => h1.blk ho (fun hs => ?_)⟩, KeepC.of_chg h1, hc.trans h1, h2⟩
      have := hS k hs
      omega
    | _ => exact h.elim
  case hdone =>
    rintro D xs W hD rfl ⟨hc, hj⟩ hd
    exact hdone D W hD hc hj hd
section
variable {P : Program} {F : Fence} {n0 : Nat}
theorem wpListIn_loadB {ops : Array Oper} {rest : List Oper} {o : Oper} {a : Act} {w : World} {Q : Exit → Act → World → Prop} (hgd : o.guard = none) {ty : TypeId} {x : Operand} (ho : o.op = .load ty x) {n : Nat} (W : Wide P ty n)
    {g : Nat} (hx : a.eval x = .pointer (some ⟨g, 0, none⟩)) {t : TypeId} {cs : Array Value} (hB : Blk w g t cs) (hn : cs.size = n) (h : wpListIn F n0 P ops Q rest (a.put o.dst (.agg cs)) w) : wpListIn F n0 P ops Q (o :: rest) a w :=
  wpListIn_plain hgd fun _ hK => by
    obtain ⟨d, hu, hd⟩ := W.und
    unfold Oper.wpIn
    refine ⟨by simp [Oper.about, ho], ?_⟩
    rw [Oper.semAt_plain F _ _ (by rw [ho]; intro c h; cases h)]
    unfold execOp
    have hr := run_loadVar_mid (P := P) w g 0 ty cs.toList d hB.range hu hd (by rw [Array.length_toList, hn]; exact W.info)
    rw [Array.toArray_toList] at hr
    simp only [ho, hx, Instr.loadAt, Instr.sureAddr, Sem.run_bind, Sem.run_pure, Result.andThen_ok, hr]
    exact hK _ _ h
theorem wpListIn_storeB {ops : Array Oper} {rest : List Oper} {o : Oper} {a : Act} {w : World} {Q : Exit → Act → World → Prop} (hgd : o.guard = none) {ty : TypeId} {x y : Operand} (ho : o.op = .store ty x y) {n : Nat} (W : Wide P ty n)
    {g : Nat} (hx : a.eval x = .pointer (some ⟨g, 0, none⟩)) {cs : Array Value} (hy : a.eval y = .agg cs) {t : TypeId} {old : Array Value} (hB : Blk w g t old) (ho2 : old.size = n) (hn : cs.size = n) (h1 : cs.all (·.oneCell') = true)
    (h : ∀ w', Blk w' g t cs → Chg (fun k => k = g) w w' → w'.heap.size = w.heap.size → wpListIn F n0 P ops Q rest (a.put o.dst undef) w') : wpListIn F n0 P ops Q (o :: rest) a w :=
  wpListIn_plain hgd fun _ hK => by
    unfold Oper.wpIn
    refine ⟨by simp [Oper.about, ho], ?_⟩
    rw [Oper.semAt_plain F _ _ (by rw [ho]; intro c h; cases h)]
    unfold execOp
    have hr := run_storeAt_mid (P := P) w g 0 ty cs (by rw [show cs.size = old.size from by omega]; exact hB.there_) (by rw [hn]; exact W.info) h1
    simp only [ho, hx, hy, Sem.run_bind, Sem.run_pure, hr, Result.andThen_ok]
    exact hK _ _ (h _ (store_blk hB (by omega)) (setCells_chg g cs.toList 0 w).1 (setCells_chg g cs.toList 0 w).2)
end
theorem leave_mark {P : Program} {fn : Func} {R : Ending → World → Prop} {n : Nat} {a : Act} {W : World} {D : Nat} {v : Value} (hd : a.defers = [{ target := .collected D, args := #[] }]) (hD : W.heap[D]? = some (.deferred (some [])))
    (hr : (results fn a.tmps).run P (W.putObj D (.deferred none)) = .ok v (W.putObj D (.deferred none))) (h : R (.returned v) (W.putObj D (.deferred none))) : bodyPostM Fence.wide n P fn R .ret a W := by
  show LeavesInM Fence.wide n P fn a.tmps R a.defers .returning W
  rw [hd]
  refine ⟨by simp, .inl ⟨_, _, rfl, run_takeDeferred hD, ?_⟩⟩
  exact ⟨_, hr, h⟩
theorem putObj_ext {w W : World} {D : Nat} (o : Obj) (h : Ext w W) (hD : w.heap.size ≤ D) : Ext w (W.putObj D o) :=
  h.grown (grownBy_putObj' W D o) (fun k e => by cases e; exact hD)
end Go.Proofs.YtihghljfmlbfhaaDoor


namespace Go.Proofs.YtihghljfmlbfhaaDoor.Pv
open Go.RowKit
theorem noM {I : World → Prop} : Mach Tryd.prog I (find ([] : List (Nat × Spec))) := ⟨fun f sp h => (by cases h), (by kernel_rfl)⟩
set_option maxRecDepth 100000 in
theorem fuse_fun {I : World → Prop} (b c : Int) : FunP Tryd.prog I 73 (Prg.fuse b c) [.w (.one .dv), pvI b, pvI c] pvI := by
  intro O l
  have M := noM (I := I)
  refine funX_of Tryd.func73 rfl rfl rfl (fun A hn hI => ?_)
  refine tri_reg M hI hn (outs := ?_) (s' := ?_) ?_ ?_ ?_ ?_
  rotate_left 2
  · rfl
  · kernel_rfl
  · simp
  refine tri_reg M hI hn (outs := ?_) (s' := ?_) ?_ ?_ ?_ ?_
  rotate_left 2
  · rfl
  · kernel_rfl
  · exact ⟨pre_ask (pre_self _) (pre_self _), trivial⟩
  refine tri_ret (fun a w hg => ⟨.inr rfl, _, ⟨?_, (fun o ho => by cases ho), fun p hp => ?_⟩, hg⟩)
  rotate_left 1
  · cases hp
    rfl
  refine retTo_cold (out := ?_) ?_ ?_ ?_ ?_ ?_
  rotate_left 1
  · rfl
  · simp
  · rfl
  · rfl
  rfl
set_option maxRecDepth 100000 in
theorem pulse_fun {I : World → Prop} (b c : Int) : FunP Tryd.prog I 75 (Prg.pulse b c) [.w (.one .dv), pvI b, pvI c] (fun _ => .tup []) := by
  intro O l
  have M := noM (I := I)
  refine funX_of Tryd.func75 rfl rfl rfl (fun A hn hI => ?_)
  refine tri_region M hI hn (outs := ?_) (s' := ?_) ?_ ?_ ?_ ?_
  rotate_left 2
  · rfl
  · kernel_rfl
  · exact ⟨pre_ask (pre_self _) (pre_self _), trivial⟩
  intro a w hg
  refine ⟨.inl rfl, _, ⟨?_, (fun o ho => by cases ho), fun p hp => ?_⟩, hg⟩
  rotate_left 1
  · cases hp
    rfl
  refine retTo_cold (out := ?_) ?_ ?_ ?_ ?_ ?_
  rotate_left 1
  · rfl
  · simp
  · rfl
  · rfl
  rfl
def decFP (p : Int → Int → Prg Int) : List PV → Option (Prop × Prg Int × (Int → PV))
  | [.w (.one (.lit (.int .i64 b))), .w (.one (.lit (.int .i64 c)))] => some (True, p b c, pvI)
  | _ => none
def decU (p : Int → Int → Prg Unit) (q : Int → Int → Prop) : List PV → Option (Prop × Prg Unit × (Unit → PV))
  | [.w (.one (.lit (.int .i64 b))), .w (.one (.lit (.int .i64 c)))] => some (q b c, p b c, fun _ => .tup [])
  | _ => none
theorem fuse_spec {I : World → Prop} : SpecOk Tryd.prog I 73 (prgSpec (decFP Prg.fuse)) :=
  prgSpec_ok (call_enters Tryd.func73 (by kernel_rfl) rfl) (fun ys c p v h _ => by
    unfold decFP at h
    split at h
    · cases h; exact fuse_fun _ _
    · cases h)
theorem pulse_spec {I : World → Prop} : SpecOk Tryd.prog I 75 (prgSpec (decU Prg.pulse fun _ _ => True)) :=
  prgSpec_ok (call_enters Tryd.func75 (by kernel_rfl) rfl) (fun ys c p v h _ => by
    unfold decU at h
    split at h
    · cases h; exact pulse_fun _ _
    · cases h)
end Go.Proofs.YtihghljfmlbfhaaDoor.Pv


namespace Go.Proofs.YtihghljfmlbfhaaDoor
def rotrW (x : UInt32) (n : UInt32) : UInt32 := (x >>> n) ||| (x <<< (32 - n))
def shaK : List UInt32 := [
  0x428a2f98, 0x71374491, 0xb5c0fbcf, 0xe9b5dba5, 0x3956c25b, 0x59f111f1, 0x923f82a4, 0xab1c5ed5,
  0xd807aa98, 0x12835b01, 0x243185be, 0x550c7dc3, 0x72be5d74, 0x80deb1fe, 0x9bdc06a7, 0xc19bf174,
  0xe49b69c1, 0xefbe4786, 0x0fc19dc6, 0x240ca1cc, 0x2de92c6f, 0x4a7484aa, 0x5cb0a9dc, 0x76f988da,
  0x983e5152, 0xa831c66d, 0xb00327c8, 0xbf597fc7, 0xc6e00bf3, 0xd5a79147, 0x06ca6351, 0x14292967,
  0x27b70a85, 0x2e1b2138, 0x4d2c6dfc, 0x53380d13, 0x650a7354, 0x766a0abb, 0x81c2c92e, 0x92722c85,
  0xa2bfe8a1, 0xa81a664b, 0xc24b8b70, 0xc76c51a3, 0xd192e819, 0xd6990624, 0xf40e3585, 0x106aa070,
  0x19a4c116, 0x1e376c08, 0x2748774c, 0x34b0bcb5, 0x391c0cb3, 0x4ed8aa4a, 0x5b9cca4f, 0x682e6ff3,
  0x748f82ee, 0x78a5636f, 0x84c87814, 0x8cc70208, 0x90befffa, 0xa4506ceb, 0xbef9a3f7, 0xc67178f2]
def shaH0 : List UInt32 := [0x6a09e667, 0xbb67ae85, 0x3c6ef372, 0xa54ff53a, 0x510e527f, 0x9b05688c, 0x1f83d9ab, 0x5be0cd19]
def beWord (l : List UInt8) : UInt32 := l.foldl (fun n b => (n <<< 8) ||| b.toUInt32) 0
def schedNext (w : List UInt32) : UInt32 :=
  let i := w.length
  let x := w.getD (i - 15) 0
  let y := w.getD (i - 2) 0
  w.getD (i - 16) 0 + ((rotrW x 7 ^^^ rotrW x 18) ^^^ (x >>> 3)) + w.getD (i - 7) 0 + ((rotrW y 17 ^^^ rotrW y 19) ^^^ (y >>> 10))
def schedAt (b : List UInt8) : Nat → List UInt32
  | 0 => []
  | i + 1 => schedAt b i ++ [if i < 16 then beWord ((b.drop (4 * i)).take 4) else schedNext (schedAt b i)]
def sched (b : List UInt8) : List UInt32 := schedAt b 64
theorem schedAt_length (b : List UInt8) (i : Nat) : (schedAt b i).length = i := by induction i with
  | zero => rfl
  | succ i ih => simp [schedAt, ih]
def shaRound (v : List UInt32) (k w : UInt32) : List UInt32 :=
  let a := v.getD 0 0; let b := v.getD 1 0; let c := v.getD 2 0; let d := v.getD 3 0
  let e := v.getD 4 0; let f := v.getD 5 0; let g := v.getD 6 0; let h := v.getD 7 0
  let t := h + ((rotrW e 6 ^^^ rotrW e 11) ^^^ rotrW e 25) + ((e &&& f) ^^^ (~~~e &&& g)) + k + w
  let u := ((rotrW a 2 ^^^ rotrW a 13) ^^^ rotrW a 22) + (((a &&& b) ^^^ (a &&& c)) ^^^ (b &&& c))
  [t + u, a, b, c, d + t, e, f, g]
def roundsAt (b : List UInt8) (v : List UInt32) : Nat → List UInt32
  | 0 => v
  | k + 1 => shaRound (roundsAt b v k) (shaK.getD k 0) ((sched b).getD k 0)
def shaRounds (b : List UInt8) (v : List UInt32) : List UInt32 := roundsAt b v 64
theorem roundsAt_length (b : List UInt8) (v : List UInt32) (h : v.length = 8) (k : Nat) : (roundsAt b v k).length = 8 := by cases k with
  | zero => exact h
  | succ k => rfl
def shaBlock (v : List UInt32) (b : List UInt8) : List UInt32 := List.zipWith (· + ·) (shaRounds b v) v
def beBytes (n : Nat) : Nat → List UInt8
  | 0 => []
  | k + 1 => UInt8.ofNat (n / 256 ^ k) :: beBytes n k
def shaPad (m : List UInt8) : List UInt8 := m ++ [128] ++ List.replicate ((119 - m.length % 64) % 64) 0 ++ beBytes (8 * m.length) 8
def shaBlocks : Nat → List UInt32 → List UInt8 → List UInt32
  | 0, v, _ => v
  | n + 1, v, m => shaBlocks n (shaBlock v (m.take 64)) (m.drop 64)
def sha (m : List UInt8) : List UInt8 := (shaBlocks ((shaPad m).length / 64) shaH0 (shaPad m)).flatMap fun w => beBytes w.toNat 4
def hmac (key m : List UInt8) : List UInt8 :=
  let k := if key.length > 64 then sha key else key
  let pad := fun (x : UInt8) => (List.range 64).map fun i => k.getD i 0 ^^^ x
  sha (pad 0x5c ++ sha (pad 0x36 ++ m))
def mac (key m : List UInt8) : List UInt8 := (hmac key m).take 16
end Go.Proofs.YtihghljfmlbfhaaDoor


namespace Go.Proofs.YtihghljfmlbfhaaDoor
open Go.RowKit
theorem lt32 (a : UInt32) : 0 ≤ (a.toNat : Int) ∧ (a.toNat : Int) < 4294967296 := by have := a.toNat_lt; omega
theorem lt8 (a : UInt8) : 0 ≤ (a.toNat : Int) ∧ (a.toNat : Int) < 256 := by have := a.toNat_lt; omega
theorem or32 (a b : UInt32) : bits BinOp.or IntKind.u32 (a.toNat : Int) (b.toNat : Int) = ((a ||| b).toNat : Int) := by
  rw [u32_or _ _ (lt32 a).1 (lt32 a).2 (lt32 b).1 (lt32 b).2]; simp
theorem and32 (a b : UInt32) : bits BinOp.and IntKind.u32 (a.toNat : Int) (b.toNat : Int) = ((a &&& b).toNat : Int) := by
  rw [u32_and _ _ (lt32 a).1 (lt32 a).2 (lt32 b).1 (lt32 b).2]; simp
theorem xor32 (a b : UInt32) : bits BinOp.xor IntKind.u32 (a.toNat : Int) (b.toNat : Int) = ((a ^^^ b).toNat : Int) := by
  rw [u32_xor _ _ (lt32 a).1 (lt32 a).2 (lt32 b).1 (lt32 b).2]; simp
theorem add32 (a b : UInt32) : ((a.toNat : Int) + (b.toNat : Int)) % 4294967296 = ((a + b).toNat : Int) := by
  rw [UInt32.toNat_add]; omega
theorem xor8 (a b : UInt8) : bits BinOp.xor IntKind.u8 (a.toNat : Int) (b.toNat : Int) = ((a ^^^ b).toNat : Int) := by
  rw [u8_xor _ _ (lt8 a).1 (lt8 a).2 (lt8 b).1 (lt8 b).2]; simp
theorem shr32 (a : UInt32) (n : Nat) (hn : n < 32) : (a.toNat : Int) / 2 ^ n = ((a >>> UInt32.ofNat n).toNat : Int) := by
  rw [UInt32.toNat_shiftRight, Nat.shiftRight_eq_div_pow]
  have : (UInt32.ofNat n).toNat % 32 = n := by simp; omega
  rw [this]
  simp
theorem shl32 (a : UInt32) (n : Nat) (hn : n < 32) : (a.toNat : Int) * 2 ^ n % 4294967296 = ((a <<< UInt32.ofNat n).toNat : Int) := by
  rw [UInt32.toNat_shiftLeft, Nat.shiftLeft_eq]
  have : (UInt32.ofNat n).toNat % 32 = n := by simp; omega
  rw [this]
  simp
theorem addW (a b : UInt32) : IntKind.u32.wrap ((a.toNat : Int) + (b.toNat : Int)) = ((a + b).toNat : Int) := by rw [IntKind.wrap_u32]; exact add32 a b
theorem not32 (a : UInt32) : bits BinOp.xor IntKind.u32 IntKind.u32.max (a.toNat : Int) = ((~~~a).toNat : Int) := by
  rw [show IntKind.u32.max = (((-1 : UInt32)).toNat : Int) from rfl, xor32, UInt32.neg_one_xor]
end Go.Proofs.YtihghljfmlbfhaaDoor


namespace Go.Proofs.YtihghljfmlbfhaaDoor
open Go.RowKit
def w32 (x : UInt32) : Value := .int .u32 (x.toNat : Int)
theorem neg_and31 (n : Nat) (hn : 0 < n) (hn2 : n < 32) : bits BinOp.and IntKind.u64 (IntKind.u64.wrap (-(n : Int))) 31 = ((32 - n : Nat) : Int) := by
  have h : IntKind.u64.wrap (-(n : Int)) = ((18446744073709551616 - n : Nat) : Int) := by
    rw [IntKind.wrap_u64]; omega
  rw [h, u64_and _ _ (by omega) (by omega) (by omega) (by omega)]
  rw [Int.toNat_natCast, show (31 : Int).toNat = 2 ^ 5 - 1 from rfl, Nat.and_two_pow_sub_one_eq_mod]
  omega
theorem rot_eq (x : UInt32) (n : Nat) (hn : 0 < n) (hn2 : n < 32) : bits BinOp.or IntKind.u32 ((x.toNat : Int) * 2 ^ (32 - n) % 4294967296) ((x.toNat : Int) / 2 ^ n) = ((rotrW x (UInt32.ofNat n)).toNat : Int) := by
  rw [shl32 x (32 - n) (by omega), shr32 x n hn2, or32]
  unfold rotrW
  have e : UInt32.ofNat (32 - n) = 32 - UInt32.ofNat n := by
    apply UInt32.toNat_inj.1
    rw [UInt32.toNat_sub]
    simp
    omega
  rw [e, UInt32.or_comm]
theorem rotl_any (x : UInt32) (n : Nat) (w : World) (hn : 0 < n) (hn2 : n < 32) :
    Calls Tryd.prog 77 #[.int .u32 (x.toNat : Int), .int .i64 (-(n : Int))] w fun e w' => e = .returned (.int .u32 ((rotrW x (UInt32.ofNat n)).toNat : Int)) ∧ w = w' := by
  have h0 := hide (rot_eq x n hn hn2)
  have hx := x.toNat_lt
  have h1 := neg_and31 n hn hn2
  have h2 : IntKind.u64.wrap (32 - ((32 - n : Nat) : Int)) = (n : Int) := by
    rw [show (32 : Int) - ((32 - n : Nat) : Int) = (n : Int) by omega]
    exact IntWalk.u64_in _ (by omega)
  go_enter Tryd.func77, Tryd.ntmps77
  go_wp2
  go_ret
  exact ⟨ret_int (unhide h0), rfl⟩
def rotXor (x : UInt32) (ns : List Nat) : UInt32 := ns.foldl (fun o n => o ^^^ rotrW x (UInt32.ofNat n)) 0
theorem take_step {α : Type} (l : List α) (k : Nat) (h : k < l.length) : l.take (k + 1) = l.take k ++ [l[k]] := by rw [List.take_add_one, List.getElem?_eq_getElem h]; rfl
theorem rotXor_step (x : UInt32) (ns : List Nat) (k : Nat) (h : k < ns.length) : rotXor x (ns.take (k + 1)) = rotXor x (ns.take k) ^^^ rotrW x (UInt32.ofNat ns[k]) := by
  rw [take_step ns k h]; unfold rotXor; rw [List.foldl_append]; rfl
set_option maxHeartbeats 400000 in
theorem rotr_any (x : UInt32) (ns : List Nat) (v : Value) (w : World) (h : Reads w 1 v ns.length (ns.map fun n : Nat => Value.int .i64 (n : Int))) (hn : ∀ n ∈ ns, 0 < n ∧ n < 32) :
    Calls Tryd.prog 65 #[.int .u32 (x.toNat : Int), v] w fun e w' => e = .returned (.int .u32 ((rotXor x ns).toNat : Int)) ∧ w = w' := by
  have HH := hide h
  have hm := h.len_le
  unfold maxLen at hm
  obtain ⟨_, B, c, rfl, _, _, _⟩ := h
  go_enter Tryd.func65, Tryd.ntmps65
  go_wp2
  go_loop [5, 10] (fun o i => ∃ k : Nat, k ≤ ns.length ∧ i = .int .i64 k ∧ o = .int .u32 ((rotXor x (ns.take k)).toNat : Int)) (fun _ i => ns.length - (intOf i).toNat)
  case atStart => exact ⟨0, Nat.zero_le _, rfl, rfl⟩
  case round =>
    obtain ⟨k, hk, rfl, rfl⟩ := hrel
    by_cases hlt : k < ns.length
    · obtain ⟨b, o, c', u, hv, _, _, hb, hu, hc1⟩ := (unhide HH).at1 hlt
      cases hv
      rw [List.getElem?_map, List.getElem?_eq_getElem hlt] at hu
      cases hu
      obtain ⟨n1, n2⟩ := hn _ (List.getElem_mem hlt)
      have HS := hide (rotXor_step x ns k hlt)
      have HX := hide (xor32 (rotXor x (ns.take k)) (rotrW x (UInt32.ofNat ns[k])))
      dsimp only at hc1
      have HR := hide (fun w => rotl_any x ns[k] w n1 n2)
      generalize ns[k] = n at *
      generalize rotXor x (ns.take k) = acc at *
      have e1 : IntKind.i64.wrap (-(n : Int)) = -(n : Int) := IntWalk.i64_in _ (by omega)
      go_wp2_with fail
      refine (unhide HR _).mono ?_
      rintro e w' ⟨rfl, rfl⟩
      go_wp2
      go_round
      case rel => exact ⟨k + 1, by omega, by go_num, int_eq (by rw [unhide HS]; exact unhide HX)⟩
      case measure => simp [intOf]; omega
    · obtain rfl : k = ns.length := by omega
      have HT := hide (show rotXor x (ns.take ns.length) = rotXor x ns by rw [List.take_length])
      go_wp2
      go_ret
      exact ⟨ret_int (by first | rfl | rw [unhide HT]), rfl⟩
end Go.Proofs.YtihghljfmlbfhaaDoor


namespace Go.Proofs.YtihghljfmlbfhaaDoor
open Go.RowKit
structure Onto (w : World) (v : Value) (w' : World) (v' : Value) : Prop where
  chg : Chg (fun k => v.ownBlock = some k) w w'
  own : v'.ownBlock = v.ownBlock ∨ ∃ g, v'.ownBlock = some g ∧ w.heap.size ≤ g
theorem Onto.refl (w : World) (v : Value) : Onto w v w v := ⟨Chg.refl _ _, .inl rfl⟩
theorem Onto.trans {a b c : World} {u v x : Value} (h : Onto a u b v) (k : Onto b v c x) : Onto a u c x := by
  refine ⟨h.chg.trans' k.chg (fun _ _ h => h) (fun i hi e => ?_), ?_⟩
  · rcases h.own with h1 | ⟨g, h1, h2⟩
    · rw [← h1]; exact e
    · rw [h1] at e; cases e; omega
  · rcases k.own with h1 | ⟨g, h1, h2⟩
    · rw [h1]; exact h.own
    · exact .inr ⟨g, h1, Nat.le_trans h.chg.size h2⟩
theorem Onto.ext {a b c : World} {u v : Value} (h : Onto a u b v) (k : Ext b c) : Onto a u c v := ⟨h.chg.ext k, h.own⟩
theorem Onto.of_ext {a b : World} {v : Value} (k : Ext a b) : Onto a v b v := ⟨k.chg, .inl rfl⟩
theorem Onto.app {w w' : World} {v v' : Value} (hc : Chg (fun k => v.ownBlock = some k) w w') (hv : v'.ownBlock = v.ownBlock ∨ ∃ g, v'.ownBlock = some g ∧ w.heap.size ≤ g ∧ g < w'.heap.size) : Onto w v w' v' :=
  ⟨hc, hv.imp id fun ⟨g, h1, h2, _⟩ => ⟨g, h1, h2⟩⟩
theorem Onto.new_ext {w0 w w' : World} {v v' : Value} (h0 : Ext w0 w) (h : Onto w v w' v') (hv : ∀ g, v.ownBlock = some g → w0.heap.size ≤ g) : Ext w0 w' :=
  h0.trans' h.chg (fun _ _ h => h) (fun i hi e => by have := hv i e; omega)
end Go.Proofs.YtihghljfmlbfhaaDoor


namespace Go.Proofs.YtihghljfmlbfhaaDoor
open Go.RowKit
def u8v (b : UInt8) : Value := .int .u8 (b.toNat : Int)
theorem beWord_step (l : List UInt8) (k : Nat) (h : k < l.length) : beWord (l.take (k + 1)) = (beWord (l.take k) <<< 8) ||| l[k].toUInt32 := by
  rw [take_step l k h]; unfold beWord; rw [List.foldl_append]; rfl
theorem conv32 (b : UInt8) : (b.toNat : Int) = (b.toUInt32.toNat : Int) := by simp
set_option maxHeartbeats 400000 in
theorem load_any (l : List UInt8) (v : Value) (w : World) (h : Reads w 1 v l.length (l.map u8v)) :
    Calls Tryd.prog 64 #[v] w fun e w' => e = .returned (.int .u32 ((beWord l).toNat : Int)) ∧ w = w' := by
  have HH := hide h
  have hm := h.len_le
  unfold maxLen at hm
  obtain ⟨_, B, c, rfl, _, _, _⟩ := h
  go_enter Tryd.func64, Tryd.ntmps64
  go_wp2
  go_loop [3, 8] (fun o i => ∃ k : Nat, k ≤ l.length ∧ i = .int .i64 k ∧ o = .int .u32 ((beWord (l.take k)).toNat : Int)) (fun _ i => l.length - (intOf i).toNat)
  case atStart => exact ⟨0, Nat.zero_le _, rfl, rfl⟩
  case round =>
    obtain ⟨k, hk, rfl, rfl⟩ := hrel
    by_cases hlt : k < l.length
    · obtain ⟨b, o, c', u, hv, _, _, hb, hu, hc1⟩ := (unhide HH).at1 hlt
      cases hv
      rw [List.getElem?_map, List.getElem?_eq_getElem hlt] at hu
      cases hu
      unfold u8v at hc1
      have HS := hide (beWord_step l k hlt)
      generalize l[k] = z at *
      generalize beWord (l.take k) = acc at *
      have hz := z.toNat_lt
      have ha := acc.toNat_lt
      have HX := hide (show bits BinOp.or IntKind.u32 ((acc.toNat : Int) * 2 ^ 8 % 4294967296) (z.toNat : Int) = ((acc <<< 8 ||| z.toUInt32).toNat : Int) from by rw [shl32 acc 8 (by omega), conv32, or32]; rfl)
      go_wp2
      go_round
      case rel => exact ⟨k + 1, by omega, by go_num, int_eq (by rw [unhide HS]; exact unhide HX)⟩
      case measure => simp [intOf]; omega
    · obtain rfl : k = l.length := by omega
      have HT := hide (show beWord (l.take l.length) = beWord l by rw [List.take_length])
      go_wp2
      go_ret
      exact ⟨ret_int (by first | rfl | rw [unhide HT]), rfl⟩
theorem u8_row : SlTy Tryd.prog 24 5 1 1 := SlTy.mk' (z := .int .u8 0) (by kernel_rfl) (by kernel_rfl) rfl (by omega) (by omega)
theorem beBytes_length (n k : Nat) : (beBytes n k).length = k := by induction k with
  | zero => rfl
  | succ k ih => unfold beBytes; simp [ih]
theorem beBytes_get (n : Nat) : ∀ (many j : Nat), j < many → (beBytes n many)[j]? = some (UInt8.ofNat (n / 256 ^ (many - 1 - j)))
  | 0, j, h => by omega
  | many + 1, 0, h => by simp [beBytes]
  | many + 1, j + 1, h => by
    rw [beBytes, List.getElem?_cons_succ, beBytes_get n many j (by omega), show many + 1 - 1 - (j + 1) = many - 1 - j from by omega]
theorem beBytes_step (n many k : Nat) (h0 : 0 < k) (hk : k ≤ many) : (beBytes n many).take (many - (k - 1)) = (beBytes n many).take (many - k) ++ [UInt8.ofNat (n / 256 ^ (k - 1))] := by
  rw [show many - (k - 1) = many - k + 1 from by omega, List.take_add_one, beBytes_get n many (many - k) (by omega), show many - 1 - (many - k) = k - 1 from by omega]
  rfl
theorem byte_of (n k : Nat) : (n : Int) / 2 ^ (8 * k) % 256 = ((UInt8.ofNat (n / 256 ^ k)).toNat : Int) := by
  rw [show (2 : Int) ^ (8 * k) = ((256 ^ k : Nat) : Int) from by rw [Int.pow_mul]; simp]
  simp
set_option maxHeartbeats 1000000 in
theorem store_any (v : Value) (m : Nat) (xs : List Value) (n : Nat) (many : Nat) (B : Nat) (w : World) (h : w.ownsRow B 5 1 v m xs) (hB : B ≤ w.heap.size) (hm : m ≤ 1000000000) (h8 : many ≤ 8) :
    Calls Tryd.prog 43 #[v, .int .u64 (n : Int), .int .i64 (many : Int)] w fun e w' => ∃ v', e = .returned v' ∧ w'.ownsRow B 5 1 v' (m + many) (xs ++ (beBytes n many).map u8v) ∧ Onto w v w' v' := by
  have H0 := hide h
  clear h
  go_enter Tryd.func43, Tryd.ntmps43
  go_wp2
  go_loopw [0, 7] (fun b i wr => ∃ (k : Nat), k ≤ many ∧ i = .int .i64 ((k : Int) - 1) ∧ Hid (wr.ownsRow B 5 1 b (m + (many - k)) (xs ++ ((beBytes n many).take (many - k)).map u8v) ∧ Onto w v wr b)) (fun _ i _ => (intOf i + 1).toNat)
  case atStart => exact ⟨many, Nat.le_refl _, rfl, hide ⟨by rw [Nat.sub_self]; simpa using unhide H0, Onto.refl _ _⟩⟩
  case round =>
    obtain ⟨k, hk, rfl, HR⟩ := hrel
    by_cases hk0 : 0 < k
    · have e0 : (0 : Int) ≤ (k : Int) - 1 := by omega
      have e1 : IntKind.i64.wrap (8 * ((k : Int) - 1)) = ((8 * (k - 1) : Nat) : Int) := by rw [IntWalk.i64_in _ (by omega)]; omega
      have hb := byte_of n (k - 1)
      have HX := hide (beBytes_step n many k hk0 hk)
      generalize UInt8.ofNat (n / 256 ^ (k - 1)) = z at *
      have hsz : Hid (B ≤ wr.heap.size) := hide (Nat.le_trans hB (unhide HR).2.chg.size)
      go_wp2_with (at_builtin; refine wpList_app rfl rfl u8_row rfl (ownsRow_ext (unhide HR).1 ((Ext.refl _).alloc _)) rfl (Reads.new1 _ _ _) (AllOne.one rfl) (by omega) (Nat.le_trans (unhide hsz) (by simp)) ?_; intro A' c' w2 ho hc hv)
      have HQ := hide (And.intro ho (((unhide HR).2.ext ((Ext.refl wr).alloc _)).trans (Onto.app hc hv)))
      clear ho hc hv
      go_wp2
      go_roundw
      case rel => exact ⟨k - 1, by omega, by go_num, hide ⟨by rw [unhide HX, List.map_append, ← List.append_assoc, show m + (many - (k - 1)) = m + (many - k) + 1 from by omega]; exact (unhide HQ).1, (unhide HQ).2⟩⟩
      case measure => simp [intOf]; omega
    · obtain rfl : k = 0 := by omega
      go_wp2
      go_ret
      have h1 := (unhide HR).1
      rw [Nat.sub_zero, List.take_of_length_le (by rw [beBytes_length]; exact Nat.le_refl _)] at h1
      exact ⟨_, rfl, h1, (unhide HR).2⟩
theorem store_lit (v : Value) (m : Nat) (xs : List Value) (n : Nat) (many : Nat) (B : Nat) (w : World) (nI mI : Int) (e1 : nI = (n : Int)) (e2 : mI = (many : Int)) (h : w.ownsRow B 5 1 v m xs) (hB : B ≤ w.heap.size) (hm : m ≤ 1000000000) (_ : n < 18446744073709551616) (h8 : many ≤ 8) :
    Calls Tryd.prog 43 #[v, .int .u64 nI, .int .i64 mI] w fun e w' => ∃ A c, e = .returned (.slice A (m + many) c) ∧ w'.ownsRow B 5 1 (.slice A (m + many) c) (m + many) (xs ++ (beBytes n many).map u8v) ∧ Onto w v w' (.slice A (m + many) c) := by
  subst e1 e2
  refine (store_any v m xs n many B w h hB hm h8).mono ?_
  rintro e w' ⟨v', rfl, h1, h2⟩
  obtain ⟨A, c, rfl⟩ := own_slice h1
  exact ⟨A, c, rfl, h1, h2⟩
end Go.Proofs.YtihghljfmlbfhaaDoor


namespace Go.Proofs.YtihghljfmlbfhaaDoor
open Go.RowKit
theorem AllOne.u8 (l : List UInt8) : AllOne (l.map u8v) := AllOne.map (fun _ => rfl) l
set_option maxHeartbeats 400000 in
theorem clone_any (v : Value) (l : List UInt8) (w : World) (h : Reads w 1 v l.length (l.map u8v)) (hn : l.length ≤ 1000000000) :
    Calls Tryd.prog 42 #[v] w fun e w' => ∃ v', e = .returned v' ∧ w'.ownsRow w.heap.size 5 1 v' l.length (l.map u8v) ∧ Ext w w' := by
  have HH := hide h
  obtain ⟨hl, A, c, rfl, _, _, hp⟩ := h
  rcases A with _ | a
  · have h0 : l = [] := by
      cases l with
      | nil => rfl
      | cons x l =>
        obtain ⟨b, o, e, _⟩ := hp (by simp)
        cases e
    subst h0
    clear hl hp
    simp only [List.length_nil]
    have hnil := fun w => Lib.run_eql_slice_nil (P := Tryd.prog) w 24 5 none 0 c 0 0 Tryd.underlying24
    go_enter Tryd.func42, Tryd.ntmps42
    go_wp2
    go_ret
    exact ⟨_, rfl, World.ownsRow_nil _ _ _ _, Ext.refl _⟩
  · clear hl hp
    have hnil := fun w => Lib.run_eql_slice_nil (P := Tryd.prog) w 24 5 (some a) l.length c 0 0 Tryd.underlying24
    go_enter Tryd.func42, Tryd.ntmps42
    go_wp2_with (at_builtin; refine wpList_app rfl rfl u8_row rfl (own_empty _ w.heap.size _ _ (Nat.le_refl _)) rfl ((unhide HH).ext ((Ext.refl w).alloc _)) (AllOne.u8 l) (by omega) (by simp) ?_; intro A' c' w2 ho hc hv)
    have HQ := hide (And.intro ho (And.intro hc hv))
    clear ho hc hv
    go_wp2
    go_ret
    obtain ⟨ho, hc, hv⟩ := unhide HQ
    refine ⟨_, rfl, by simpa using ho, ?_⟩
    exact ((Ext.refl w).alloc (.cells #[] 5)).trans' hc (fun _ _ h => h) (fun i hi e => by cases e; exact absurd hi (Nat.lt_irrefl _))
end Go.Proofs.YtihghljfmlbfhaaDoor


namespace Go.Proofs.YtihghljfmlbfhaaDoor
open Go.RowKit
end Go.Proofs.YtihghljfmlbfhaaDoor


namespace Go.Proofs.YtihghljfmlbfhaaDoor
open Go.RowKit
theorem Blk.far' {w : World} {g : Nat} {t : TypeId} {cs : Array Value} (h : Blk w g t cs) {b : Nat} (hn : ¬ g = b) (i : Nat) (u : Value) : Blk (w.setCell ⟨b, i, none⟩ u) g t cs := h.far hn u
theorem new_cell (W : World) (t : TypeId) (cs : Array Value) {g : Nat} (hg : g = W.heap.size) {i : Nat} {v : Value} (hv : cs[i]? = some v) : (W.alloc (.cells cs t)).cell? ⟨g, i, none⟩ = some v := by
  rw [(Blk.new' W t cs hg).cell]; exact hv
theorem old_cell (W : World) (o : Obj) {p : Addr} {v : Value} (h : W.cell? p = some v) : (W.alloc o).cell? p = some v := Ext.cellv ((Ext.refl W).alloc o) h
theorem keep5 {W : World} (o : Obj) {p q r s u : Addr} {a b c d e : Value} (h : W.cell? p = some a ∧ W.cell? q = some b ∧ W.cell? r = some c ∧ W.cell? s = some d ∧ W.cell? u = some e) : (W.alloc o).cell? p = some a ∧ (W.alloc o).cell? q = some b ∧ (W.alloc o).cell? r = some c ∧ (W.alloc o).cell? s = some d ∧ (W.alloc o).cell? u = some e :=
  ⟨old_cell _ _ h.1, old_cell _ _ h.2.1, old_cell _ _ h.2.2.1, old_cell _ _ h.2.2.2.1, old_cell _ _ h.2.2.2.2⟩
theorem keepc3 {W : World} (o : Obj) {p q r : Addr} {a b c : Value} (h : W.cell? p = some a ∧ W.cell? q = some b ∧ W.cell? r = some c) : (W.alloc o).cell? p = some a ∧ (W.alloc o).cell? q = some b ∧ (W.alloc o).cell? r = some c :=
  ⟨old_cell _ _ h.1, old_cell _ _ h.2.1, old_cell _ _ h.2.2⟩
theorem keepS {W : World} (o : Obj) {p q r : Addr} {a b : Value} (h : W.cell? p = some a ∧ W.cell? q = some b ∧ W.cell? r = some (held W r) ∧ W.frozen? r = false) : (W.alloc o).cell? p = some a ∧ (W.alloc o).cell? q = some b ∧ (W.alloc o).cell? r = some (held (W.alloc o) r) ∧ (W.alloc o).frozen? r = false :=
  ⟨old_cell _ _ h.1, old_cell _ _ h.2.1, cell_held (old_cell _ _ h.2.2.1), Ext.frozenv ((Ext.refl W).alloc o) h.2.2.2 (lt_of_cell h.2.2.1)⟩
theorem keepT {W : World} (u : Value) {g i j k : Nat} {a b : Value} (hi : i ≠ k) (hj : j ≠ k) (h : W.cell? ⟨g, i, none⟩ = some a ∧ W.cell? ⟨g, j, none⟩ = some b ∧ W.cell? ⟨g, k, none⟩ = some (held W ⟨g, k, none⟩) ∧ W.frozen? ⟨g, k, none⟩ = false) :
    (W.setCell ⟨g, k, none⟩ u).cell? ⟨g, i, none⟩ = some a ∧ (W.setCell ⟨g, k, none⟩ u).cell? ⟨g, j, none⟩ = some b ∧ (W.setCell ⟨g, k, none⟩ u).cell? ⟨g, k, none⟩ = some (held (W.setCell ⟨g, k, none⟩ u) ⟨g, k, none⟩) ∧ (W.setCell ⟨g, k, none⟩ u).frozen? ⟨g, k, none⟩ = false := by
  refine ⟨?_, ?_, cell_held (World.cell?_setCell_same' _ _ _ (by rw [h.2.2.1]; rfl)), by rw [World.frozen?_setCell]; exact h.2.2.2⟩
  · rw [World.cell?_setCell_other (h := by intro e; cases e; exact hi rfl)]; exact h.1
  · rw [World.cell?_setCell_other (h := by intro e; cases e; exact hj rfl)]; exact h.2.1
section
variable {P : Program}
theorem run_index_arr {T elem : TypeId} {len : Nat} (hu : P.underlying T = some (.array len elem)) (hp : P.plainKey elem = true) {inf : TypeInfo} (hi : P.info? elem = some inf) (h1 : P.cellsOf elem = 1)
    {cs : Array Value} {k : Nat} (hk : k < len) {v : Value} (hv : cs[k]? = some v) (w : World) : (Instr.index T (.agg cs) (.int .i64 (k : Int))).run P w = .ok v w := by
  have h2 : (0 : Int) ≤ (k : Int) ∧ (k : Int) < (len : Int) := by omega
  simp [Instr.index, asIntOf, run_underlying hu, run_sizeOf (w := w) hi, h1, hk, run_part_plain w hp hv]
theorem wpList_loadR {ops : Array Oper} {rest : List Oper} {o : Oper} {a : Act} {w : World} {Q : Exit → Act → World → Prop} (hgd : o.guard = none) {ty : TypeId} {x : Operand} (ho : o.op = .load ty x) {n : Nat} (W : Wide P ty n)
    {g : Nat} (hx : a.eval x = .pointer (some ⟨g, 0, none⟩)) {cs : List Value} {arr : Array Value} (hB : w.rangeAt g 0 cs) (hn : cs.length = n) (ha : cs.toArray = arr) (h : wpList P ops Q rest (a.put o.dst (.agg arr)) w) : wpList P ops Q (o :: rest) a w :=
  wpList_plain hgd fun _ hK => by
    obtain ⟨d, hu, hd⟩ := W.und
    refine wp_load_mid ty x ho g 0 hx cs d hB hu hd (by rw [hn]; exact W.info) ?_
    rw [ha]
    exact hK _ _ h
theorem loadVar_blk {w : World} {b : Nat} {t : TypeId} {cs : Array Value} (hB : Blk w b t cs) {T : TypeId} {n : Nat} (W : Wide P T n) (hn : cs.size = n) : (loadVar T ⟨b, 0, none⟩).run P w = .ok (.agg cs) w := by
  obtain ⟨d, hu, hd⟩ := W.und
  have := run_loadVar_mid (P := P) w b 0 T cs.toList d hB.range hu hd (by rw [Array.length_toList, hn]; exact W.info)
  rw [Array.toArray_toList] at this
  exact this
theorem results_blk {fn : Func} {i : Tmp} {T : TypeId} {n : Nat} (W : Wide P T n) (hf : fn.results = #[.cell i T]) {tmps : Array Value} {w : World} {b : Nat} {t : TypeId} {cs : Array Value} (hB : Blk w b t cs) (hn : cs.size = n) (ei : tmps.getD i undef = .pointer (some ⟨b, 0, none⟩)) :
    (results fn tmps).run P w = .ok (.agg cs) w := by
  have h1 := loadVar_blk hB W hn
  simp only [Array.getD_eq_getD_getElem?] at ei
  simp [results, hf, ei, asAddr, h1]
theorem Reads.sub {w : World} {v : Value} {n : Nat} {xs : List Value} (h : Reads w 1 v n xs) (i m : Nat) (hi : i + m ≤ n) (hm : 0 < m) :
    ∃ b o c, v = .slice (some ⟨b, o, none⟩) n c ∧ n ≤ c ∧ c ≤ maxLen ∧ b < w.heap.size ∧ Reads w 1 (.slice (some ⟨b, o + i, none⟩) m (c - i)) m ((xs.drop i).take m) := by
  obtain ⟨b, o, c, u, rfl, h1, h2, h3, _, _⟩ := h.at1 (k := 0) (by omega)
  have hl := h.1
  refine ⟨b, o, c, rfl, h1, h2, h3, by simp; omega, _, _, rfl, by omega, by omega, fun _ => ⟨b, o + i, rfl, fun j u hu => ?_⟩⟩
  have hj : j < m := by
    rcases Nat.lt_or_ge j m with h | h
    · exact h
    · rw [List.getElem?_eq_none (by simp; omega)] at hu; cases hu
  rw [List.getElem?_take, if_pos hj, List.getElem?_drop] at hu
  obtain ⟨_, A, c', e, _, _, h4⟩ := h
  cases e
  obtain ⟨b', o', e, hc⟩ := h4 (by omega)
  cases e
  rw [Nat.add_assoc]
  exact hc _ _ hu
theorem Reads.cap {w : World} {A : Option Addr} {n c c' : Nat} {xs : List Value} (h : Reads w 1 (.slice A n c) n xs) (h1 : n ≤ c') (h2 : c' ≤ maxLen) : Reads w 1 (.slice A n c') n xs := by
  obtain ⟨hl, A', c'', e, _, _, h4⟩ := h
  cases e
  exact ⟨hl, A, c', rfl, h1, h2, h4⟩
theorem Reads.of_blk {w : World} {g : Nat} {t : TypeId} {cs : Array Value} (h : Blk w g t cs) {i n c : Nat} (hi : i + n ≤ cs.size) (hc : n ≤ c) (hm : c ≤ maxLen) :
    Reads w 1 (.slice (some ⟨g, i, none⟩) n c) n ((cs.toList.drop i).take n) := by
  refine ⟨by simp; omega, _, _, rfl, hc, hm, fun _ => ⟨g, i, rfl, fun j u hu => ?_⟩⟩
  have hj : j < n := by
    rcases Nat.lt_or_ge j n with h | h
    · exact h
    · rw [List.getElem?_eq_none (by simp; omega)] at hu; cases hu
  rw [List.getElem?_take, if_pos hj, List.getElem?_drop] at hu
  rw [h.cell, ← hu]
  simp
end
end Go.Proofs.YtihghljfmlbfhaaDoor
