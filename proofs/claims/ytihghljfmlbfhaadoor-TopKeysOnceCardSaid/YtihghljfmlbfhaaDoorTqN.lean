/-
  Several texts in one file: each has its own heading below.
-/
import Derived.Test.YtihghljfmlbfhaaDoorTqF
import Derived.Test.YtihghljfmlbfhaaDoorTqM
import Derived.WalkMore
import Derived.Test.YtihghljfmlbfhaaDoorTqL


namespace Go.Proofs.YtihghljfmlbfhaaDoor.Pv
open Go.RowKit
theorem funX_head {P : Program} {I : World → Prop} {fn : Func} {os : List Ob} {O : List Acc → Option Res} {dev : Option (List Acc × List Acc)} {stp : List Acc → Prop} {args : List PV} (hnb : Nat.ble args.length fn.ntmps = true)
    (hos : (os.all fun o => Nat.blt dx o.x) = true) {w : World} {ok0 : Nat → Prop} {vs : List Value} {bl : Nat → Nat} {D : Dv} {X0 : Nat → Prop}
    (hM : ∀ w', Chg (SX os bl D) w w' → I w') (hold : ∀ b, SX os bl D b → b < w.heap.size ∧ ¬ ok0 b) (hst : DvStep P D stp) (hpW : ∀ l X Y w w' chain, D.pan l X w chain → Chg X w w' → (∀ b, Y b → X b) → D.pan l Y w' chain) (hO : D.O = O)
    (hdv : ∀ p, dev = some p → D.inv p.1 X0 w) (hnd : dev = none → (∀ b, ¬ D.S b) ∧ ∀ l X w, ¬ D.inv l X w)
    (hob : ∀ o ∈ os, X0 (bl o.x) ∧ ∃ cs, Blk w (bl o.x) o.t cs ∧ RL { w, ok := ok0, env := fun _ => none } o.l cs.toList) (hinj : ∀ o ∈ os, ∀ o' ∈ os, bl o.x = bl o'.x → o.x = o'.x)
    (hv : Vals { w, ok := ok0, env := envX os bl dev D.hd } args vs) : AmbOk P I ⟨w, SX os bl D, ok0, fn.ntmps, extX os bl dev D.hd, D, stp, X0⟩ ∧ Gam ⟨w, SX os bl D, ok0, fn.ntmps, extX os bl dev D.hd, D, stp, X0⟩ ⟨slots 0 args, headO os O dev stp⟩ { tmps := vs.toArray ++ Array.replicate (fn.ntmps - vs.toArray.size) undef, defers := [] } w := by
  have hlen := hv.length
  have hn := Nat.le_of_ble_eq_true hnb
  have hgt : ∀ o ∈ os, dx < o.x := fun o ho => by
    have := List.all_eq_true.1 hos o ho
    have h3 : dx + 1 ≤ o.x := by simpa [Nat.blt] using this
    exact h3
  have hdxo : hasOb os dx = false := by
    cases h : hasOb os dx with
    | false => rfl
    | true =>
      obtain ⟨o, h1, h2⟩ := hasOb_mem h
      have := hgt o h1; omega
  subst hO
  let A : Amb := ⟨w, SX os bl D, ok0, fn.ntmps, extX os bl dev D.hd, D, stp, X0⟩
  have hext : ∀ x hd, extX os bl dev D.hd x = some hd → (hasOb os x = true ∧ hd = boxAt (bl x)) ∨ (x = dx ∧ hd = D.hd ∧ dev.isSome = true) := by
    intro x hd h
    unfold extX at h
    split at h
    · rename_i h1; cases h; exact .inl ⟨h1, rfl⟩
    · rename_i h1 h2 h3; cases h; exact .inr ⟨beqT h3, rfl, rfl⟩
    · cases h
  have hA : AmbOk P I A := ⟨hM, fun b h => .inl h, hold, hst, fun l X w' hi => by
    cases hd : dev with
    | none => exact ((hnd hd).2 l X w' hi).elim
    | some p => show extX os bl dev D.hd dx = _; unfold extX; rw [hdxo, hd]; rfl, hpW⟩
  have hown : ∀ b, ownB A (envX os bl dev D.hd) b → X0 b := by
    rintro b (h | ⟨x, ver, hd, h1, h2⟩)
    · exact h
    · unfold envX at h1
      cases hx : extX os bl dev D.hd x with
      | none => rw [hx] at h1; cases h1
      | some h =>
        rw [hx] at h1
        cases h1
        rcases hext x _ hx with ⟨h3, rfl⟩ | ⟨_, rfl, _⟩
        · obtain ⟨o, h4, rfl⟩ := hasOb_mem h3
          rw [hblk_boxAt h2]
          exact (hob o h4).1
        · rw [D.noBlk] at h2; cases h2
  have hhead : ∀ x p, find (headO os D.O dev stp) x = some p → (∃ o ∈ os, o.x = x ∧ p = (none, 0, .box o.t o.l)) ∨ (x = dx ∧ ∃ q, dev = some q ∧ p = (none, 0, .dev D.O stp q.1)) := by
    intro x p h
    unfold headO at h
    cases hd : dev with
    | none => rw [hd] at h; exact .inl (find_obs h)
    | some q =>
      rw [hd] at h
      by_cases hx : dx = x
      · subst hx; rw [find_cons_eq] at h; cases h; exact .inr ⟨rfl, q, rfl, rfl⟩
      · rw [find_cons_ne _ _ hx] at h; exact .inl (find_obs h)
  have henv : ∀ o ∈ os, envX os bl dev D.hd o.x = some (0, boxAt (bl o.x)) := fun o ho => by
    unfold envX extX
    rw [mem_hasOb ho]
    rfl
  have hle0 : ∀ {pv : PV} {v : Value}, RV { w, ok := ok0, env := envX os bl dev D.hd } pv v → RV (ctxOf A w (envX os bl dev D.hd)) pv v := fun h => h.le ⟨Nat.le_refl _, fun b hlt ho => ⟨⟨.inl ho, fun x ver hd hx hb => by
      unfold envX at hx
      cases hx2 : extX os bl dev D.hd x with
      | none => rw [hx2] at hx; cases hx
      | some h =>
        rw [hx2] at hx
        cases hx
        rcases hext x _ hx2 with ⟨h3, rfl⟩ | ⟨_, rfl, _⟩
        · obtain ⟨o, h4, rfl⟩ := hasOb_mem h3
          have := hblk_boxAt hb
          subst this
          exact (hold _ (.inr ⟨o, h4, rfl⟩)).2 ho
        · rw [D.noBlk] at hb; cases hb⟩, rfl⟩, fun x ver hd h => ⟨ver, hd, h, Nat.le_refl _, fun _ => rfl⟩⟩
  have hg : Gam A ⟨slots 0 args, headO os D.O dev stp⟩ { tmps := vs.toArray ++ Array.replicate (fn.ntmps - vs.toArray.size) undef, defers := [] } w := by
    refine ⟨envX os bl dev D.hd, { chg := Chg.refl _ _, size := ?_, dom := fun x hx => ?_, objs := fun x g ver o h => ?_, live := fun x ver hd b h hb => ?_, inj := fun x y v1 h1 v2 h2 b hx hy hb1 hb2 => ?_, tmps := fun t g pv h hgt => ?_, defers := rfl, und := fun t pv h => (by obtain ⟨k, _, h2⟩ := find_slotsG h; cases h2), exts := fun x hd hx => ?_, dev := fun g ver O stp' l h _ => ?_ }⟩
    · simp [A]; omega
    · unfold envX extX
      have h1 : hasOb os x = false := by
        unfold headO at hx
        cases hd : dev with
        | none => rw [hd] at hx; exact find_obs_none hx
        | some q =>
          rw [hd] at hx
          by_cases hdx : dx = x
          · subst hdx; exact hdxo
          · rw [find_cons_ne _ _ hdx] at hx; exact find_obs_none hx
      rw [h1]
      cases hd : dev with
      | none => rfl
      | some q =>
        have : Nat.beq x dx = false := by
          cases hb : Nat.beq x dx with
          | false => rfl
          | true =>
            obtain rfl := beqT hb
            unfold headO at hx
            rw [hd, find_cons_eq] at hx
            cases hx
        rw [this]
        rfl
    · rcases hhead x _ h with ⟨ob, h1, rfl, h2⟩ | ⟨rfl, q, h1, h2⟩
      · cases h2
        obtain ⟨_, cs, h3, h4⟩ := hob ob h1
        refine ⟨boxAt (bl ob.x), henv ob h1, fun _ => ⟨_, cs, rfl, h3, ?_⟩⟩
        refine h4.le ⟨Nat.le_refl _, fun b hlt hok => ⟨⟨.inl hok, fun x ver hd hx hb => ?_⟩, rfl⟩, fun _ _ _ h => by cases h⟩
        have hx' : envX os bl dev D.hd x = some (ver, hd) := hx
        unfold envX at hx'
        cases hx2 : extX os bl dev D.hd x with
        | none => rw [hx2] at hx'; cases hx'
        | some h =>
          rw [hx2] at hx'
          cases hx'
          rcases hext x _ hx2 with ⟨h5, rfl⟩ | ⟨_, rfl, _⟩
          · obtain ⟨o, h6, rfl⟩ := hasOb_mem h5
            have := hblk_boxAt hb
            subst this
            exact (hold _ (.inr ⟨o, h6, rfl⟩)).2 hok
          · rw [D.noBlk] at hb; cases hb
      · cases h2
        refine ⟨D.hd, ?_, fun _ => trivial⟩
        unfold envX extX
        rw [hdxo, h1]
        rfl
    · unfold envX at h
      cases hx2 : extX os bl dev D.hd x with
      | none => rw [hx2] at h; cases h
      | some h' =>
        rw [hx2] at h
        cases h
        rcases hext x _ hx2 with ⟨h3, rfl⟩ | ⟨_, rfl, _⟩
        · obtain ⟨o, h4, rfl⟩ := hasOb_mem h3
          have := hblk_boxAt hb
          subst this
          exact ⟨(hold _ (.inr ⟨o, h4, rfl⟩)).1, .inr ⟨.inr ⟨o, h4, rfl⟩, Nat.ble_eq_true_of_le (Nat.le_of_lt (hgt o h4))⟩⟩
        · rw [D.noBlk] at hb; cases hb
    · unfold envX at hx hy
      cases hx2 : extX os bl dev D.hd x with
      | none => rw [hx2] at hx; cases hx
      | some hx3 =>
        cases hy2 : extX os bl dev D.hd y with
        | none => rw [hy2] at hy; cases hy
        | some hy3 =>
          rw [hx2] at hx
          rw [hy2] at hy
          cases hx
          cases hy
          rcases hext x _ hx2 with ⟨h3, rfl⟩ | ⟨_, rfl, _⟩
          · rcases hext y _ hy2 with ⟨h4, rfl⟩ | ⟨_, rfl, _⟩
            · obtain ⟨o, h5, rfl⟩ := hasOb_mem h3
              obtain ⟨o', h6, rfl⟩ := hasOb_mem h4
              refine hinj o h5 o' h6 ?_
              rw [← hblk_boxAt hb1, ← hblk_boxAt hb2]
            · rw [D.noBlk] at hb2; cases hb2
          · rw [D.noBlk] at hb1; cases hb1
    · obtain ⟨k, h1, h2⟩ := find_slots h
      obtain ⟨v, h3, h4⟩ := hv.at h2
      rw [Nat.zero_add] at h1
      subst h1
      have hk : t < vs.length := (List.getElem?_eq_some_iff.1 h3).1
      refine ⟨v, ?_, hle0 h4⟩
      rw [Array.getElem?_append_left (by simpa using hk)]
      simpa using h3
    · refine ⟨?_, 0, hd, ?_, Nat.le_refl _, fun _ => rfl⟩
      · rcases hext x hd hx with ⟨h3, _⟩ | ⟨rfl, _, _⟩
        · obtain ⟨o, h4, rfl⟩ := hasOb_mem h3
          exact Nat.ble_eq_true_of_le (Nat.le_of_lt (hgt o h4))
        · exact Nat.ble_eq_true_of_le (Nat.le_refl _)
      · show envX os bl dev D.hd x = some (0, hd)
        unfold envX
        have : extX os bl dev D.hd x = some hd := hx
        rw [this]
        rfl
    · rcases hhead dx _ h with ⟨ob, h1, h2, _⟩ | ⟨_, q, h1, h2⟩
      · have := hgt ob h1; omega
      · cases h2
        exact ⟨rfl, rfl, D.grow _ _ _ _ _ (hdv q h1) (Chg.refl _ _) (fun b hb => .inl (hown b hb))⟩
  exact ⟨hA, hg⟩
def FunB (P : Program) (I : World → Prop) (f : Nat) (os : List Ob) (args : List PV) (res : Sum PV (List PanicEntry)) : Prop :=
  ∀ (w : World) (ok0 : Nat → Prop) (vs : List Value) (bl : Nat → Nat),
    (∀ w', Chg (SX os bl Dv.non) w w' → I w') → (∀ b, SX os bl Dv.non b → b < w.heap.size ∧ ¬ ok0 b) →
    (∀ o ∈ os, ∃ cs, Blk w (bl o.x) o.t cs ∧ RL { w, ok := ok0, env := fun _ => none } o.l cs.toList) → (∀ o ∈ os, ∀ o' ∈ os, bl o.x = bl o'.x → o.x = o'.x) →
    Vals { w, ok := ok0, env := envX os bl none Dv.non.hd } args vs →
    Calls P f vs.toArray w fun e w' => Chg (SX os bl Dv.non) w w' ∧ (∀ o ∈ os, ∃ cs, Blk w' (bl o.x) o.t cs ∧ RL { w := w', ok := okRes w ok0 false, env := fun _ => none } o.l' cs.toList) ∧
      match res with
      | .inl r => ∃ val, e = .returned val ∧ RV { w := w', ok := okRes w ok0 false, env := fun _ => none } r val
      | .inr chain => e = .panicked chain
def EndB (os : List Ob) (s : St) : Prop := ∀ o ∈ os, ∃ l, find s.o o.x = some (none, 0, .box o.t l) ∧ ExL s false l o.l'
def RQB (P : Program) (A : Amb) (fn : Func) (os : List Ob) (res : Sum PV (List PanicEntry)) : Exit → Act → World → Prop
  | .panic chain, a, w => a.defers = [] ∧ res = .inr chain ∧ ∃ s, EndB os s ∧ Gam A s a w
  | e, a, w => (e = .normal ∨ e = .ret) ∧ ∃ r, res = .inl r ∧ ∃ s, (RetTo P fn false r s ∧ EndB os s) ∧ Gam A s a w
theorem funB_of {P : Program} {I : World → Prop} {f : Nat} {fn : Func} {c : Code} {os : List Ob} {args : List PV} {res : Sum PV (List PanicEntry)} (hf : P.funcs[f]? = some fn) (hb : fn.body = some c) (hnb : Nat.ble args.length fn.ntmps = true)
    (hos : (os.all fun o => Nat.blt dx o.x) = true)
    (hT : ∀ A : Amb, A.nt = fn.ntmps → AmbOk P I A → Tri P A ⟨slots 0 args, os.map (fun o => (o.x, none, 0, .box o.t o.l))⟩ c (RQB P A fn os res)) : FunB P I f os args res := by
  intro w ok0 vs bl hM hold hob hinj hv
  obtain ⟨hA, hg⟩ := funX_head (fn := fn) (O := fun _ => none) (dev := none) (stp := fun _ => False) (X0 := fun _ => True) (D := Dv.non) hnb hos hM hold (DvStep.non P) (fun _ _ _ _ _ _ h => h.elim) rfl (fun p hp => by cases hp) (fun _ => ⟨fun _ h => h, fun _ _ _ h => h⟩) (fun o ho => ⟨trivial, hob o ho⟩) hinj hv
  generalize hAe : (⟨w, SX os bl Dv.non, ok0, fn.ntmps, extX os bl none Dv.non.hd, Dv.non, fun _ => False, fun _ => True⟩ : Amb) = A at hA hg
  have key : ∀ (s : St) (a' : Act) (w' : World) (env : Env), EndB os s → GamE A s a' w' env → OwnS A s env ∧ ∀ o ∈ os, ∃ cs, Blk w' (bl o.x) o.t cs ∧ RL { w := w', ok := okRes w ok0 false, env := fun _ => none } o.l' cs.toList := by
    intro s a' w' env hE1 hE
    subst hAe
    have hbox : ∀ o ∈ os, env o.x = some (0, boxAt (bl o.x)) := fun o ho => by
      obtain ⟨l, hf', _⟩ := hE1 o ho
      obtain ⟨hd, h8, _⟩ := hE.objs o.x none 0 _ hf'
      have h9 : extX os bl none Dv.non.hd o.x = some (boxAt (bl o.x)) := by unfold extX; rw [mem_hasOb ho]
      have := (hE.exts o.x _ h9).2.now h8
      rw [h8, this]
    have hS : OwnS (⟨w, SX os bl Dv.non, ok0, fn.ntmps, extX os bl none Dv.non.hd, Dv.non, fun _ => False, fun _ => True⟩ : Amb) s env := by
      intro x g ver e n len f0 hd b hfx hex hbx hs
      rcases hs with hs | ⟨o, ho, rfl⟩
      · exact hs.elim
      · obtain ⟨l, hf', _⟩ := hE1 o ho
        have := hE.inj x o.x ver hd 0 _ (bl o.x) hex (hbox o ho) hbx rfl
        subst this
        rw [hf'] at hfx
        cases hfx
    refine ⟨hS, fun o ho => ?_⟩
    obtain ⟨l, hf', hx⟩ := hE1 o ho
    obtain ⟨hd, h8, h9⟩ := hE.objs o.x none 0 _ hf'
    obtain ⟨g, cs, e1, h10, h11⟩ := h9 trivial
    rw [hbox o ho] at h8
    cases h8
    cases e1
    exact ⟨cs, h10, exL_ok hE hS hx h11⟩
  have hchg : ∀ {s : St} {a' : Act} {w' : World} {env : Env}, GamE A s a' w' env → Chg (SX os bl Dv.non) w w' := by
    intro s a' w' env hE
    subst hAe
    exact hE.chg
  have hnt : A.nt = fn.ntmps := by subst hAe; rfl
  have hst : A.stp = fun _ => False := by subst hAe; rfl
  refine calls_of_wp hf hb (wp_mono (hT A hnt hA _ w hg (fun chain a w hd h => ?_)) (fun e a' w' he => ?_))
  · obtain ⟨l, h1, _⟩ := h
    rw [hst] at h1
    exact h1.elim
  cases e with
  | panic chain =>
    obtain ⟨hd, rfl, s, hE1, env, hE⟩ := he
    exact ⟨hd, hchg hE, (key s _ _ env hE1 hE).2, rfl⟩
  | exit id => obtain ⟨h1 | h1, _⟩ := he <;> cases h1
  | goto _ => obtain ⟨h1 | h1, _⟩ := he <;> cases h1
  | outgrown => obtain ⟨h1 | h1, _⟩ := he <;> cases h1
  | normal | ret =>
    obtain ⟨_, r, rfl, s, ⟨⟨v, h2, h3⟩, hE1⟩, env, hE⟩ := he
    obtain ⟨v', val, h5, h6, h7, _⟩ := retM_ok hE h2
    subst h7
    obtain ⟨hS, hobs⟩ := key s _ _ env hE1 hE
    have hres := exV_ok hE hS h3 h6
    have hres2 : RV { w := w', ok := okRes w ok0 false, env := fun _ => none } r val := by
      subst hAe
      exact hres
    exact ⟨hE.defers, val, h5, hchg hE, hobs, val, rfl, hres2⟩
end Go.Proofs.YtihghljfmlbfhaaDoor.Pv


namespace Go.Proofs.YtihghljfmlbfhaaDoor.Pv
open Go.RowKit
def fltF (F : List Flt) : Nat → List PC := fun i => fltPC (F.getD i flt0)
def fltsPC (F : List Flt) : PC := .sl 3 F.length (fltF F)
def cutV : Value := .iface 78 (.agg #[])
def liveObs (F : List Flt) (h h' : HwS) (i : Nat) : List Ob := [⟨900001, 3, [.lit (.int .i64 i)], [.lit (.int .i64 ((i + 1 : Nat) : Int))]⟩, ⟨900002, 40, [fltsPC F], [fltsPC F]⟩, ⟨900003, 34, hwL h, hwL h'⟩]
def doEnd (x : HwS × Res × Int) (t : Flt) : Sum PV (List PanicEntry) := if t.cut then .inr [{ v := cutV, recovered := false }] else .inl (.w (.agg (resPC x.2.1)))
def lvdL : List (Nat × Spec) := [(24, funSpec false ddG)]
theorem lvd_ok : ∀ p ∈ lvdL, SpecOk Tryd.prog ShaMem p.1 p.2 := by
  intro p hp
  obtain rfl := List.mem_singleton.1 hp
  exact ddo_spec
theorem lvdM : Mach Tryd.prog ShaMem (find lvdL) := ⟨specs_of lvd_ok, mixed_⟩
def lvO (F : List Flt) (h : HwS) (i : Int) (a : Acc) : Wr := [(900001, none, 0, .box 3 [.lit (.int .i64 i)]), (900002, none, 0, .box 40 [fltsPC F]), (900003, none, 0, .box 34 (hwL h)), (0, none, 0, .box 72 (accPC a)), (1, none, 0, .box 74 (resPC zeroR))]
def lvT : List (Nat × Option Bool × PV) := [(1, none, pv1 (.pt 900001 0 0)), (2, none, pv1 (.pt 900002 0 0)), (3, none, pv1 (.pt 900003 0 0)), (4, none, pv1 (.pt 0 0 0)), (5, none, pv1 (.pt 1 0 0)), (6, none, pv1 (.pt 1000 0 0))]
def lvdSt (F : List Flt) (h : HwS) (i : Int) (a : Acc) (t : Flt) : St := ⟨lvT, (1000, none, 0, .box 42 (fltPC t)) :: lvO F h i a⟩
def lvS2 (F : List Flt) (h h' : HwS) (i : Int) (a : Acc) (t : Flt) (r : Res) : St := ⟨(7, none, pv1 (.pt 5008 0 0)) :: (8, none, pv1 (.pt 5009 0 0)) :: (9, none, pvI 0) :: lvT, (5008, none, 0, .box 34 (hwL h')) :: (5009, none, 0, .box 74 (resPC r)) :: (1000, none, 0, .box 42 (fltPC t)) :: lvO F h i a⟩
def lvS3 (F : List Flt) (h' : HwS) (i : Int) (a : Acc) (t : Flt) (r : Res) : St := ⟨(8, none, pv1 (.pt 5009 0 0)) :: lvT, (5009, none, 0, .box 74 (resPC r)) :: (1000, none, 0, .box 42 (fltPC t)) :: lvO F h' i a⟩
theorem good_err {h : HwS} {a : Acc} (g : GoodA h a) (t : Flt) : (devDo h a t).2.2 = 0 := by
  obtain ⟨k, b, c, s⟩ := a
  obtain ⟨h1, h2, h3, h4⟩ := g
  dsimp only at h1 h2 h3 h4
  subst h2 h3
  rcases h1 with rfl | rfl
  · have := devDo_rd (t := t) h4; unfold accA at this; rw [this]
  · have := devDo_pul (t := t) h4; unfold accA at this; rw [this]
theorem GamE.forget {A : Amb} {s : St} {a a' : Act} {w : World} {env : Env} (h : GamE A s a w env) (h1 : a'.tmps.size = a.tmps.size) (h2 : a'.defers = a.defers) : GamE A ⟨[], s.o⟩ a' w env :=
  { chg := h.chg, size := h1.trans h.size, dom := h.dom, objs := h.objs, live := h.live, inj := h.inj, tmps := fun t g pv hf => (by cases hf), defers := h2.trans h.defers, und := fun t pv hf => (by cases hf), exts := h.exts, dev := h.dev }
set_option maxRecDepth 100000 in
theorem wp_cut (t1 t2 : Nat) (ops : Array Oper) (p1 p2 p3 : String) (f1 f2 f3 : Array Edge) (hops : ops = #[{ dst := some 33, op := Op.build 78 #[], type := 78, pos := p1, after := f1, guard := none }, { dst := some 34, op := Op.makeInterface 78 (Operand.tmp 33), type := t1, pos := p2, after := f2, guard := none }, { dst := none, op := Op.panic (Operand.tmp 34), type := t2, pos := p3, after := f3, guard := none }])
    {a : Act} {w : World} {Q : Exit → Act → World → Prop} (hsz : a.tmps.size = 36) (hQ : ∀ a', a'.tmps.size = a.tmps.size → a'.defers = a.defers → Q (.panic [{ v := cutV, recovered := false }]) a' w) : (Code.region 9 ops false).wp Tryd.prog Q a w := by
  subst hops
  apply wp_region
  simp [wpOps, go_sem, Region.wanted]
  refine .inl (.inl (.inl ?_))
  rw [if_pos (by omega), if_pos (by omega)]
  simp [Instr.panic]
  exact hQ _ (by simp) rfl
set_option maxRecDepth 100000 in
set_option maxHeartbeats 2000000 in
theorem livedo_fun (F : List Flt) (h : HwS) (i : Nat) (c : Acc) (g : GoodA h c) (hi : i ≤ 1000000) (_ : F.length ≤ 1000000) : FunB Tryd.prog ShaMem 23 (liveObs F h (devDo h c (fltAt F i)).1 i)
    [.w (.agg (accPC c)), pv1 (.pt 900001 0 0), pv1 (.pt 900002 0 0), pv1 (.pt 900003 0 0)] (doEnd (devDo h c (fltAt F i)) (fltAt F i)) := by
  have M := lvdM
  have herr := good_err g (fltAt F i)
  refine funB_of Tryd.func23 rfl rfl rfl (fun A hn hI => ?_)
  refine tri_reg M hI hn (outs := ?_) (s' := ?_) ?_ ?_ ?_ ?_
  rotate_left 2
  · rfl
  · kernel_rfl
  · simp
  refine tri_reg M hI hn (outs := ?_) (s' := ?_) ?_ ?_ ?_ ?_
  rotate_left 2
  · rfl
  · kernel_rfl
  · simp
  refine tri_seq ?_
  refine tri_reg M hI hn (outs := ?_) (s' := ?_) ?_ ?_ ?_ ?_
  rotate_left 2
  · rfl
  · kernel_rfl
  · simp
  refine tri_cond (b := ?_) ?_ (fun hc => ?_) (fun hc => ?_)
  rotate_left 1
  · rfl
  · have hlt : i < F.length := by have := of_decide_eq_true hc; omega
    refine tri_region M hI hn (outs := ?_) (s' := ?_) ?_ ?_ ?_ ?_
    rotate_left 2
    · rfl
    · kernel_rfl
    · simp
      exact hlt
    change Tri _ _ _ _ _
    refine tri_conv (s' := lvdSt F h (i : Int) c (fltAt F i)) (fun a w hg => (hg.reset (kT := [1, 2, 3, 4, 5, 6]) (kO := [1000, 900001, 900002, 900003, 0, 1]) (by rfl) (by simp)).same ?_ ?_) ?_
    · exact .cons rfl (.cons rfl (.cons rfl (.cons rfl (.cons rfl (.cons rfl .nil)))))
    · exact .cons (.box rfl) (.cons (.box rfl) (.cons (.box rfl) (.cons (.box rfl) (.cons (.box rfl) (.cons (.box rfl) .nil)))))
    refine tri_reg M hI hn (outs := ?_) (s' := ?_) ?_ ?_ ?_ ?_
    rotate_left 2
    · rfl
    · kernel_rfl
    · simp
    refine tri_reg M hI hn (outs := ?_) (s' := ?_) ?_ ?_ ?_ ?_
    rotate_left 2
    · rfl
    · kernel_rfl
    · simp
      exact g
    refine tri_conv (s' := lvS2 F h (devDo h c (fltAt F i)).1 ((i + 1 : Nat) : Int) c (fltAt F i) (devDo h c (fltAt F i)).2.1) (fun a w hg => (hg.reset (kT := [7, 8, 9, 1, 2, 3, 4, 5, 6]) (kO := [5008, 5009, 1000, 900001, 900002, 900003, 0, 1]) (by rfl) (by simp)).same ?_ ?_) ?_
    · refine .cons rfl (.cons rfl (.cons ?_ (.cons rfl (.cons rfl (.cons rfl (.cons rfl (.cons rfl (.cons rfl .nil))))))))
      change pvI (devDo ⟨rowBk h.b.length (bankF h.b), fsRow h.f.length (fsF h.f), h.r⟩ c (fltAt F i)).2.2 = _
      rw [rowBk_bankF, fsRow_fsF, herr]
    · refine .cons (.box ?_) (.cons (.box ?_) (.cons (.box rfl) (.cons (.box ?_) (.cons (.box rfl) (.cons (.box rfl) (.cons (.box rfl) (.cons (.box rfl) .nil)))))))
      · change hwL (devDo ⟨rowBk h.b.length (bankF h.b), fsRow h.f.length (fsF h.f), h.r⟩ c (fltAt F i)).1 = _
        rw [rowBk_bankF, fsRow_fsF]
      · change resPC (devDo ⟨rowBk h.b.length (bankF h.b), fsRow h.f.length (fsF h.f), h.r⟩ c (fltAt F i)).2.1 = _
        rw [rowBk_bankF, fsRow_fsF]
      · rw [wrap_nat i (by omega)]
    generalize (devDo h c (fltAt F i)).1 = h' at herr ⊢
    refine tri_seq ?_
    refine tri_reg M hI hn (outs := ?_) (s' := ?_) ?_ ?_ ?_ ?_
    rotate_left 2
    · rfl
    · kernel_rfl
    · simp
    refine tri_cond (b := ?_) ?_ (fun hc => ?_) (fun hc => ?_)
    rotate_left 1
    · rfl
    · refine tri_region M hI hn (outs := ?_) (s' := ?_) ?_ ?_ ?_ ?_
      rotate_left 2
      · rfl
      · kernel_rfl
      · simp
      change Tri _ _ _ _ _
      refine tri_conv (s' := lvS3 F h' ((i + 1 : Nat) : Int) c (fltAt F i) (devDo h c (fltAt F i)).2.1) (fun a w hg => (hg.reset (kT := [8, 1, 2, 3, 4, 5, 6]) (kO := [5009, 1000, 900001, 900002, 900003, 0, 1]) (by rfl) (by simp)).same ?_ ?_) ?_
      · exact .cons rfl (.cons rfl (.cons rfl (.cons rfl (.cons rfl (.cons rfl (.cons rfl .nil))))))
      · exact .cons (.box rfl) (.cons (.box rfl) (.cons (.box rfl) (.cons (.box rfl) (.cons (.box rfl) (.cons (.box rfl) (.cons (.box rfl) .nil))))))
      refine tri_seq ?_
      refine tri_reg M hI hn (outs := ?_) (s' := ?_) ?_ ?_ ?_ ?_
      rotate_left 2
      · rfl
      · kernel_rfl
      · simp
      refine tri_cond (b := ?_) ?_ (fun hc => ?_) (fun hc => ?_)
      rotate_left 1
      · rfl
      · have hcut : (fltAt F i).cut = true := hc
        have he : doEnd (devDo h c (fltAt F i)) (fltAt F i) = .inr [{ v := cutV, recovered := false }] := if_pos hcut
        intro a w hg hPQ
        obtain ⟨env, hE⟩ := hg
        refine wp_cut _ _ _ _ _ _ _ _ _ rfl (by rw [hE.size, hn]; rfl) (fun a' h1 h2 => ?_)
        refine ⟨h2.trans hE.defers, he, ⟨[], _⟩, ?_, env, hE.forget h1 h2⟩
        intro o ho
        simp only [liveObs, List.mem_cons, List.not_mem_nil, or_false] at ho
        rcases ho with rfl | rfl | rfl <;> exact ⟨_, rfl, exL_refl rfl⟩
      · have hcut : ¬ (fltAt F i).cut = true := fun h5 => by
          have h6 : (fltAt F i).cut = false := hc
          rw [h6] at h5; cases h5
        have he : doEnd (devDo h c (fltAt F i)) (fltAt F i) = .inl (.w (.agg (resPC (devDo h c (fltAt F i)).2.1))) := if_neg hcut
        refine tri_skip ?_
        change Tri _ _ _ _ _
        refine tri_reg M hI hn (outs := ?_) (s' := ?_) ?_ ?_ ?_ ?_
        rotate_left 2
        · rfl
        · kernel_rfl
        · simp
        refine tri_ret (fun a w hg => ⟨.inr rfl, _, he, _, ⟨?_, ?_⟩, hg⟩)
        · refine retTo_cold (out := ?_) ?_ ?_ ?_ ?_ ?_
          rotate_left 1
          · rfl
          · simp
          · rfl
          · rfl
          rfl
        · intro o ho
          simp only [liveObs, List.mem_cons, List.not_mem_nil, or_false] at ho
          rcases ho with rfl | rfl | rfl <;> exact ⟨_, rfl, exL_refl rfl⟩
    · cases hc
  · have hge : F.length ≤ i := by have := of_decide_eq_false hc; omega
    have ht : fltAt F i = flt0 := by
      unfold fltAt
      rw [List.getD_eq_getElem?_getD, List.getElem?_eq_none hge]
      rfl
    refine tri_skip ?_
    change Tri _ _ _ _ _
    refine tri_conv (s' := lvdSt F h (i : Int) c (fltAt F i)) (fun a w hg => (hg.reset (kT := [1, 2, 3, 4, 5, 6]) (kO := [1000, 900001, 900002, 900003, 0, 1]) (by rfl) (by simp)).same ?_ ?_) ?_
    · exact .cons rfl (.cons rfl (.cons rfl (.cons rfl (.cons rfl (.cons rfl .nil)))))
    · exact .cons (.box (by rw [ht]; rfl)) (.cons (.box rfl) (.cons (.box rfl) (.cons (.box rfl) (.cons (.box rfl) (.cons (.box rfl) .nil)))))
    refine tri_reg M hI hn (outs := ?_) (s' := ?_) ?_ ?_ ?_ ?_
    rotate_left 2
    · rfl
    · kernel_rfl
    · simp
    refine tri_reg M hI hn (outs := ?_) (s' := ?_) ?_ ?_ ?_ ?_
    rotate_left 2
    · rfl
    · kernel_rfl
    · simp
      exact g
    refine tri_conv (s' := lvS2 F h (devDo h c (fltAt F i)).1 ((i + 1 : Nat) : Int) c (fltAt F i) (devDo h c (fltAt F i)).2.1) (fun a w hg => (hg.reset (kT := [7, 8, 9, 1, 2, 3, 4, 5, 6]) (kO := [5008, 5009, 1000, 900001, 900002, 900003, 0, 1]) (by rfl) (by simp)).same ?_ ?_) ?_
    · refine .cons rfl (.cons rfl (.cons ?_ (.cons rfl (.cons rfl (.cons rfl (.cons rfl (.cons rfl (.cons rfl .nil))))))))
      change pvI (devDo ⟨rowBk h.b.length (bankF h.b), fsRow h.f.length (fsF h.f), h.r⟩ c (fltAt F i)).2.2 = _
      rw [rowBk_bankF, fsRow_fsF, herr]
    · refine .cons (.box ?_) (.cons (.box ?_) (.cons (.box rfl) (.cons (.box ?_) (.cons (.box rfl) (.cons (.box rfl) (.cons (.box rfl) (.cons (.box rfl) .nil)))))))
      · change hwL (devDo ⟨rowBk h.b.length (bankF h.b), fsRow h.f.length (fsF h.f), h.r⟩ c (fltAt F i)).1 = _
        rw [rowBk_bankF, fsRow_fsF]
      · change resPC (devDo ⟨rowBk h.b.length (bankF h.b), fsRow h.f.length (fsF h.f), h.r⟩ c (fltAt F i)).2.1 = _
        rw [rowBk_bankF, fsRow_fsF]
      · rw [wrap_nat i (by omega)]
    generalize (devDo h c (fltAt F i)).1 = h' at herr ⊢
    refine tri_seq ?_
    refine tri_reg M hI hn (outs := ?_) (s' := ?_) ?_ ?_ ?_ ?_
    rotate_left 2
    · rfl
    · kernel_rfl
    · simp
    refine tri_cond (b := ?_) ?_ (fun hc => ?_) (fun hc => ?_)
    rotate_left 1
    · rfl
    · refine tri_region M hI hn (outs := ?_) (s' := ?_) ?_ ?_ ?_ ?_
      rotate_left 2
      · rfl
      · kernel_rfl
      · simp
      change Tri _ _ _ _ _
      refine tri_conv (s' := lvS3 F h' ((i + 1 : Nat) : Int) c (fltAt F i) (devDo h c (fltAt F i)).2.1) (fun a w hg => (hg.reset (kT := [8, 1, 2, 3, 4, 5, 6]) (kO := [5009, 1000, 900001, 900002, 900003, 0, 1]) (by rfl) (by simp)).same ?_ ?_) ?_
      · exact .cons rfl (.cons rfl (.cons rfl (.cons rfl (.cons rfl (.cons rfl (.cons rfl .nil))))))
      · exact .cons (.box rfl) (.cons (.box rfl) (.cons (.box rfl) (.cons (.box rfl) (.cons (.box rfl) (.cons (.box rfl) (.cons (.box rfl) .nil))))))
      refine tri_seq ?_
      refine tri_reg M hI hn (outs := ?_) (s' := ?_) ?_ ?_ ?_ ?_
      rotate_left 2
      · rfl
      · kernel_rfl
      · simp
      refine tri_cond (b := ?_) ?_ (fun hc => ?_) (fun hc => ?_)
      rotate_left 1
      · rfl
      · have hcut : (fltAt F i).cut = true := hc
        have he : doEnd (devDo h c (fltAt F i)) (fltAt F i) = .inr [{ v := cutV, recovered := false }] := if_pos hcut
        intro a w hg hPQ
        obtain ⟨env, hE⟩ := hg
        refine wp_cut _ _ _ _ _ _ _ _ _ rfl (by rw [hE.size, hn]; rfl) (fun a' h1 h2 => ?_)
        refine ⟨h2.trans hE.defers, he, ⟨[], _⟩, ?_, env, hE.forget h1 h2⟩
        intro o ho
        simp only [liveObs, List.mem_cons, List.not_mem_nil, or_false] at ho
        rcases ho with rfl | rfl | rfl <;> exact ⟨_, rfl, exL_refl rfl⟩
      · have hcut : ¬ (fltAt F i).cut = true := fun h5 => by
          have h6 : (fltAt F i).cut = false := hc
          rw [h6] at h5; cases h5
        have he : doEnd (devDo h c (fltAt F i)) (fltAt F i) = .inl (.w (.agg (resPC (devDo h c (fltAt F i)).2.1))) := if_neg hcut
        refine tri_skip ?_
        change Tri _ _ _ _ _
        refine tri_reg M hI hn (outs := ?_) (s' := ?_) ?_ ?_ ?_ ?_
        rotate_left 2
        · rfl
        · kernel_rfl
        · simp
        refine tri_ret (fun a w hg => ⟨.inr rfl, _, he, _, ⟨?_, ?_⟩, hg⟩)
        · refine retTo_cold (out := ?_) ?_ ?_ ?_ ?_ ?_
          rotate_left 1
          · rfl
          · simp
          · rfl
          · rfl
          rfl
        · intro o ho
          simp only [liveObs, List.mem_cons, List.not_mem_nil, or_false] at ho
          rcases ho with rfl | rfl | rfl <;> exact ⟨_, rfl, exL_refl rfl⟩
    · cases hc
end Go.Proofs.YtihghljfmlbfhaaDoor.Pv


namespace Go.Proofs.YtihghljfmlbfhaaDoor.Pv
open Go.RowKit
def kT1 : Nat := 1
def kT2 : Nat := 0
def okL (K X : Nat → Prop) (gN gF gH : Nat) : Nat → Prop := fun b => K b ∧ ¬ X b ∧ b ≠ gN ∧ b ≠ gF ∧ b ≠ gH
structure LiveB (K : Nat → Prop) (gN gF gH : Nat) (F : List Flt) (h0 : HwS) (l : List Acc) (X : Nat → Prop) (w : World) : Prop where
  bn : Blk w gN 3 #[.int .i64 (l.length : Int)]
  bf : ∃ cs, Blk w gF 40 cs ∧ RL { w := w, ok := okL K X gN gF gH, env := fun _ => none } [fltsPC F] cs.toList
  bh : ∃ cs, Blk w gH 34 cs ∧ RL { w := w, ok := okL K X gN gF gH, env := fun _ => none } (hwL (stL F h0 l 0)) cs.toList
  ne : gN ≠ gF ∧ gN ≠ gH ∧ gF ≠ gH
  good : ∀ c ∈ l, GoodC c
  mine : ∀ b, X b → b < w.heap.size ∧ b ≠ gN ∧ b ≠ gF ∧ b ≠ gH
  mem : ShaMem w
  tab : ∀ b, b = kT1 ∨ b = kT2 → ¬ X b ∧ b ≠ gN ∧ b ≠ gF ∧ b ≠ gH
  up : ∀ b, w.heap.size ≤ b → K b
theorem sha_lt {w : World} (h : ShaMem w) {b : Nat} (hb : b = kT1 ∨ b = kT2) : b < w.heap.size := by
  rcases hb with rfl | rfl
  · exact lt_of_cell (h.k 0 _ rfl)
  · exact lt_of_cell (h.h 0 _ rfl)
theorem sha_chg {S : Nat → Prop} {w w' : World} (h : ShaMem w) (hc : Chg S w w') (hS : ∀ b, b = kT1 ∨ b = kT2 → ¬ S b) : ShaMem w' := h.chg hc (hS _ (.inl rfl)) (hS _ (.inr rfl))
theorem LiveB.grow {K : Nat → Prop} {gN gF gH : Nat} {F : List Flt} {h0 : HwS} {l : List Acc} {X Y : Nat → Prop} {w w' : World} (h : LiveB K gN gF gH F h0 l X w) (hc : Chg X w w') (hy : ∀ b, Y b → X b ∨ (w.heap.size ≤ b ∧ b < w'.heap.size)) : LiveB K gN gF gH F h0 l Y w' := by
  have nX : ∀ g, (g = gN ∨ g = gF ∨ g = gH) → ¬ X g := fun g hg hx => by
    have := (h.mine g hx).2
    rcases hg with rfl | rfl | rfl
    · exact this.1 rfl
    · exact this.2.1 rfl
    · exact this.2.2 rfl
  have hle : ∀ {p : List PC} {xs : List Value}, RL { w := w, ok := okL K X gN gF gH, env := fun _ => none } p xs → RL { w := w', ok := okL K Y gN gF gH, env := fun _ => none } p xs := fun hr =>
    hr.le ⟨hc.size, fun b hb hok => ⟨⟨hok.1, fun hyb => (hy b hyb).elim hok.2.1 (fun h1 => by have hb' : b < w.heap.size := hb; omega), hok.2.2⟩, hc.block b hb hok.2.1⟩, fun _ _ _ h => by cases h⟩
  obtain ⟨c1, k1, k2⟩ := h.bf
  obtain ⟨c2, k3, k4⟩ := h.bh
  have lN := h.bn.lt
  have lF := k1.lt
  have lH := k3.lt
  refine ⟨h.bn.chg hc (nX _ (.inl rfl)), ⟨c1, k1.chg hc (nX _ (.inr (.inl rfl))), hle k2⟩, ⟨c2, k3.chg hc (nX _ (.inr (.inr rfl))), hle k4⟩, h.ne, h.good, fun b hb => ?_, sha_chg h.mem hc (fun b hb => (h.tab b hb).1), fun b hb => ⟨fun hyb => ?_, (h.tab b hb).2⟩, fun b hb => h.up b (Nat.le_trans hc.size hb)⟩
  · rcases hy b hb with h1 | h1
    · exact ⟨Nat.lt_of_lt_of_le (h.mine b h1).1 hc.size, (h.mine b h1).2⟩
    · exact ⟨h1.2, by omega, by omega, by omega⟩
  · rcases hy b hyb with h1 | h1
    · exact (h.tab b hb).1 h1
    · have := sha_lt h.mem hb
      omega
def cutChain : List PanicEntry := [{ v := cutV, recovered := false }]
def liveD (K : Nat → Prop) (gN gF gH : Nat) (F : List Flt) (h0 : HwS) : Dv where
  hd := .func (.func 23) #[] #[.pointer (some ⟨gN, 0, none⟩), .pointer (some ⟨gF, 0, none⟩), .pointer (some ⟨gH, 0, none⟩)]
  O := liveO F h0
  S := fun b => b = gN ∨ b = gF ∨ b = gH
  inv l X w := LiveB K gN gF gH F h0 l X w ∧ NoCut F l.length
  pan l X w chain := chain = cutChain ∧ LiveB K gN gF gH F h0 l X w ∧ ∃ l' c, l = l' ++ [c] ∧ NoCut F l'.length ∧ (fltAt F l'.length).cut = true
  one := rfl
  noBlk := rfl
  notS := fun l X w b h hx hs => by
    have := (h.1.mine b hx).2
    rcases hs with rfl | rfl | rfl
    · exact this.1 rfl
    · exact this.2.1 rfl
    · exact this.2.2 rfl
  grow := fun l X Y w w' h hc hy => ⟨h.1.grow hc hy, h.2⟩
theorem liveD_pan (K : Nat → Prop) (gN gF gH : Nat) (F : List Flt) (h0 : HwS) : ∀ l X Y w w' chain, (liveD K gN gF gH F h0).pan l X w chain → Chg X w w' → (∀ b, Y b → X b) → (liveD K gN gF gH F h0).pan l Y w' chain :=
  fun _ _ _ _ _ _ h hc hy => ⟨h.1, h.2.1.grow hc (fun b hb => .inl (hy b hb)), h.2.2⟩
set_option maxRecDepth 100000 in
theorem liveD_step {α : Type} (K : Nat → Prop) (gN gF gH : Nat) (F : List Flt) (h0 : HwS) (hF : F.length ≤ 1000000) (hd : Dim h0) (p : Prg α) (hp : Prg.In 48 p) (hl : (go (liveO F h0) p []).2.length ≤ 1000000) :
    DvStep Tryd.prog (liveD K gN gF gH F h0) (fun h => [] <+: h ∧ h <+: (go (liveO F h0) p []).2) := by
  intro l X w ⟨hB, hN⟩
  refine ⟨_, _, rfl, (fun args w => by kernel_rfl), fun c hc => ?_⟩
  have hO := liveO_snoc F h0 l c
  have hgc : GoodC c := by
    by_cases g : GoodC c
    · exact g
    · have h1 : (liveD K gN gF gH F h0).O (l ++ [c]) = none := by
        show liveO F h0 (l ++ [c]) = none
        rw [hO, if_pos (.inr (.inl g))]
      exact go_good (liveO F h0) p hp [] (fun _ h => by cases h) c ((hc h1).2.subset (by simp))
  have hlen : l.length ≤ 1000000 := by
    rcases Nat.lt_or_ge 1000000 l.length with h2 | h2
    · have h1 : (liveD K gN gF gH F h0).O (l ++ [c]) = none := by
        show liveO F h0 (l ++ [c]) = none
        rw [hO, if_pos (.inr (.inr h2))]
      have h3 := (hc h1).2.length_le
      rw [List.length_append, List.length_singleton] at h3
      omega
    · exact h2
  have hdim := stL_dim (F := F) l 0 hd hB.good
  have hg : GoodA (stL F h0 l 0) c := ⟨hgc.1, hgc.2.1, hgc.2.2.2.2, ⟨hdim.ok, hdim.ex hgc⟩⟩
  have hst := stL_snoc F l c h0
  obtain ⟨bl, hb1, hb2, hb3⟩ : ∃ bl : Nat → Nat, bl 900001 = gN ∧ bl 900002 = gF ∧ bl 900003 = gH := ⟨fun x => if x = 900001 then gN else if x = 900002 then gF else gH, rfl, rfl, rfl⟩
  have hobs : ∀ {h' : HwS} {o : Ob}, o ∈ liveObs F (stL F h0 l 0) h' l.length → (o.x = 900001 ∧ o.t = 3 ∧ o.l = [.lit (.int .i64 (l.length : Int))] ∧ o.l' = [.lit (.int .i64 ((l.length + 1 : Nat) : Int))]) ∨ (o.x = 900002 ∧ o.t = 40 ∧ o.l = [fltsPC F] ∧ o.l' = [fltsPC F]) ∨ (o.x = 900003 ∧ o.t = 34 ∧ o.l = hwL (stL F h0 l 0) ∧ o.l' = hwL h') := by
    intro h' o ho
    simp only [liveObs, List.mem_cons, List.not_mem_nil, or_false] at ho
    rcases ho with rfl | rfl | rfl
    · exact .inl ⟨rfl, rfl, rfl, rfl⟩
    · exact .inr (.inl ⟨rfl, rfl, rfl, rfl⟩)
    · exact .inr (.inr ⟨rfl, rfl, rfl, rfl⟩)
  have hSX : ∀ {h' : HwS} b, SX (liveObs F (stL F h0 l 0) h' l.length) bl Dv.non b → b = gN ∨ b = gF ∨ b = gH := by
    rintro h' b (hb | ⟨o, ho, rfl⟩)
    · exact hb.elim
    · rcases hobs ho with ⟨e, _⟩ | ⟨e, _⟩ | ⟨e, _⟩ <;> rw [e] <;> simp [hb1, hb2, hb3]
  obtain ⟨n1, n2, n3⟩ := hB.ne
  obtain ⟨cF, f1, f2⟩ := hB.bf
  obtain ⟨cH, f3, f4⟩ := hB.bh
  have e1 : Value.pointer (some ⟨gN, 0, none⟩) = .pointer (some ⟨bl 900001, 0, none⟩) := by rw [hb1]
  have e2 : Value.pointer (some ⟨gF, 0, none⟩) = .pointer (some ⟨bl 900002, 0, none⟩) := by rw [hb2]
  have e3 : Value.pointer (some ⟨gH, 0, none⟩) = .pointer (some ⟨bl 900003, 0, none⟩) := by rw [hb3]
  refine (livedo_fun F (stL F h0 l 0) l.length c hg hlen hF w (okL K X gN gF gH) [c.v, .pointer (some ⟨gN, 0, none⟩), .pointer (some ⟨gF, 0, none⟩), .pointer (some ⟨gH, 0, none⟩)] bl
    (fun w' hc => sha_chg hB.mem hc (fun b hb hs => ?_)) (fun b hb => ?_) (fun o ho => ?_) (fun o ho o' ho' e => ?_) ⟨?_, ?_, ?_, ?_, trivial⟩).mono ?_
  · have := (hB.tab b hb).2
    rcases hSX b hs with h | h | h
    · exact this.1 h
    · exact this.2.1 h
    · exact this.2.2 h
  · rcases hSX b hb with rfl | rfl | rfl
    · exact ⟨hB.bn.lt, fun h => h.2.2.1 rfl⟩
    · exact ⟨f1.lt, fun h => h.2.2.2.1 rfl⟩
    · exact ⟨f3.lt, fun h => h.2.2.2.2 rfl⟩
  · rcases hobs ho with ⟨k1, k2, k3, _⟩ | ⟨k1, k2, k3, _⟩ | ⟨k1, k2, k3, _⟩ <;> rw [k1, k2, k3]
    · exact ⟨_, by rw [hb1]; exact hB.bn, .cons (xs := [_]) (.lit rfl) .nil⟩
    · exact ⟨cF, by rw [hb2]; exact f1, f2⟩
    · exact ⟨cH, by rw [hb3]; exact f3, f4⟩
  · rcases hobs ho with ⟨k1, _⟩ | ⟨k1, _⟩ | ⟨k1, _⟩ <;> rcases hobs ho' with ⟨k2, _⟩ | ⟨k2, _⟩ | ⟨k2, _⟩ <;> rw [k1, k2] at e ⊢ <;> simp only [hb1, hb2, hb3] at e <;> first | (exact absurd e n1) | (exact absurd e n2) | (exact absurd e n3) | (exact absurd e.symm n1) | (exact absurd e.symm n2) | (exact absurd e.symm n3)
  · exact .w (.agg (.cons (xs := [_]) (.lit rfl) (.cons (xs := [_]) (.lit rfl) (.cons (xs := [_]) (.lit rfl) (.cons (xs := [_]) (.lit rfl) .nil)))))
  · exact .w (.one (.pt ⟨_, _, rfl⟩ ⟨0, _, rfl, Nat.le_refl _, fun _ => ⟨_, rfl, e1⟩⟩))
  · exact .w (.one (.pt ⟨_, _, rfl⟩ ⟨0, _, rfl, Nat.le_refl _, fun _ => ⟨_, rfl, e2⟩⟩))
  · exact .w (.one (.pt ⟨_, _, rfl⟩ ⟨0, _, rfl, Nat.le_refl _, fun _ => ⟨_, rfl, e3⟩⟩))
  rintro e w' ⟨hcw, hob, hres⟩
  refine ⟨hcw.mono fun b _ hb => hSX b hb, ?_⟩
  have hB' : LiveB K gN gF gH F h0 (l ++ [c]) X w' := by
    have hle : ∀ {p : List PC} {xs : List Value}, RL { w := w', ok := okRes w (okL K X gN gF gH) false, env := fun _ => none } p xs → RL { w := w', ok := okL K X gN gF gH, env := fun _ => none } p xs := fun hr =>
      hr.le ⟨Nat.le_refl _, fun b hb hok => ⟨hok.elim (fun h => h.2) (fun h => by have h' : w.heap.size ≤ b := h; exact ⟨hB.up b h', fun hx => by have := (hB.mine b hx).1; omega, by have := hB.bn.lt; omega, by have := f1.lt; omega, by have := f3.lt; omega⟩), rfl⟩, fun _ _ _ h => by cases h⟩
    have o1 := hob ⟨900001, 3, [.lit (.int .i64 (l.length : Int))], [.lit (.int .i64 ((l.length + 1 : Nat) : Int))]⟩ (by simp [liveObs])
    have o2 := hob ⟨900002, 40, [fltsPC F], [fltsPC F]⟩ (by simp [liveObs])
    have o3 := hob ⟨900003, 34, hwL (stL F h0 l 0), hwL (devDo (stL F h0 l 0) c (fltAt F l.length)).1⟩ (by simp [liveObs])
    dsimp only at o1 o2 o3
    rw [hb1] at o1
    rw [hb2] at o2
    rw [hb3] at o3
    obtain ⟨c1, p1, p2⟩ := o1
    obtain ⟨c2, p3, p4⟩ := o2
    obtain ⟨c3, p5, p6⟩ := o3
    refine ⟨?_, ⟨c2, p3, hle p4⟩, ⟨c3, p5, ?_⟩, hB.ne, fun x hx => ?_, fun b hb => ⟨Nat.lt_of_lt_of_le (hB.mine b hb).1 hcw.size, (hB.mine b hb).2⟩, sha_chg hB.mem hcw (fun b hb hs => ?_), hB.tab, fun b hb => hB.up b (Nat.le_trans hcw.size hb)⟩
    · have hcs : c1 = #[.int .i64 ((l.length + 1 : Nat) : Int)] := by
        apply Array.ext'
        generalize c1.toList = z at p2
        cases p2 with
        | cons q1 q2 => cases q2; cases q1; rfl
      rw [hcs] at p1
      rw [List.length_append, List.length_singleton]
      exact p1
    · rw [hst]
      exact hle p6
    · rcases List.mem_append.1 hx with hx | hx
      · exact hB.good x hx
      · obtain rfl := List.mem_singleton.1 hx
        exact hgc
    · have := (hB.tab b hb).2
      rcases hSX b hs with h | h | h
      · exact this.1 h
      · exact this.2.1 h
      · exact this.2.2 h
  by_cases hcut : (fltAt F l.length).cut = true
  · right
    unfold doEnd at hres
    rw [if_pos hcut] at hres
    refine ⟨cutChain, ?_, hres, rfl, hB', l, c, rfl, hN, hcut⟩
    show liveO F h0 (l ++ [c]) = none
    rw [hO, if_pos (.inl hcut)]
  · left
    unfold doEnd at hres
    rw [if_neg hcut] at hres
    obtain ⟨val, rfl, hv⟩ := hres
    refine ⟨(devDo (stL F h0 l 0) c (fltAt F l.length)).2.1, ?_, ?_, hB', fun k hk => ?_⟩
    · show liveO F h0 (l ++ [c]) = some _
      rw [hO, if_neg (fun h => h.elim hcut fun h => h.elim (fun h => h hgc) (fun h => by omega))]
    · congr 1
      generalize (devDo (stL F h0 l 0) c (fltAt F l.length)).2.1 = r at hv
      cases hv with
      | w hv => cases hv with
        | @agg _ cs hv =>
          obtain ⟨cs⟩ := cs
          dsimp only at hv
          cases hv with
          | cons q1 hv => cases hv with
            | cons q2 hv => cases hv; cases q1; cases q2; rfl
    · rw [List.length_append, List.length_singleton] at hk
      rcases Nat.lt_or_ge k l.length with h | h
      · exact hN k h
      · obtain rfl : k = l.length := by omega
        simpa using hcut
end Go.Proofs.YtihghljfmlbfhaaDoor.Pv


namespace Go.Proofs.YtihghljfmlbfhaaDoor.Pv
open Go.RowKit
structure Loc (P : Program) (T : TypeId) (b : Nat) (t : TypeId) (cs : Array Value) (v : Value) : Prop where
  ld : ∀ w, Blk w b t cs → (Instr.loadAt T (.pointer (some ⟨b, 0, none⟩))).run P w = .ok v w
  st : ∀ w old, old.size = cs.size → Blk w b t old → ∃ w', (Instr.storeAt T (.pointer (some ⟨b, 0, none⟩)) v).run P w = .ok () w' ∧ Blk w' b t cs ∧ Chg (fun k => k = b) w w' ∧ w'.heap.size = w.heap.size
theorem Loc.wide {P : Program} {T : TypeId} {n : Nat} (W : Wide P T n) (b : Nat) (t : TypeId) (cs : Array Value) (hn : cs.size = n) (h1 : cs.all (·.oneCell') = true) : Loc P T b t cs (.agg cs) := by
  refine ⟨fun w hB => ?_, fun w old ho hB => ⟨_, run_storeAt_mid w b 0 T cs (by rw [← ho]; exact hB.there_) (by rw [hn]; exact W.info) h1, store_blk hB ho, (setCells_chg b cs.toList 0 w).1, (setCells_chg b cs.toList 0 w).2⟩⟩
  obtain ⟨d, hu, hd⟩ := W.und
  have := run_loadAt_mid (P := P) w b 0 T cs.toList d hB.range hu hd (by rw [Array.length_toList, hn]; exact W.info)
  rw [Array.toArray_toList] at this
  exact this
def lvO0 (T : TypeId) (p : String) : Oper := ⟨some 17, .load T (.tmp 6), T, p, #[], none⟩
def lvO1 (T : TypeId) (p : String) : Oper := ⟨some 18, .load T (.tmp 7), T, p, #[], none⟩
def lvO2 (T : TypeId) (p : String) : Oper := ⟨some 19, .load T (.tmp 8), T, p, #[], none⟩
def lvO3 (T : TypeId) (p : String) : Oper := ⟨none, .store T (.tmp 6) (.tmp 17), 0, p, #[⟨0, .data⟩, ⟨0, .phase⟩, ⟨1, .textOnly .lateStoresUnsure⟩, ⟨2, .textOnly .lateStoresUnsure⟩], none⟩
def lvO4 (T : TypeId) (p : String) : Oper := ⟨none, .store T (.tmp 7) (.tmp 18), 0, p, #[⟨1, .data⟩, ⟨3, .chain⟩, ⟨0, .phase⟩, ⟨1, .phase⟩, ⟨2, .textOnly .lateStoresUnsure⟩, ⟨3, .phase⟩], none⟩
def lvO5 (T : TypeId) (p : String) : Oper := ⟨none, .store T (.tmp 8) (.tmp 19), 0, p, #[⟨2, .data⟩, ⟨4, .chain⟩, ⟨0, .phase⟩, ⟨1, .phase⟩, ⟨2, .phase⟩, ⟨3, .phase⟩, ⟨4, .phase⟩], none⟩
def lvO6 (T : TypeId) (p : String) : Oper := ⟨none, .store T (.tmp 9) (.const (.bool true)), 0, p, #[⟨5, .chain⟩, ⟨0, .phase⟩, ⟨1, .phase⟩, ⟨2, .phase⟩, ⟨3, .phase⟩, ⟨4, .phase⟩, ⟨5, .phase⟩], none⟩
def lvOps (T1 T2 T3 T4 : TypeId) (p : String) : Array Oper := #[lvO0 T1 p, lvO1 T2 p, lvO2 T3 p, lvO3 T1 p, lvO4 T2 p, lvO5 T3 p, lvO6 T4 p]
structure LvV where
  a0 : Act
  w0 : World
  b1 : Nat
  b2 : Nat
  b3 : Nat
  b4 : Nat
  t1 : TypeId
  t2 : TypeId
  t3 : TypeId
  t4 : TypeId
  c1 : Array Value
  c2 : Array Value
  c3 : Array Value
  v1 : Value
  v2 : Value
  v3 : Value
structure LvI (V : LvV) (x y z f : Bool) (a : Act) (w : World) : Prop where
  ds : a.defers = V.a0.defers
  sz : a.tmps.size = V.a0.tmps.size
  tm : ∀ t, t < 17 → a.tmps.getD t undef = V.a0.tmps.getD t undef
  l1 : x = true → a.tmps.getD 17 undef = V.v1
  l2 : y = true → a.tmps.getD 18 undef = V.v2
  l3 : z = true → a.tmps.getD 19 undef = V.v3
  k1 : Blk w V.b1 V.t1 V.c1
  k2 : Blk w V.b2 V.t2 V.c2
  k3 : Blk w V.b3 V.t3 V.c3
  k4 : ∃ v, Blk w V.b4 V.t4 #[v] ∧ (f = true → v = .bool true)
  chg : Chg (fun k => k = V.b1 ∨ k = V.b2 ∨ k = V.b3 ∨ k = V.b4) V.w0 w
  size : w.heap.size = V.w0.heap.size
theorem getD_set_self {a : Array Value} {i : Nat} (h : i < a.size) (v : Value) : (a.setIfInBounds i v).getD i undef = v := by
  simp [Array.getD_eq_getD_getElem?, h]
theorem getD_set_ne {a : Array Value} {i j : Nat} (h : i ≠ j) (v : Value) : (a.setIfInBounds i v).getD j undef = a.getD j undef := by
  simp [Array.getD_eq_getD_getElem?, h]
set_option maxHeartbeats 2000000 in
theorem live_ret {P : Program} (hm : P.follows .mixedOrders = true) (V : LvV) {T1 T2 T3 T4 : TypeId} {id : Nat} {p : String} {Q : Exit → Act → World → Prop}
    (L1 : Loc P T1 V.b1 V.t1 V.c1 V.v1) (L2 : Loc P T2 V.b2 V.t2 V.c2 V.v2) (L3 : Loc P T3 V.b3 V.t3 V.c3 V.v3) (L4 : Loc P T4 V.b4 V.t4 #[.bool true] (.bool true))
    (e1 : V.a0.tmps.getD 6 undef = .pointer (some ⟨V.b1, 0, none⟩)) (e2 : V.a0.tmps.getD 7 undef = .pointer (some ⟨V.b2, 0, none⟩)) (e3 : V.a0.tmps.getD 8 undef = .pointer (some ⟨V.b3, 0, none⟩)) (e4 : V.a0.tmps.getD 9 undef = .pointer (some ⟨V.b4, 0, none⟩))
    (hz : V.a0.tmps.size = 20) (n12 : V.b1 ≠ V.b2) (n13 : V.b1 ≠ V.b3) (n14 : V.b1 ≠ V.b4) (n23 : V.b2 ≠ V.b3) (n24 : V.b2 ≠ V.b4) (n34 : V.b3 ≠ V.b4)
    (K1 : Blk V.w0 V.b1 V.t1 V.c1) (K2 : Blk V.w0 V.b2 V.t2 V.c2) (K3 : Blk V.w0 V.b3 V.t3 V.c3) (K4 : ∃ v, Blk V.w0 V.b4 V.t4 #[v])
    (hQ : ∀ a w, LvI V true true true true a w → Q .normal a w) : (Code.region id (lvOps T1 T2 T3 T4 p) true).wp P Q V.a0 V.w0 := by
  have d0 : ∀ {x y z f : Bool} (J : Act → World → Prop) (a : Act) (w : World), LvI V x y z f a w → (∀ a' w', LvI V true y z f a' w' → J a' w') → if Region.wanted (lvO0 T1 p) (yielded (lvOps T1 T2 T3 T4 p) a.tmps) = true then Oper.wp P (lvO0 T1 p) a w J Q else J (a.put (lvO0 T1 p).dst undef) w := by
    intro x y z f J a w h hJ
    rw [if_pos (by rfl)]
    have hs := h.sz.trans hz
    refine wp_load (o := lvO0 T1 p) rfl (val := V.v1) (by rw [show a.eval (.tmp 6) = .pointer (some ⟨V.b1, 0, none⟩) from (h.tm 6 (by omega)).trans e1]; exact L1.ld w h.k1) (hJ _ _ ?_)
    exact ⟨h.ds, by show (a.tmps.setIfInBounds 17 _).size = _; rw [Array.size_setIfInBounds]; exact h.sz, fun t ht => (getD_set_ne (by omega) _).trans (h.tm t ht), fun _ => getD_set_self (by omega) _, fun hy => (getD_set_ne (by omega) _).trans (h.l2 hy), fun hz' => (getD_set_ne (by omega) _).trans (h.l3 hz'), h.k1, h.k2, h.k3, h.k4, h.chg, h.size⟩
  have d1 : ∀ {x y z f : Bool} (J : Act → World → Prop) (a : Act) (w : World), LvI V x y z f a w → (∀ a' w', LvI V x true z f a' w' → J a' w') → if Region.wanted (lvO1 T2 p) (yielded (lvOps T1 T2 T3 T4 p) a.tmps) = true then Oper.wp P (lvO1 T2 p) a w J Q else J (a.put (lvO1 T2 p).dst undef) w := by
    intro x y z f J a w h hJ
    rw [if_pos (by rfl)]
    have hs := h.sz.trans hz
    refine wp_load (o := lvO1 T2 p) rfl (val := V.v2) (by rw [show a.eval (.tmp 7) = .pointer (some ⟨V.b2, 0, none⟩) from (h.tm 7 (by omega)).trans e2]; exact L2.ld w h.k2) (hJ _ _ ?_)
    exact ⟨h.ds, by show (a.tmps.setIfInBounds 18 _).size = _; rw [Array.size_setIfInBounds]; exact h.sz, fun t ht => (getD_set_ne (by omega) _).trans (h.tm t ht), fun hx => (getD_set_ne (by omega) _).trans (h.l1 hx), fun _ => getD_set_self (by omega) _, fun hz' => (getD_set_ne (by omega) _).trans (h.l3 hz'), h.k1, h.k2, h.k3, h.k4, h.chg, h.size⟩
  have d2 : ∀ {x y z f : Bool} (J : Act → World → Prop) (a : Act) (w : World), LvI V x y z f a w → (∀ a' w', LvI V x y true f a' w' → J a' w') → if Region.wanted (lvO2 T3 p) (yielded (lvOps T1 T2 T3 T4 p) a.tmps) = true then Oper.wp P (lvO2 T3 p) a w J Q else J (a.put (lvO2 T3 p).dst undef) w := by
    intro x y z f J a w h hJ
    rw [if_pos (by rfl)]
    have hs := h.sz.trans hz
    refine wp_load (o := lvO2 T3 p) rfl (val := V.v3) (by rw [show a.eval (.tmp 8) = .pointer (some ⟨V.b3, 0, none⟩) from (h.tm 8 (by omega)).trans e3]; exact L3.ld w h.k3) (hJ _ _ ?_)
    exact ⟨h.ds, by show (a.tmps.setIfInBounds 19 _).size = _; rw [Array.size_setIfInBounds]; exact h.sz, fun t ht => (getD_set_ne (by omega) _).trans (h.tm t ht), fun hx => (getD_set_ne (by omega) _).trans (h.l1 hx), fun hy => (getD_set_ne (by omega) _).trans (h.l2 hy), fun _ => getD_set_self (by omega) _, h.k1, h.k2, h.k3, h.k4, h.chg, h.size⟩
  have d3 : ∀ {y z f : Bool} (J : Act → World → Prop) (a : Act) (w : World), LvI V true y z f a w → (∀ a' w', LvI V true y z f a' w' → J a' w') → if Region.wanted (lvO3 T1 p) (yielded (lvOps T1 T2 T3 T4 p) a.tmps) = true then Oper.wp P (lvO3 T1 p) a w J Q else J (a.put (lvO3 T1 p).dst undef) w := by
    intro y z f J a w h hJ
    rw [if_pos (by rfl)]
    obtain ⟨w', hr, hb, hc, hsz⟩ := L1.st w V.c1 rfl h.k1
    obtain ⟨v4, h4, h4'⟩ := h.k4
    refine wp_store_pv (o := lvO3 T1 p) rfl (w' := w') (by rw [show a.eval (.tmp 6) = .pointer (some ⟨V.b1, 0, none⟩) from (h.tm 6 (by omega)).trans e1, show a.eval (.tmp 17) = V.v1 from h.l1 rfl]; exact hr) (hJ _ _ ?_)
    exact ⟨h.ds, h.sz, h.tm, h.l1, h.l2, h.l3, hb, h.k2.chg hc (fun e => n12 e.symm), h.k3.chg hc (fun e => n13 e.symm), ⟨v4, h4.chg hc (fun e => n14 e.symm), h4'⟩, h.chg.trans (hc.mono fun k _ hk => .inl hk), hsz.trans h.size⟩
  have d4 : ∀ {x z f : Bool} (J : Act → World → Prop) (a : Act) (w : World), LvI V x true z f a w → (∀ a' w', LvI V x true z f a' w' → J a' w') → if Region.wanted (lvO4 T2 p) (yielded (lvOps T1 T2 T3 T4 p) a.tmps) = true then Oper.wp P (lvO4 T2 p) a w J Q else J (a.put (lvO4 T2 p).dst undef) w := by
    intro x z f J a w h hJ
    rw [if_pos (by rfl)]
    obtain ⟨w', hr, hb, hc, hsz⟩ := L2.st w V.c2 rfl h.k2
    obtain ⟨v4, h4, h4'⟩ := h.k4
    refine wp_store_pv (o := lvO4 T2 p) rfl (w' := w') (by rw [show a.eval (.tmp 7) = .pointer (some ⟨V.b2, 0, none⟩) from (h.tm 7 (by omega)).trans e2, show a.eval (.tmp 18) = V.v2 from h.l2 rfl]; exact hr) (hJ _ _ ?_)
    exact ⟨h.ds, h.sz, h.tm, h.l1, h.l2, h.l3, h.k1.chg hc n12, hb, h.k3.chg hc (fun e => n23 e.symm), ⟨v4, h4.chg hc (fun e => n24 e.symm), h4'⟩, h.chg.trans (hc.mono fun k _ hk => .inr (.inl hk)), hsz.trans h.size⟩
  have d5 : ∀ {x y f : Bool} (J : Act → World → Prop) (a : Act) (w : World), LvI V x y true f a w → (∀ a' w', LvI V x y true f a' w' → J a' w') → if Region.wanted (lvO5 T3 p) (yielded (lvOps T1 T2 T3 T4 p) a.tmps) = true then Oper.wp P (lvO5 T3 p) a w J Q else J (a.put (lvO5 T3 p).dst undef) w := by
    intro x y f J a w h hJ
    rw [if_pos (by rfl)]
    obtain ⟨w', hr, hb, hc, hsz⟩ := L3.st w V.c3 rfl h.k3
    obtain ⟨v4, h4, h4'⟩ := h.k4
    refine wp_store_pv (o := lvO5 T3 p) rfl (w' := w') (by rw [show a.eval (.tmp 8) = .pointer (some ⟨V.b3, 0, none⟩) from (h.tm 8 (by omega)).trans e3, show a.eval (.tmp 19) = V.v3 from h.l3 rfl]; exact hr) (hJ _ _ ?_)
    exact ⟨h.ds, h.sz, h.tm, h.l1, h.l2, h.l3, h.k1.chg hc n13, h.k2.chg hc n23, hb, ⟨v4, h4.chg hc (fun e => n34 e.symm), h4'⟩, h.chg.trans (hc.mono fun k _ hk => .inr (.inr (.inl hk))), hsz.trans h.size⟩
  have d6 : ∀ {x y z f : Bool} (J : Act → World → Prop) (a : Act) (w : World), LvI V x y z f a w → (∀ a' w', LvI V x y z true a' w' → J a' w') → if Region.wanted (lvO6 T4 p) (yielded (lvOps T1 T2 T3 T4 p) a.tmps) = true then Oper.wp P (lvO6 T4 p) a w J Q else J (a.put (lvO6 T4 p).dst undef) w := by
    intro x y z f J a w h hJ
    rw [if_pos (by rfl)]
    obtain ⟨v4, h4, h4'⟩ := h.k4
    obtain ⟨w', hr, hb, hc, hsz⟩ := L4.st w #[v4] rfl h4
    refine wp_store_pv (o := lvO6 T4 p) rfl (w' := w') (by rw [show a.eval (.tmp 9) = .pointer (some ⟨V.b4, 0, none⟩) from (h.tm 9 (by omega)).trans e4]; exact hr) (hJ _ _ ?_)
    exact ⟨h.ds, h.sz, h.tm, h.l1, h.l2, h.l3, h.k1.chg hc n14, h.k2.chg hc n24, h.k3.chg hc n34, ⟨_, hb, fun _ => rfl⟩, h.chg.trans (hc.mono fun k _ hk => .inr (.inr (.inr hk))), hsz.trans h.size⟩
  have s1111111 : ∀ a w, LvI V true true true true a w → wpAny P .any (lvOps T1 T2 T3 T4 p) Q 0 #[true, true, true, true, true, true, true] a w := fun a w h => by
    exact wpAny_done (by kernel_rfl) (hQ a w h) _
  have s1111110 : ∀ a w, LvI V true true true false a w → wpAny P .any (lvOps T1 T2 T3 T4 p) Q 1 #[true, true, true, true, true, true, false] a w := fun a w h => by
    exact wpAny_ready (rs := [6]) (by kernel_rfl) (by simp) (AllReady.cons (o := lvO6 T4 p) rfl (fun J hJ => d6 J a w h fun a1 w1 h1 => hJ _ _ (s1111111 a1 w1 h1)) AllReady.nil)
  have s1111100 : ∀ a w, LvI V true true true false a w → wpAny P .any (lvOps T1 T2 T3 T4 p) Q 2 #[true, true, true, true, true, false, false] a w := fun a w h => by
    exact wpAny_ready (rs := [5]) (by kernel_rfl) (by simp) (AllReady.cons (o := lvO5 T3 p) rfl (fun J hJ => d5 J a w h fun a1 w1 h1 => hJ _ _ (s1111110 a1 w1 h1)) AllReady.nil)
  have s1111000 : ∀ a w, LvI V true true true false a w → wpAny P .any (lvOps T1 T2 T3 T4 p) Q 3 #[true, true, true, true, false, false, false] a w := fun a w h => by
    exact wpAny_ready (rs := [4]) (by kernel_rfl) (by simp) (AllReady.cons (o := lvO4 T2 p) rfl (fun J hJ => d4 J a w h fun a1 w1 h1 => hJ _ _ (s1111100 a1 w1 h1)) AllReady.nil)
  have s1110000 : ∀ a w, LvI V true true true false a w → wpAny P .any (lvOps T1 T2 T3 T4 p) Q 4 #[true, true, true, false, false, false, false] a w := fun a w h => by
    exact wpAny_ready (rs := [3]) (by kernel_rfl) (by simp) (AllReady.cons (o := lvO3 T1 p) rfl (fun J hJ => d3 J a w h fun a1 w1 h1 => hJ _ _ (s1111000 a1 w1 h1)) AllReady.nil)
  have s1101100 : ∀ a w, LvI V true true false false a w → wpAny P .any (lvOps T1 T2 T3 T4 p) Q 3 #[true, true, false, true, true, false, false] a w := fun a w h => by
    exact wpAny_ready (rs := [2]) (by kernel_rfl) (by simp) (AllReady.cons (o := lvO2 T3 p) rfl (fun J hJ => d2 J a w h fun a1 w1 h1 => hJ _ _ (s1111100 a1 w1 h1)) AllReady.nil)
  have s1101000 : ∀ a w, LvI V true true false false a w → wpAny P .any (lvOps T1 T2 T3 T4 p) Q 4 #[true, true, false, true, false, false, false] a w := fun a w h => by
    exact wpAny_ready (rs := [2, 4]) (by kernel_rfl) (by simp) (AllReady.cons (o := lvO2 T3 p) rfl (fun J hJ => d2 J a w h fun a1 w1 h1 => hJ _ _ (s1111000 a1 w1 h1)) (AllReady.cons (o := lvO4 T2 p) rfl (fun J hJ => d4 J a w h fun a1 w1 h1 => hJ _ _ (s1101100 a1 w1 h1)) AllReady.nil))
  have s1100000 : ∀ a w, LvI V true true false false a w → wpAny P .any (lvOps T1 T2 T3 T4 p) Q 5 #[true, true, false, false, false, false, false] a w := fun a w h => by
    exact wpAny_ready (rs := [2, 3]) (by kernel_rfl) (by simp) (AllReady.cons (o := lvO2 T3 p) rfl (fun J hJ => d2 J a w h fun a1 w1 h1 => hJ _ _ (s1110000 a1 w1 h1)) (AllReady.cons (o := lvO3 T1 p) rfl (fun J hJ => d3 J a w h fun a1 w1 h1 => hJ _ _ (s1101000 a1 w1 h1)) AllReady.nil))
  have s1011000 : ∀ a w, LvI V true false true false a w → wpAny P .any (lvOps T1 T2 T3 T4 p) Q 4 #[true, false, true, true, false, false, false] a w := fun a w h => by
    exact wpAny_ready (rs := [1]) (by kernel_rfl) (by simp) (AllReady.cons (o := lvO1 T2 p) rfl (fun J hJ => d1 J a w h fun a1 w1 h1 => hJ _ _ (s1111000 a1 w1 h1)) AllReady.nil)
  have s1010000 : ∀ a w, LvI V true false true false a w → wpAny P .any (lvOps T1 T2 T3 T4 p) Q 5 #[true, false, true, false, false, false, false] a w := fun a w h => by
    exact wpAny_ready (rs := [1, 3]) (by kernel_rfl) (by simp) (AllReady.cons (o := lvO1 T2 p) rfl (fun J hJ => d1 J a w h fun a1 w1 h1 => hJ _ _ (s1110000 a1 w1 h1)) (AllReady.cons (o := lvO3 T1 p) rfl (fun J hJ => d3 J a w h fun a1 w1 h1 => hJ _ _ (s1011000 a1 w1 h1)) AllReady.nil))
  have s1001000 : ∀ a w, LvI V true false false false a w → wpAny P .any (lvOps T1 T2 T3 T4 p) Q 5 #[true, false, false, true, false, false, false] a w := fun a w h => by
    exact wpAny_ready (rs := [1, 2]) (by kernel_rfl) (by simp) (AllReady.cons (o := lvO1 T2 p) rfl (fun J hJ => d1 J a w h fun a1 w1 h1 => hJ _ _ (s1101000 a1 w1 h1)) (AllReady.cons (o := lvO2 T3 p) rfl (fun J hJ => d2 J a w h fun a1 w1 h1 => hJ _ _ (s1011000 a1 w1 h1)) AllReady.nil))
  have s1000000 : ∀ a w, LvI V true false false false a w → wpAny P .any (lvOps T1 T2 T3 T4 p) Q 6 #[true, false, false, false, false, false, false] a w := fun a w h => by
    exact wpAny_ready (rs := [1, 2, 3]) (by kernel_rfl) (by simp) (AllReady.cons (o := lvO1 T2 p) rfl (fun J hJ => d1 J a w h fun a1 w1 h1 => hJ _ _ (s1100000 a1 w1 h1)) (AllReady.cons (o := lvO2 T3 p) rfl (fun J hJ => d2 J a w h fun a1 w1 h1 => hJ _ _ (s1010000 a1 w1 h1)) (AllReady.cons (o := lvO3 T1 p) rfl (fun J hJ => d3 J a w h fun a1 w1 h1 => hJ _ _ (s1001000 a1 w1 h1)) AllReady.nil)))
  have s0110000 : ∀ a w, LvI V false true true false a w → wpAny P .any (lvOps T1 T2 T3 T4 p) Q 5 #[false, true, true, false, false, false, false] a w := fun a w h => by
    exact wpAny_ready (rs := [0]) (by kernel_rfl) (by simp) (AllReady.cons (o := lvO0 T1 p) rfl (fun J hJ => d0 J a w h fun a1 w1 h1 => hJ _ _ (s1110000 a1 w1 h1)) AllReady.nil)
  have s0100000 : ∀ a w, LvI V false true false false a w → wpAny P .any (lvOps T1 T2 T3 T4 p) Q 6 #[false, true, false, false, false, false, false] a w := fun a w h => by
    exact wpAny_ready (rs := [0, 2]) (by kernel_rfl) (by simp) (AllReady.cons (o := lvO0 T1 p) rfl (fun J hJ => d0 J a w h fun a1 w1 h1 => hJ _ _ (s1100000 a1 w1 h1)) (AllReady.cons (o := lvO2 T3 p) rfl (fun J hJ => d2 J a w h fun a1 w1 h1 => hJ _ _ (s0110000 a1 w1 h1)) AllReady.nil))
  have s0010000 : ∀ a w, LvI V false false true false a w → wpAny P .any (lvOps T1 T2 T3 T4 p) Q 6 #[false, false, true, false, false, false, false] a w := fun a w h => by
    exact wpAny_ready (rs := [0, 1]) (by kernel_rfl) (by simp) (AllReady.cons (o := lvO0 T1 p) rfl (fun J hJ => d0 J a w h fun a1 w1 h1 => hJ _ _ (s1010000 a1 w1 h1)) (AllReady.cons (o := lvO1 T2 p) rfl (fun J hJ => d1 J a w h fun a1 w1 h1 => hJ _ _ (s0110000 a1 w1 h1)) AllReady.nil))
  have s0000000 : ∀ a w, LvI V false false false false a w → wpAny P .any (lvOps T1 T2 T3 T4 p) Q 7 #[false, false, false, false, false, false, false] a w := fun a w h => by
    exact wpAny_ready (rs := [0, 1, 2]) (by kernel_rfl) (by simp) (AllReady.cons (o := lvO0 T1 p) rfl (fun J hJ => d0 J a w h fun a1 w1 h1 => hJ _ _ (s1000000 a1 w1 h1)) (AllReady.cons (o := lvO1 T2 p) rfl (fun J hJ => d1 J a w h fun a1 w1 h1 => hJ _ _ (s0100000 a1 w1 h1)) (AllReady.cons (o := lvO2 T3 p) rfl (fun J hJ => d2 J a w h fun a1 w1 h1 => hJ _ _ (s0010000 a1 w1 h1)) AllReady.nil)))
  obtain ⟨v4, K4⟩ := K4
  refine wp_region_any hm ?_
  exact s0000000 _ _ ⟨rfl, rfl, fun _ _ => rfl, fun h => (by cases h), fun h => (by cases h), fun h => (by cases h), K1.drew, K2.drew, K3.drew, ⟨v4, K4.drew, fun h => by cases h⟩, Chg.drew (Chg.refl _ _), rfl⟩
end Go.Proofs.YtihghljfmlbfhaaDoor.Pv


namespace Go.Proofs.YtihghljfmlbfhaaDoor
open Go.RowKit
theorem assert_cut (w : World) : (Instr.typeAssert (.iface 78 (.agg #[])) 20 78 true).run Tryd.prog w = .ok (.tuple #[.agg #[], .bool true]) w := by kernel_rfl
attribute [local go_sem] assert_cut
set_option maxRecDepth 100000 in
set_option maxHeartbeats 1000000 in
theorem live_catch (Ob Db : Nat) (y0 y1 y2 y3 z0 : Value) (older : List PanicEntry) (w : World)
    (hO : Blk w Ob 47 #[y0, y1, y2, y3]) (hD : Blk w Db 4 #[z0]) (hOD : ¬ Ob = Db) :
    CallsD Tryd.prog 25 #[.pointer (some ⟨Ob, 0, none⟩), .pointer (some ⟨Db, 0, none⟩)] (.panicking ({ v := Pv.cutV, recovered := false } :: older)) w fun e u' w' =>
      e = .returned (.tuple #[]) ∧ u' = .panicking ({ v := Pv.cutV, recovered := true } :: older) ∧ Chg (fun k => k = Ob ∨ k = Db) w w' ∧
      Blk w' Ob 47 #[.int .i64 0, .slice none 0 0, .slice none 0 0, .int .i64 0] ∧ Blk w' Db 4 #[.bool false] := by
  have hO0 := hO.cell 0
  have hO1 := hO.cell 1
  have hO2 := hO.cell 2
  have hO3 := hO.cell 3
  have hD0 := hD.cell 0
  have fO := hO.frozen
  have fD := hD.frozen
  have lO := hO.lt
  have lD := hD.lt
  simp only [List.getElem?_toArray, List.getElem?_cons_zero, List.getElem?_cons_succ] at hO0 hO1 hO2 hO3 hD0
  have HO := hide hO
  have HD := hide hD
  clear hO hD
  have hOD' : ¬ Db = Ob := fun e => hOD e.symm
  simp only [Pv.cutV]
  refine callsD_of_wpS Tryd.func25 rfl fun c₀ cs hu => ?_
  simp only [Tryd.ntmps25, List.size_toArray, List.length_cons, List.length_nil, Nat.reduceAdd, Nat.reduceSub, Array.replicate_succ, Array.replicate_zero, List.push_toArray, List.append_toArray, List.nil_append, List.cons_append]
  apply wpS_seq
  apply wpS_region
  simp [wpOpsS, go_sem, recoverD, hu, Exit.thenS]
  refine wpS_of_wp ?_
  go_wp2
  refine ⟨rfl, _, rfl, .tuple #[], results_none rfl _ _ _, rfl, rfl, ?_, ?_, ?_⟩
  · repeat' (first | (with_reducible exact Chg.refl _ _) | (with_reducible exact Ext.refl _) | (with_reducible assumption) | (with_reducible refine Chg.alloc ?_ _) | (with_reducible refine Chg.drew ?_) | (with_reducible refine Chg.drewN ?_ _) | (with_reducible refine Chg.setCell ?_ ?_ _) | (with_reducible refine Ext.alloc ?_ _) | (with_reducible refine Ext.drew ?_) | (with_reducible refine Ext.drewN ?_ _) | (with_reducible refine Ext.setCell ?_ ?_ _) | (simp; done) | (simp; omega) | omega)
  · exact (((((((unhide HO).set_ 0 _).set_ 1 _).set_ 2 _).set_ 3 _).far (p := ⟨Db, 0, none⟩) hOD _).alloc _).alloc _
  · exact (((((((unhide HD).far (p := ⟨Ob, 0, none⟩) hOD' _).far (p := ⟨Ob, 1, none⟩) hOD' _).far (p := ⟨Ob, 2, none⟩) hOD' _).far (p := ⟨Ob, 3, none⟩) hOD' _).set_ 0 _).alloc _).alloc _
theorem live_idle (x y : Value) (w : World) :
    CallsD Tryd.prog 25 #[x, y] .returning w fun e u' w' => e = .returned (.tuple #[]) ∧ u' = .returning ∧ w = w' := by
  refine callsD_of_wpS Tryd.func25 rfl fun c₀ cs hu => ?_
  simp only [Tryd.ntmps25, List.size_toArray, List.length_cons, List.length_nil, Nat.reduceAdd, Nat.reduceSub, Array.replicate_succ, Array.replicate_zero, List.push_toArray, List.append_toArray, List.nil_append, List.cons_append]
  apply wpS_seq
  apply wpS_region
  simp [wpOpsS, go_sem, recoverD, hu, Exit.thenS]
  refine wpS_of_wp ?_
  go_wp2
  exact ⟨rfl, .returning, by cases c₀; simp_all, .tuple #[], results_none rfl _ _ _, rfl, rfl, rfl⟩
end Go.Proofs.YtihghljfmlbfhaaDoor


namespace Go.Proofs.YtihghljfmlbfhaaDoor
open Go.RowKit
theorem hwb_wide : Wide Tryd.prog 34 18 := ⟨⟨_, Tryd.underlying34, rfl⟩, by kernel_rfl⟩
theorem sgo_wide : Wide Tryd.prog 47 4 := ⟨⟨_, Tryd.underlying47, rfl⟩, by kernel_rfl⟩
theorem loc_int (b : Nat) (n : Int) : Pv.Loc Tryd.prog 3 b 3 #[.int .i64 n] (.int .i64 n) := by
  refine ⟨fun w hB => ?_, fun w old ho hB => ⟨w.setCell ⟨b, 0, none⟩ (.int .i64 n), ?_, ?_, Chg.setCell (S := fun k => k = b) (p := ⟨b, 0, none⟩) (Chg.refl _ _) (.inl rfl) _, by simp⟩⟩
  · have h0 := hB.cell 0
    simp only [List.getElem?_toArray, List.getElem?_cons_zero] at h0
    simp [go_sem, h0]
  · obtain ⟨x, rfl⟩ : ∃ x, old = #[x] := by
      obtain ⟨old⟩ := old
      match old, ho with
      | [x], _ => exact ⟨x, rfl⟩
    have h0 := hB.cell 0
    have hf := hB.frozen 0
    simp only [List.getElem?_toArray, List.getElem?_cons_zero] at h0
    simp [go_sem, h0, hf]
  · obtain ⟨x, rfl⟩ : ∃ x, old = #[x] := by
      obtain ⟨old⟩ := old
      match old, ho with
      | [x], _ => exact ⟨x, rfl⟩
    exact hB.set_ 0 _
theorem loc_bool (b : Nat) (n : Bool) : Pv.Loc Tryd.prog 4 b 4 #[.bool n] (.bool n) := by
  refine ⟨fun w hB => ?_, fun w old ho hB => ⟨w.setCell ⟨b, 0, none⟩ (.bool n), ?_, ?_, Chg.setCell (S := fun k => k = b) (p := ⟨b, 0, none⟩) (Chg.refl _ _) (.inl rfl) _, by simp⟩⟩
  · have h0 := hB.cell 0
    simp only [List.getElem?_toArray, List.getElem?_cons_zero] at h0
    simp [go_sem, h0]
  · obtain ⟨x, rfl⟩ : ∃ x, old = #[x] := by
      obtain ⟨old⟩ := old
      match old, ho with
      | [x], _ => exact ⟨x, rfl⟩
    have h0 := hB.cell 0
    have hf := hB.frozen 0
    simp only [List.getElem?_toArray, List.getElem?_cons_zero] at h0
    simp [go_sem, h0, hf]
  · obtain ⟨x, rfl⟩ : ∃ x, old = #[x] := by
      obtain ⟨old⟩ := old
      match old, ho with
      | [x], _ => exact ⟨x, rfl⟩
    exact hB.set_ 0 _
theorem live_results (tmps : Array Value) (w : World) (Ab Ob Nb Db : Nat) (hw : Array Value) (hs : hw.size = 18) (o0 o1 o2 o3 n d9 : Value) (h6 : tmps.getD 6 undef = .pointer (some ⟨Ab, 0, none⟩)) (h7 : tmps.getD 7 undef = .pointer (some ⟨Ob, 0, none⟩)) (h8 : tmps.getD 8 undef = .pointer (some ⟨Nb, 0, none⟩)) (h9 : tmps.getD 9 undef = .pointer (some ⟨Db, 0, none⟩))
    (hA : Blk w Ab 34 hw) (hO : Blk w Ob 47 #[o0, o1, o2, o3]) (hN : Blk w Nb 3 #[n]) (hD : Blk w Db 4 #[d9]) :
    (results Tryd.f14 tmps).run Tryd.prog w = .ok (.tuple #[.agg hw, .agg #[o0, o1, o2, o3], n, d9]) w := by
  have a0 := loadVar_blk hA hwb_wide hs
  have b0 := loadVar_blk hO sgo_wide rfl
  have n0 := hN.cell 0
  have d0 := hD.cell 0
  simp only [List.getElem?_toArray, List.getElem?_cons_zero] at n0 d0
  simp only [Array.getD_eq_getD_getElem?] at h6 h7 h8 h9
  have n1 : (loadVar 3 ⟨Nb, 0, none⟩).run Tryd.prog w = .ok n w := by simp [go_sem, n0]
  have d1 : (loadVar 4 ⟨Db, 0, none⟩).run Tryd.prog w = .ok d9 w := by simp [go_sem, d0]
  simp [results, Tryd.results14, h6, h7, h8, h9, asAddr, a0, b0, n1, d1]
set_option maxRecDepth 100000 in
set_option maxHeartbeats 2000000 in
theorem live_any (G : Nat) (pc : Array Value) (hw : Array Value) (B : Option Addr) (nF cF : Nat) (V : Array Value → Int → Option (Array Value) → World → Prop) (g : Nat) (w : World) (hs : hw.size = 18) (h1 : hw.all (·.oneCell') = true) (hG : ∀ (args : Array Value) (w : World), (callFunc G args).run Tryd.prog w = .ok (.enter G args) w) (hg : g ≤ w.heap.size)
    (hV : ∀ a n o w1 w2, V a n o w1 → Chg (fun k => w.heap.size ≤ k ∧ k < w.heap.size + 6) w1 w2 → V a n o w2)
    (hp : ∀ w1, Ext w w1 → w1.heap.size = w.heap.size + 6 → Blk w1 (w.heap.size + 1) 40 #[.slice B nF cF] → Blk w1 (w.heap.size + 1 + 1) 34 hw → Blk w1 (w.heap.size + 1 + 1 + 1 + 1) 3 #[.int .i64 0] →
      Calls Tryd.prog G (#[.func (.func 23) #[] #[.pointer (some ⟨w.heap.size + 1 + 1 + 1 + 1, 0, none⟩), .pointer (some ⟨w.heap.size + 1, 0, none⟩), .pointer (some ⟨w.heap.size + 1 + 1, 0, none⟩)]] ++ pc) w1 fun e w2 => Chg (fun k => k = w.heap.size + 1 + 1 + 1 + 1 ∨ k = w.heap.size + 1 ∨ k = w.heap.size + 1 + 1 ∨ (g ≤ k ∧ k < w.heap.size)) w1 w2 ∧
        ∃ hw' n, hw'.size = 18 ∧ hw'.all (·.oneCell') = true ∧ Blk w2 (w.heap.size + 1 + 1) 34 hw' ∧ Blk w2 (w.heap.size + 1 + 1 + 1 + 1) 3 #[.int .i64 n] ∧
        ((∃ z A1 n1 c1 A2 n2 c2 er, e = .returned (.agg #[.int .i64 z, .slice A1 n1 c1, .slice A2 n2 c2, .int .i64 er]) ∧ V hw' n (some #[.int .i64 z, .slice A1 n1 c1, .slice A2 n2 c2, .int .i64 er]) w2) ∨ (e = .panicked Pv.cutChain ∧ V hw' n none w2))) :
    Calls Tryd.prog 14 #[.func (.func G) #[] pc, .agg hw, .slice B nF cF] w fun e w' => Chg (fun k => g ≤ k) w w' ∧ ∃ hw' n, hw'.size = 18 ∧
      ((∃ z A1 n1 c1 A2 n2 c2 er, e = .returned (.tuple #[.agg hw', .agg #[.int .i64 z, .slice A1 n1 c1, .slice A2 n2 c2, .int .i64 er], .int .i64 n, .bool true]) ∧ V hw' n (some #[.int .i64 z, .slice A1 n1 c1, .slice A2 n2 c2, .int .i64 er]) w') ∨
       (e = .returned (.tuple #[.agg hw', .agg #[.int .i64 0, .slice none 0 0, .slice none 0 0, .int .i64 0], .int .i64 n, .bool false]) ∧ V hw' n none w')) := by
  have hmf : ∀ (fn : Fn) (first cap : Array Value) (w : World), (Instr.makeFunc fn first cap).run Tryd.prog w = .ok (.func fn first cap) w := fun _ _ _ _ => rfl
  have HP := hide hp
  have HS := hide (And.intro hs h1)
  have HV := hide hV
  clear hp hs h1 hV
  go_enter_defers Tryd.func14, Tryd.ntmps14
  go_upto_region 1 with fail
  generalize hW0 : World.alloc _ (.cells _ 4) = W0
  have z1 : Ext w W0 := by
    rw [← hW0]
    repeat' (first | (with_reducible exact Chg.refl _ _) | (with_reducible exact Ext.refl _) | (with_reducible assumption) | (with_reducible refine Chg.alloc ?_ _) | (with_reducible refine Chg.drew ?_) | (with_reducible refine Chg.drewN ?_ _) | (with_reducible refine Chg.setCell ?_ ?_ _) | (with_reducible refine Ext.alloc ?_ _) | (with_reducible refine Ext.drew ?_) | (with_reducible refine Ext.drewN ?_ _) | (with_reducible refine Ext.setCell ?_ ?_ _) | (simp; done) | (simp; omega) | omega)
  have z2 : Blk W0 w.heap.size 34 hw := by rw [← hW0]; exact (((((Blk.new w _ _).alloc _).alloc _).alloc _).alloc _).alloc _
  have z3 : Blk W0 (w.heap.size + 1) 40 #[.slice B nF cF] := by rw [← hW0]; exact ((((Blk.new' _ _ _ (by simp)).alloc _).alloc _).alloc _).alloc _
  have z4 : Blk W0 (w.heap.size + 1 + 1) 34 (#[.slice none 0 0, .slice none 0 0] ++ Array.replicate 16 (.int .u8 0)) := by rw [← hW0]; exact (((Blk.new' _ _ _ (by simp)).alloc _).alloc _).alloc _
  have z5 : Blk W0 (w.heap.size + 1 + 1 + 1) 47 #[.int .i64 0, .slice none 0 0, .slice none 0 0, .int .i64 0] := by rw [← hW0]; exact ((Blk.new' _ _ _ (by simp)).alloc _).alloc _
  have z6 : Blk W0 (w.heap.size + 1 + 1 + 1 + 1) 3 #[.int .i64 0] := by rw [← hW0]; exact (Blk.new' _ _ _ (by simp)).alloc _
  have z7 : Blk W0 (w.heap.size + 1 + 1 + 1 + 1 + 1) 4 #[.bool false] := by rw [← hW0]; exact Blk.new' _ _ _ (by simp)
  have z8 : W0.heap.size = w.heap.size + 6 := by rw [← hW0]; simp
  have HZ := hide (And.intro z1 (And.intro z2 (And.intro z3 (And.intro z4 (And.intro z5 (And.intro z6 (And.intro z7 z8)))))))
  clear hW0 z1 z2 z3 z4 z5 z6 z7 z8
  go_wp2_with (first
    | (refine wpList_loadB (ty := 34) (t := 34) (x := .tmp 4) rfl rfl hwb_wide rfl (cs := hw) (unhide HZ).2.1 (unhide HS).1 ?_)
    | (refine wpList_storeB (ty := 34) (t := 34) (x := .tmp 6) (y := .tmp 11) rfl rfl hwb_wide rfl rfl (unhide HZ).2.2.2.1 rfl (unhide HS).1 (unhide HS).2 ?_; intro w1 hb1 hc1 hz1; have H1 := hide (And.intro hb1 (And.intro hc1 hz1)); clear hb1 hc1 hz1))
  obtain ⟨z1, z2, z3, z4, z5, z6, z7, z8⟩ := unhide HZ
  obtain ⟨y1, y2, y3⟩ := unhide H1
  have hE1 : Ext w w1 := z1.trans' y2 (fun _ _ h => h) (fun i hi e => by omega)
  refine (unhide HP w1 hE1 (y3.trans z8) (z3.chg y2 (by omega)) y1 (z6.chg y2 (by omega))).mono ?_
  rintro e w2 ⟨h2, hw', n, q1, q2, q3, q4, hq⟩
  have hO := (z5.chg y2 (by omega)).chg h2 (by omega)
  have hD := (z7.chg y2 (by omega)).chg h2 (by omega)
  have hEx : Hid (Chg (fun k => g ≤ k) w w2) := hide (hE1.trans' h2 (fun _ _ h => h.elim) (fun i hi e => by omega))
  have hsz2 : w1.heap.size ≤ w2.heap.size := h2.size
  rcases hq with ⟨z, A1, n1, c1, A2, n2, c2, er, rfl, hv⟩ | ⟨rfl, hv⟩
  · obtain ⟨o0, o1, o2, o3, fO, lO⟩ := hO.cells4
    have HO := hide hO
    have HD := hide hD
    have HQ := hide (And.intro q1 (And.intro q2 (And.intro q3 (And.intro q4 hv))))
    have hn1 : w.heap.size + 6 ≤ w2.heap.size := by omega
    clear z1 z2 z3 z4 z5 z6 z7 y1 y2 hE1 h2 q1 q2 q3 q4 hv hO hD HP H1 HZ
    go_upto_region 5 with fail
    generalize hw3 : World.setCell _ _ _ = w3
    have hc3 : Chg (fun k => k = w.heap.size + 1 + 1 + 1) w2 w3 := by
      rw [← hw3]
      repeat' (first | (with_reducible exact Chg.refl _ _) | (with_reducible exact Ext.refl _) | (with_reducible assumption) | (with_reducible refine Chg.alloc ?_ _) | (with_reducible refine Chg.drew ?_) | (with_reducible refine Chg.drewN ?_ _) | (with_reducible refine Chg.setCell ?_ ?_ _) | (with_reducible refine Ext.alloc ?_ _) | (with_reducible refine Ext.drew ?_) | (with_reducible refine Ext.drewN ?_ _) | (with_reducible refine Ext.setCell ?_ ?_ _) | (simp; done) | (simp; omega) | omega)
    have hs3 : w3.heap.size = w2.heap.size := by rw [← hw3]; simp
    have hO3 : Blk w3 (w.heap.size + 1 + 1 + 1) 47 #[.int .i64 z, .slice A1 n1 c1, .slice A2 n2 c2, .int .i64 er] := by rw [← hw3]; exact ((((unhide HO).set_ 0 _).set_ 1 _).set_ 2 _).set_ 3 _
    clear hw3
    obtain ⟨q1, q2, q3, q4, hv⟩ := unhide HQ
    refine Pv.live_ret (by kernel_rfl) ⟨_, _, w.heap.size + 1 + 1, w.heap.size + 1 + 1 + 1, w.heap.size + 1 + 1 + 1 + 1, w.heap.size + 1 + 1 + 1 + 1 + 1, 34, 47, 3, 4, hw', #[.int .i64 z, .slice A1 n1 c1, .slice A2 n2 c2, .int .i64 er], #[.int .i64 n], .agg hw', .agg #[.int .i64 z, .slice A1 n1 c1, .slice A2 n2 c2, .int .i64 er], .int .i64 n⟩
      (Pv.Loc.wide hwb_wide _ _ _ q1 q2) (Pv.Loc.wide sgo_wide _ _ _ rfl (by rw [← Array.all_toList]; rfl)) (loc_int _ _) (loc_bool _ _) rfl rfl rfl rfl rfl (by dsimp only; omega) (by dsimp only; omega) (by dsimp only; omega) (by dsimp only; omega) (by dsimp only; omega) (by dsimp only; omega)
      (q3.chg hc3 (by omega)) hO3 (q4.chg hc3 (by omega)) ⟨_, (unhide HD).chg hc3 (by omega)⟩ fun a4 w4 h4 => ?_
    obtain ⟨ds, sz, tm, l1, l2, l3, k1, k2, k3, ⟨v4, k4, k5⟩, hc4, hz4⟩ := h4
    dsimp only at ds tm k1 k2 k3 k4 hc4 hz4
    obtain rfl := k5 rfl
    have H4 := hide (And.intro ds (And.intro sz (And.intro tm (And.intro k1 (And.intro k2 (And.intro k3 (And.intro k4 (And.intro hc4 hz4))))))))
    have H3 := hide (And.intro q1 (And.intro hv hc3))
    clear l1 l2 l3 k5 ds sz tm k1 k2 k3 k4 hc4 hz4 q1 q2 q3 q4 hv hc3
    dsimp only [Exit.then]
    go_wp2
    obtain ⟨ds, sz, tm, k1, k2, k3, k4, hc4, hz4⟩ := unhide H4
    obtain ⟨q1, hv, hc3⟩ := unhide H3
    show Leaves _ _ a4.tmps _ a4.defers .returning w4
    rw [ds]
    refine leaves_cons (f := 25) (args := #[.pointer (some ⟨w.heap.size + 1 + 1 + 1, 0, none⟩), .pointer (some ⟨w.heap.size + 1 + 1 + 1 + 1 + 1, 0, none⟩)]) (by simp) (by simp [go_sem]) ?_
    refine (live_idle _ _ _).mono ?_
    rintro e u' w5 ⟨rfl, rfl, rfl⟩
    refine ⟨_, live_results _ _ (w.heap.size + 1 + 1) (w.heap.size + 1 + 1 + 1) (w.heap.size + 1 + 1 + 1 + 1) (w.heap.size + 1 + 1 + 1 + 1 + 1) hw' q1 (.int .i64 z) (.slice A1 n1 c1) (.slice A2 n2 c2) (.int .i64 er) (.int .i64 n) (.bool true) (tm 6 (by omega)) (tm 7 (by omega)) (tm 8 (by omega)) (tm 9 (by omega)) k1 k2 k3 k4, ?_, hw', q1, n, .inl ⟨z, A1, n1, c1, A2, n2, c2, er, rfl, ?_⟩⟩
    · exact (unhide hEx).trans (hc3.mono fun k _ hk => by omega) |>.trans (hc4.mono fun k _ hk => by rcases hk with h | h | h | h <;> omega)
    · exact (unhide HV) _ _ _ _ _ hv ((hc3.mono fun k _ hk => by omega).trans (hc4.mono fun k _ hk => by rcases hk with h | h | h | h <;> omega))
  · have HO := hide hO
    have HD := hide hD
    have HQ := hide (And.intro q1 (And.intro q2 (And.intro q3 (And.intro q4 hv))))
    clear z1 z2 z3 z4 z5 z6 z7 y1 y2 hE1 h2 q1 q2 q3 q4 hv hO hD HP H1 HZ
    go_wp2
    obtain ⟨q1, q2, q3, q4, hv⟩ := unhide HQ
    refine leaves_cons (f := 25) (args := #[.pointer (some ⟨w.heap.size + 1 + 1 + 1, 0, none⟩), .pointer (some ⟨w.heap.size + 1 + 1 + 1 + 1 + 1, 0, none⟩)]) (by simp) (by simp [go_sem]) ?_
    refine (live_catch _ _ _ _ _ _ _ [] _ (unhide HO) (unhide HD) (by omega)).mono ?_
    rintro e u' w5 ⟨rfl, rfl, hc, hO', hD'⟩
    refine ⟨_, live_results _ _ (w.heap.size + 1 + 1) (w.heap.size + 1 + 1 + 1) (w.heap.size + 1 + 1 + 1 + 1) (w.heap.size + 1 + 1 + 1 + 1 + 1) hw' q1 _ _ _ _ _ _ rfl rfl rfl rfl (q3.chg hc (by omega)) hO' (q4.chg hc (by omega)) hD', ?_, hw', n, q1, .inr ⟨rfl, ?_⟩⟩
    · exact (unhide hEx).trans' hc (fun _ _ h => h) (fun i hi e => by omega)
    · exact (unhide HV) _ _ _ _ _ hv (hc.mono fun k _ hk => by omega)
end Go.Proofs.YtihghljfmlbfhaaDoor


namespace Go.Proofs.YtihghljfmlbfhaaDoor.Pv
open Go.RowKit
def LiveEnd (seed m : List UInt8) (h : Int) (q : Option (Nat × Int) × HwS × Nat) (e : Ending) (w2 : World) (ok : Nat → Prop) : Prop :=
  (∃ p z A1 n1 c1 A2 n2 c2 er, q.1 = some p ∧ e = .returned (.agg #[.int .i64 z, .slice A1 n1 c1, .slice A2 n2 c2, .int .i64 er]) ∧
    RL { w := w2, ok := ok, env := fun _ => none } (sigPC (sgO seed h m p).1 ++ [.lit (.int .i64 (sgO seed h m p).2)]) [.int .i64 z, .slice A1 n1 c1, .slice A2 n2 c2, .int .i64 er]) ∨
  (q.1 = none ∧ e = .panicked cutChain)
set_option maxHeartbeats 1000000 in
theorem sign1_live (seed m : List UInt8) (hs : seed.length = 16) (hm : m.length = 16) (h : Int) (F : List Flt) (hF : F.length ≤ 1000000) (h0 : HwS) (hd : Dim h0) (g : Nat) (w0 w : World) (hw0 : Ext w0 w) (hgw : g + 3 ≤ w0.heap.size) (hmem : ∀ w', Chg (fun b => g ≤ b) w w' → ShaMem w')
    (B0 : Blk w0 g 23 (seed.map u8v).toArray) (B1 : Blk w0 (g + 1) 3 #[.int .i64 h]) (B2 : Blk w0 (g + 1 + 1) 23 (m.map u8v).toArray)
    (gN gF gH : Nat) (hN : w0.heap.size ≤ gN) (hFb : w0.heap.size ≤ gF) (hH : w0.heap.size ≤ gH) (K X : Nat → Prop) (hX : X g ∧ X (g + 1) ∧ X (g + 1 + 1)) (hR : LiveB K gN gF gH F h0 [] X w) :
    Calls Tryd.prog 26 (#[.func (.func 23) #[] #[.pointer (some ⟨gN, 0, none⟩), .pointer (some ⟨gF, 0, none⟩), .pointer (some ⟨gH, 0, none⟩)]] ++ #[.pointer (some ⟨g + 1, 0, none⟩), .pointer (some ⟨g, 0, none⟩), .pointer (some ⟨g + 1 + 1, 0, none⟩)]) w fun e w2 =>
      Chg (fun k => k = gN ∨ k = gF ∨ k = gH ∨ (g ≤ k ∧ k < w0.heap.size)) w w2 ∧
      Blk w2 gN 3 #[.int .i64 ((execL F (Prg.signI h) h0 0).2.2 : Int)] ∧ (∃ cs, Blk w2 gH 34 cs ∧ RL { w := w2, ok := okL K X gN gF gH, env := fun _ => none } (hwL (execL F (Prg.signI h) h0 0).2.1) cs.toList) ∧
      LiveEnd seed m h (execL F (Prg.signI h) h0 0) e w2 (fun b => w.heap.size ≤ b) := by
  have b0 := B0.ext hw0
  have b1 := B1.ext hw0
  have b2 := B2.ext hw0
  obtain ⟨bl, hbl⟩ : ∃ bl : Nat → Nat, bl 900001 = g + 1 ∧ bl 900002 = g ∧ bl 900003 = g + 1 + 1 := ⟨fun x => if x = 900001 then g + 1 else if x = 900002 then g else g + 1 + 1, rfl, rfl, rfl⟩
  obtain ⟨hb1, hb2, hb3⟩ := hbl
  have lN := hR.bn.lt
  obtain ⟨cF, f1, f2⟩ := hR.bf
  obtain ⟨cH, f3, f4⟩ := hR.bh
  have lF := f1.lt
  have lH := f3.lt
  have hin := signI_in h
  have hwi := signI_within h
  have hgl := go_live F h0 (Prg.signI h) hin 399 hwi [] (by simp)
  have hlen := go_len (liveO F h0) (Prg.signI h) 399 hwi []
  rw [List.length_nil, Nat.zero_add] at hlen
  have hX0 : (liveD K gN gF gH F h0).inv [] X w := ⟨hR, fun k hk => by cases hk⟩
  have hobs : ∀ o ∈ sgObs seed m h, (o.x = 900001 ∧ o.t = 3 ∧ o.l = [.lit (.int .i64 h)]) ∨ (o.x = 900002 ∧ o.t = 23 ∧ o.l = [.bs 16 seed]) ∨ (o.x = 900003 ∧ o.t = 23 ∧ o.l = [.bs 16 m]) := by
    intro o ho
    simp only [sgObs, List.mem_cons, List.not_mem_nil, or_false] at ho
    rcases ho with rfl | rfl | rfl
    · exact .inl ⟨rfl, rfl, rfl⟩
    · exact .inr (.inl ⟨rfl, rfl, rfl⟩)
    · exact .inr (.inr ⟨rfl, rfl, rfl⟩)
  have hSX : ∀ b, SX (sgObs seed m h) bl (liveD K gN gF gH F h0) b → (b = gN ∨ b = gF ∨ b = gH) ∨ b = g ∨ b = g + 1 ∨ b = g + 1 + 1 := by
    rintro b (hb | ⟨o, ho, rfl⟩)
    · exact .inl hb
    · rcases hobs o ho with ⟨e, _⟩ | ⟨e, _⟩ | ⟨e, _⟩ <;> rw [e] <;> omega
  have hSw : ∀ b, SX (sgObs seed m h) bl (liveD K gN gF gH F h0) b → g ≤ b ∧ b < w.heap.size := fun b hb => by
    have := b2.lt
    rcases hSX b hb with (h | h | h) | h | h | h <;> omega
  have e1 : Value.pointer (some ⟨g + 1, 0, none⟩) = .pointer (some ⟨bl 900001, 0, none⟩) := by rw [hb1]
  have e2 : Value.pointer (some ⟨g, 0, none⟩) = .pointer (some ⟨bl 900002, 0, none⟩) := by rw [hb2]
  have e3 : Value.pointer (some ⟨g + 1 + 1, 0, none⟩) = .pointer (some ⟨bl 900003, 0, none⟩) := by rw [hb3]
  refine (sign1_fun seed m h (liveO F h0) [] w (fun _ => False) [.func (.func 23) #[] #[.pointer (some ⟨gN, 0, none⟩), .pointer (some ⟨gF, 0, none⟩), .pointer (some ⟨gH, 0, none⟩)], .pointer (some ⟨g + 1, 0, none⟩), .pointer (some ⟨g, 0, none⟩), .pointer (some ⟨g + 1 + 1, 0, none⟩)] bl (liveD K gN gF gH F h0) X
    (fun w' hc => hmem w' (hc.mono fun b _ hb => (hSw b hb).1))
    (fun b hb => ⟨(hSw b hb).2, fun h => h⟩)
    (liveD_step K gN gF gH F h0 hF hd (Prg.signI h) hin (by omega)) (liveD_pan K gN gF gH F h0) rfl (fun p hp => by cases hp; exact hX0) (fun h => by cases h)
    (fun o ho => ?_) (fun o ho o' ho' e => ?_) ⟨?_, ?_, ?_, ?_, trivial⟩).mono ?_
  · rcases hobs o ho with ⟨k1, k2, k3⟩ | ⟨k1, k2, k3⟩ | ⟨k1, k2, k3⟩ <;> rw [k1, k2, k3]
    · exact ⟨by rw [hb1]; exact hX.2.1, _, by rw [hb1]; exact b1, .cons (.lit rfl) .nil⟩
    · refine ⟨by rw [hb2]; exact hX.1, _, by rw [hb2]; exact b0, ?_⟩
      have := RL.cons (C := { w := w, ok := fun _ => False, env := fun _ => none }) (R.bs (n := 16) hs) RL.nil
      rw [List.append_nil] at this
      exact this
    · refine ⟨by rw [hb3]; exact hX.2.2, _, by rw [hb3]; exact b2, ?_⟩
      have := RL.cons (C := { w := w, ok := fun _ => False, env := fun _ => none }) (R.bs (n := 16) hm) RL.nil
      rw [List.append_nil] at this
      exact this
  · rcases hobs o ho with ⟨k1, _⟩ | ⟨k1, _⟩ | ⟨k1, _⟩ <;> rcases hobs o' ho' with ⟨k2, _⟩ | ⟨k2, _⟩ | ⟨k2, _⟩ <;> rw [k1, k2] at e ⊢ <;> first | rfl | (exfalso; omega)
  · exact .w (.one (.dv rfl ⟨0, _, rfl, Nat.le_refl _, fun _ => rfl⟩))
  · exact .w (.one (.pt ⟨_, _, rfl⟩ ⟨0, _, rfl, Nat.le_refl _, fun _ => ⟨_, rfl, e1⟩⟩))
  · exact .w (.one (.pt ⟨_, _, rfl⟩ ⟨0, _, rfl, Nat.le_refl _, fun _ => ⟨_, rfl, e2⟩⟩))
  · exact .w (.one (.pt ⟨_, _, rfl⟩ ⟨0, _, rfl, Nat.le_refl _, fun _ => ⟨_, rfl, e3⟩⟩))
  rintro e w2 ⟨hc, hq⟩
  refine ⟨hc.mono fun b _ hb => by have := b2.lt; have := B2.lt; rcases hSX b hb with (h | h | h) | h | h | h <;> omega, ?_⟩
  rcases hq with ⟨val, rfl, hres, _, hdv⟩ | ⟨chain, l, rfl, h1, h2, h3⟩
  · obtain ⟨hB, hNC⟩ := hdv _ rfl
    have hx : execL F (Prg.signI h) h0 0 = _ := hgl.1 hNC
    rw [hx]
    obtain ⟨c3, g3, g4⟩ := hB.bh
    refine ⟨hB.bn, ⟨c3, g3, g4⟩, .inl ?_⟩
    cases hres with
    | w hres => cases hres with
      | @agg _ cs hres =>
        obtain ⟨cs⟩ := cs
        dsimp only at hres
        have hok : RL { w := w2, ok := fun b => w.heap.size ≤ b, env := fun _ => none } _ cs := hres.le ⟨Nat.le_refl _, fun b _ hb => ⟨hb.elim (fun h => h.2.elim) id, rfl⟩, fun _ _ _ h => by cases h⟩
        have hok2 := hok
        unfold sigPC at hres
        cases hres with
        | cons k1 hres => cases hres with
          | cons k2 hres => cases hres with
            | cons k3 hres => cases hres with
              | cons k4 hres =>
                cases hres
                cases k1
                cases k4
                cases k2 with
                | sl r2 _ _ => cases k3 with
                  | sl r3 _ _ =>
                    obtain ⟨_, A1, c1, rfl, _⟩ := r2
                    obtain ⟨_, A2, c2, rfl, _⟩ := r3
                    exact ⟨_, _, _, _, _, _, _, _, _, rfl, rfl, hok2⟩
  · obtain ⟨rfl, hB, l', c, rfl, h4, h5⟩ := h3
    have hx : execL F (Prg.signI h) h0 0 = _ := hgl.2 l' c List.nil_prefix h1.2 h4 h5
    rw [hx]
    obtain ⟨c3, g3, g4⟩ := hB.bh
    have hb := hB.bn
    rw [List.length_append, List.length_singleton] at hb
    exact ⟨hb, ⟨c3, g3, g4⟩, .inr ⟨rfl, rfl⟩⟩
end Go.Proofs.YtihghljfmlbfhaaDoor.Pv
