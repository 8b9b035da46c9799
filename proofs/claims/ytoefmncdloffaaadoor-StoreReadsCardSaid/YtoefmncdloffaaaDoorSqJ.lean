/-
  Several texts in one file: each has its own heading below.
-/
import Derived.Test.YtoefmncdloffaaaDoorSqI
import Derived.Test.YtoefmncdloffaaaDoorSqE
import Derived.Test.YtoefmncdloffaaaDoorSqG


namespace Go.Proofs.YtoefmncdloffaaaDoor.Pv
open Go.RowKit
theorem specs_of {P : Program} {I : World → Prop} {l : List (Nat × Spec)} (h : ∀ p ∈ l, SpecOk P I p.1 p.2) : SpecsOk P I (find l) := by
  intro f sp hf
  induction l with
  | nil => cases hf
  | cons p l ih =>
    by_cases hp : p.1 = f
    · obtain ⟨f', sp'⟩ := p
      subst hp
      rw [find_cons_eq] at hf
      cases hf
      exact h _ List.mem_cons_self
    · obtain ⟨f', sp'⟩ := p
      rw [find_cons_ne _ _ hp] at hf
      exact ih (fun q hq => h q (List.mem_cons_of_mem _ hq)) hf
def lowL : List (Nat × Spec) := [(17, spInt), (76, spInt), (18, spBytes), (75, spBytes), (101, spDigest), (109, spDigest),
  (15, spDerive), (105, spDerive), (16, spMac), (110, spMac),
  (102, spRoot), (108, spRoot)]
theorem low_ok : ∀ p ∈ lowL, SpecOk Tryd.prog ShaMem p.1 p.2 := by
  intro p hp
  simp only [lowL, List.mem_cons, List.not_mem_nil, or_false] at hp
  rcases hp with rfl | rfl | rfl | rfl | rfl | rfl | rfl | rfl | rfl | rfl | rfl | rfl
  · exact int_ok
  · exact rint_ok
  · exact bytes_ok
  · exact rbytes_ok
  · exact digest_ok
  · exact rdigest_ok
  · exact derive_ok
  · exact rderive_ok
  · exact mac_ok
  · exact rmac_ok
  · exact root_ok
  · exact rroot_ok
theorem mixed_ : Tryd.prog.follows .mixedOrders = true := by kernel_rfl
theorem lowM : Mach Tryd.prog ShaMem (find lowL) := ⟨specs_of low_ok, mixed_⟩
theorem sha_ext : ∀ w w', Ext w w' → ShaMem w → ShaMem w' := fun _ _ h hi => hi.ext h
structure BoxS where
  nonce : Int
  cipher : ByteArray
  tag : List UInt8
  deriving Inhabited
def boxPC (b : BoxS) : List PC := [.lit (.int .i64 b.nonce), .lit (.string b.cipher), .bs 16 b.tag]
def boxF (l : List BoxS) : Nat → List PC := fun i => boxPC (l.getD i default)
def boxOf : List PC → BoxS
  | [.lit (.int _ n), .lit (.string c), .bs _ t] => ⟨n, c, t⟩
  | _ => default
def isBox : List PC → Bool
  | [.lit (.int .i64 _), .lit (.string _), .bs n _] => Nat.beq n 16
  | _ => false
def rowBox (n : Nat) (f : Nat → List PC) : List BoxS := (List.range n).map fun i => boxOf (f i)
def IsBoxRow (n : Nat) (f : Nat → List PC) : Prop := ∀ i, i < n → isBox (f i) = true
theorem getD_map_range {α : Type} [Inhabited α] (n i : Nat) (g : Nat → α) (h : i < n) (d : α) : ((List.range n).map g).getD i d = g i := by
  rw [List.getD_eq_getElem?_getD, List.getElem?_map, List.getElem?_range h]; rfl
@[simp] theorem rowBox_length (n : Nat) (f : Nat → List PC) : (rowBox n f).length = n := by simp [rowBox]
@[simp] theorem isBoxRow_boxF (n : Nat) (l : List BoxS) : IsBoxRow n (boxF l) := fun _ _ => rfl
@[simp] theorem rowBox_boxF (l : List BoxS) : rowBox l.length (boxF l) = l := by
  apply List.ext_getElem (by simp)
  intro i h1 h2
  simp only [rowBox, List.getElem_map, List.getElem_range, boxF, boxPC, boxOf]
  rw [List.getD_eq_getElem?_getD, List.getElem?_eq_getElem h2]
  rfl
def intF (l : List Int) : Nat → List PC := fun i => [.lit (.int .i64 (l.getD i 0))]
def intOf : List PC → Int
  | [.lit (.int _ n)] => n
  | _ => 0
def isInt : List PC → Bool
  | [.lit (.int .i64 _)] => true
  | _ => false
def rowInt (n : Nat) (f : Nat → List PC) : List Int := (List.range n).map fun i => intOf (f i)
def IsIntRow (n : Nat) (f : Nat → List PC) : Prop := ∀ i, i < n → isInt (f i) = true
@[simp] theorem rowInt_length (n : Nat) (f : Nat → List PC) : (rowInt n f).length = n := by simp [rowInt]
@[simp] theorem isIntRow_intF (n : Nat) (l : List Int) : IsIntRow n (intF l) := fun _ _ => rfl
@[simp] theorem rowInt_intF (l : List Int) : rowInt l.length (intF l) = l := by
  apply List.ext_getElem (by simp)
  intro i h1 h2
  simp only [rowInt, List.getElem_map, List.getElem_range, intF, intOf]
  rw [List.getD_eq_getElem?_getD, List.getElem?_eq_getElem h2]
  rfl
theorem R.sl_ext {C : Ctx} {n len : Nat} {f f' : Nat → List PC} {xs : List Value} (h : R C (.sl n len f) xs) (he : ∀ i, i < len → f i = f' i) : R C (.sl n len f') xs := by
  cases h with
  | sl h1 h2 h3 => exact .sl h1 h2 (fun i hi => by rw [← he i hi]; exact h3 i hi)
theorem FunOk.args {P : Program} {I : World → Prop} {f : Nat} {new : Bool} {args args' : List PV} {res : PV} (h : FunOk P I f new args' res) (hv : ∀ C vs, Vals C args vs → Vals C args' vs) : FunOk P I f new args res :=
  fun w ok0 vs hI hV => h w ok0 vs hI (hv _ vs hV)
theorem wrap_nat (k : Nat) (h : k < 9223372036854775807) : IntKind.i64.wrap ((k : Int) + 1) = ((k + 1 : Nat) : Int) := by
  rw [IntKind.wrap_i64]; omega
theorem all_cold {l : List PC} (h : l.all (coldPC false) = true) : ∀ x ∈ l, coldPC false x = true := fun x hx => List.all_eq_true.1 h x hx
end Go.Proofs.YtoefmncdloffaaaDoor.Pv


namespace Go.Proofs.YtoefmncdloffaaaDoor.Pv
open Go.RowKit
theorem flat_rl {C C' : Ctx} : ∀ {l : List PC} {xs : List Value}, RL C l xs → l.all (coldPC true) = true → RL C' l xs
  | [], _, h, _ => by cases h; exact .nil
  | c :: l, xs, h, hc => by
    rw [List.all_cons, Bool.and_eq_true] at hc
    cases h with
    | cons h3 h4 =>
      refine .cons ?_ (flat_rl h4 hc.2)
      have hc1 := hc.1
      cases h3 <;> first | exact .lit (by assumption) | exact .bs (by assumption) | (cases hc1; done)
def FunRow (P : Program) (I : World → Prop) (f : Nat) (args : List PV) (e n len : Nat) (f' : Nat → List PC) : Prop :=
  ∀ (w : World) (ok0 : Nat → Prop) (vs : List Value), I w → Vals { w, ok := ok0, env := fun _ => none } args vs →
    Calls P f vs.toArray w fun r w' => ∃ val xs, r = .returned val ∧ Ext w w' ∧ w'.ownsRow w.heap.size e n val len xs ∧ ∀ (C : Ctx) i, i < len → RL C (f' i) ((xs.drop (i * n)).take n)
def RowTo (P : Program) (fn : Func) (e n len : Nat) (f' : Nat → List PC) (s : St) : Prop :=
  ∃ x ver g f, (retM P fn.results).ok none s (fun _ v' wr => v' = pv1 (.ow x ver n 0 len) ∧ wr = []) ∧ find s.o x = some (g, ver, .arr e n len f) ∧ gT g ∧ ∀ i, i < len → f i = f' i ∧ (f' i).all (coldPC true) = true
def RQR (P : Program) (A : Amb) (fn : Func) (e n len : Nat) (f' : Nat → List PC) : Exit → Act → World → Prop
  | .panic chain, a, w => a.defers = [] ∧ PanG A chain w
  | x, a, w => (x = .normal ∨ x = .ret) ∧ ∃ s, RowTo P fn e n len f' s ∧ Gam A s a w
theorem rowTo_of {P : Program} {fn : Func} {e n len x ver : Nat} {g : Option Bool} {f f' : Nat → List PC} {s : St} {out : Out} (h : (retM P fn.results).exec none s [] [] [] [] = some out) (hc : All out.conds) (hw : out.wr = []) (hx : out.val = pv1 (.ow x ver n 0 len)) (hf : find s.o x = some (g, ver, .arr e n len f)) (hg : gT g) (hff : ∀ i, i < len → f i = f' i ∧ (f' i).all (coldPC true) = true) : RowTo P fn e n len f' s := by
  rw [exec_nil] at h
  exact ⟨x, ver, g, f, M.ok_of_run _ none s out _ h (fun p hp => hc.mem p hp) ⟨hx, hw⟩, hf, hg, hff⟩
theorem funRow_of {P : Program} {I : World → Prop} {f : Nat} {fn : Func} {c : Code} {args : List PV} {e n len : Nat} {f' : Nat → List PC} (hf : P.funcs[f]? = some fn) (hb : fn.body = some c) (hnb : Nat.ble args.length fn.ntmps = true) (hI : ∀ w w', Ext w w' → I w → I w')
    (hT : ∀ A : Amb, A.S = Non → A.nt = fn.ntmps → AmbOk P I A → Tri P A ⟨slots 0 args, []⟩ c (RQR P A fn e n len f')) (hmk : Nat.blt e mkT = true := by rfl) : FunRow P I f args e n len f' := by
  intro w ok0 vs hIw hv
  have hn := Nat.le_of_ble_eq_true hnb
  have hlen := hv.length
  have hg : Gam (Amb.plain w ok0 fn.ntmps) ⟨slots 0 args, []⟩ { tmps := vs.toArray ++ Array.replicate (fn.ntmps - vs.toArray.size) undef, defers := [] } w := by
    refine ⟨fun _ => none, { chg := Chg.refl _ _, size := ?_, dom := fun x _ => rfl, objs := fun x g ver o h => (by cases h), live := fun x ver hd b h => (by cases h), inj := fun x y v1 h1 v2 h2 b h => (by cases h), tmps := fun t g pv h hgt => ?_, defers := rfl, und := fun t pv h => (by obtain ⟨k, _, h2⟩ := find_slotsG h; cases h2), exts := fun x hd h => (by cases h), dev := fun g ver O stp l h => (by cases h) }⟩
    · simp [Amb.plain]; omega
    · obtain ⟨k, h1, h2⟩ := find_slots h
      obtain ⟨v, h3, h4⟩ := hv.at h2
      rw [Nat.zero_add] at h1
      subst h1
      have hk : t < vs.length := (List.getElem?_eq_some_iff.1 h3).1
      refine ⟨v, ?_, ?_⟩
      · rw [Array.getElem?_append_left (by simpa using hk)]
        simpa using h3
      · refine h4.le ⟨Nat.le_refl _, fun b _ hb => ⟨⟨.inl hb, fun _ _ _ h => by cases h⟩, rfl⟩, fun _ _ _ h => by cases h⟩
  refine calls_of_wp hf hb (wp_mono (hT (Amb.plain w ok0 fn.ntmps) rfl rfl (AmbOk.plain fun w' hc => hI w w' hc hIw) _ w hg (fun _ _ _ hd h => ⟨hd, h⟩)) (fun x a' w' he => ?_))
  have he' : (x = .normal ∨ x = .ret) ∧ ∃ s, RowTo P fn e n len f' s ∧ Gam (Amb.plain w ok0 fn.ntmps) s a' w' := by
    cases x with
    | panic chain => obtain ⟨_, l, hl, _⟩ := he; exact hl.elim
    | _ => exact he
  obtain ⟨h1, s, ⟨x0, ver, g, f0, h2, hfo, hgt, hff⟩, h4⟩ := he'
  obtain ⟨env, hE⟩ := h4
  obtain ⟨v', val, h5, h6, h7, _⟩ := retM_ok hE h2
  subst h7
  obtain ⟨hd, hev, hob⟩ := obj_at hE hfo hgt
  obtain ⟨A0, n0, c0, rfl, hle0, rfl⟩ := h6.ow_inv hev
  obtain ⟨xs, hown, hel⟩ := hob
  have hn0 : n0 = len := by
    obtain ⟨_, A1, c1, e1, _⟩ := Reads.of_ownX hown
    cases e1; rfl
  have hown := hown.plain hmk
  subst hn0
  have hA : A0.map (fun p => p.add (0 * n)) = A0 := by
    cases A0 with
    | none => rfl
    | some ad => simp [Addr.add]
  have hown2 : w'.ownsRow w.heap.size e n (.slice A0 n0 c0) n0 xs := ⟨hown.1, hown.2.imp id (fun ⟨g, cap, cur, h1, _, h3⟩ => ⟨g, cap, cur, h1, by
    have := (hE.live x0 ver _ g hev (by rw [h1]; rfl)).2
    exact this.resolve_right (fun h => h), h3⟩)⟩
  have this : a'.defers = [] ∧ ∃ v, (results fn a'.tmps).run P w' = .ok v w' ∧ ∃ val xs, Ending.returned v = .returned val ∧ Ext w w' ∧ w'.ownsRow w.heap.size e n val n0 xs ∧ ∀ (C : Ctx) i, i < n0 → RL C (f' i) ((xs.drop (i * n)).take n) := by
    refine ⟨hE.defers, _, h5, _, xs, rfl, hE.chg, ?_, fun C i hi => ?_⟩
    · first | exact hown2 | (simp only [Nat.zero_mul, Nat.sub_zero] at hA ⊢; rw [hA]; exact hown2)
    · have h8 := hel i hi
      rw [(hff i hi).1] at h8
      exact flat_rl h8 (hff i hi).2
  rcases h1 with rfl | rfl <;> exact this
def rowSpec (g : List PV → Option (Prop × Nat × Nat × Nat × (Nat → List PC))) : Spec := fun nm xs => expVs xs fun ys => match g ys with
  | some (p, e, n, len, f) => .need p (.new nm (.arr e n len f) fun v => .ret (pv1 (.ow nm v n 0 len)))
  | none => .fail
theorem rowSpec_ok {P : Program} {I : World → Prop} {f : Nat} {g : List PV → Option (Prop × Nat × Nat × Nat × (Nat → List PC))} (hent : ∀ args w, (callFunc f args).run P w = .ok (.enter f args) w) (hg : ∀ xs p e n len f', g xs = some (p, e, n, len, f') → p → FunRow P I f xs e n len f') : SpecOk P I f (rowSpec g) := by
  refine ⟨hent, fun A s a w env nm pvs vs F h hI hv hk => ?_⟩
  unfold rowSpec at hk
  obtain ⟨ys, h1, hk⟩ := expVs_ok h hv hk
  cases hq : g ys with
  | none => rw [hq] at hk; exact hk.elim
  | some q =>
    obtain ⟨p, e, n, len, f'⟩ := q
    rw [hq] at hk
    obtain ⟨hp, hk⟩ := hk
    refine (hg ys p e n len f' hq hp w (fun _ => True) vs (hI.mem w h.chg) h1).mono ?_
    rintro r w' ⟨val, xs, rfl, hE, ho, hr⟩
    obtain ⟨env', h3, h4⟩ := h.new_own nm e n len (f := f') hE ho hr
    exact .inl ⟨_, _, _, env', rfl, hk, h3, h4⟩
@[simp] theorem polB_true (b : Bool) : polB true b = b := rfl
@[simp] theorem polB_false (b : Bool) : polB false b = !b := rfl
@[simp] theorem all_nil_ : All [] = True := rfl
@[simp] theorem all_cons_ (p : Prop) (l : List Prop) : All (p :: l) = (p ∧ All l) := rfl
@[simp] theorem hP_none (p : Prop) : hP none p = p := rfl
@[simp] theorem hP_some (b : Bool) (p : Prop) : hP (some b) p = (b = true → p) := rfl
end Go.Proofs.YtoefmncdloffaaaDoor.Pv


namespace Go.Proofs.YtoefmncdloffaaaDoor.Pv
open Go.RowKit
structure Ob where
  x : Nat
  t : TypeId
  l : List PC
  l' : List PC
def hasOb (os : List Ob) (x : Nat) : Bool := os.any fun o => Nat.beq o.x x
theorem hasOb_mem {os : List Ob} {x : Nat} (h : hasOb os x = true) : ∃ o ∈ os, o.x = x := by
  obtain ⟨o, h1, h2⟩ := List.any_eq_true.1 h
  exact ⟨o, h1, beqT h2⟩
theorem mem_hasOb {os : List Ob} {o : Ob} (h : o ∈ os) : hasOb os o.x = true := List.any_eq_true.2 ⟨o, h, Nat.beq_refl _⟩
def extX (os : List Ob) (bl : Nat → Nat) (dev : Option (List Acc × List Acc)) (hd : Value) : Nat → Option Value := fun x => match hasOb os x, dev, Nat.beq x dx with
  | true, _, _ => some (boxAt (bl x))
  | false, some _, true => some hd
  | false, _, _ => none
def envX (os : List Ob) (bl : Nat → Nat) (dev : Option (List Acc × List Acc)) (hd : Value) : Env := fun x => (extX os bl dev hd x).map fun h => (0, h)
def SX (os : List Ob) (bl : Nat → Nat) (D : Dv) : Nat → Prop := fun b => D.S b ∨ ∃ o ∈ os, b = bl o.x
def FunX (P : Program) (I : World → Prop) (f : Nat) (new : Bool) (os : List Ob) (O : List Acc → Option Res) (dev : Option (List Acc × List Acc)) (stp : List Acc → Prop) (args : List PV) (res : PV) : Prop :=
  ∀ (w : World) (ok0 : Nat → Prop) (vs : List Value) (bl : Nat → Nat) (D : Dv) (X0 : Nat → Prop),
    (∀ w', Chg (SX os bl D) w w' → I w') → (∀ b, SX os bl D b → b < w.heap.size ∧ ¬ ok0 b) → DvStep P D → (∀ l X Y w w' chain, D.pan l X w chain → Chg X w w' → (∀ b, Y b → X b) → D.pan l Y w' chain) → D.O = O →
    (∀ p, dev = some p → D.inv p.1 X0 w) → (dev = none → (∀ b, ¬ D.S b) ∧ ∀ l X w, ¬ D.inv l X w) →
    (∀ o ∈ os, X0 (bl o.x) ∧ ∃ cs, Blk w (bl o.x) o.t cs ∧ RL { w, ok := ok0, env := fun _ => none } o.l cs.toList) → (∀ o ∈ os, ∀ o' ∈ os, bl o.x = bl o'.x → o.x = o'.x) →
    Vals { w, ok := ok0, env := envX os bl dev D.hd } args vs →
    Calls P f vs.toArray w fun e w' => Chg (SX os bl D) w w' ∧
      ((∃ val, e = .returned val ∧ RV { w := w', ok := okRes w ok0 new, env := fun _ => none } res val ∧ (∀ o ∈ os, ∃ cs, Blk w' (bl o.x) o.t cs ∧ RL { w := w', ok := okRes w ok0 new, env := fun _ => none } o.l' cs.toList) ∧ (∀ p, dev = some p → D.inv p.2 X0 w'))
      ∨ (∃ chain l, e = .panicked chain ∧ stp l ∧ O l = none ∧ D.pan l X0 w' chain))
def EndX (new : Bool) (os : List Ob) (O : List Acc → Option Res) (dev : Option (List Acc × List Acc)) (stp : List Acc → Prop) (s : St) : Prop :=
  (∀ o ∈ os, ∃ l, find s.o o.x = some (none, 0, .box o.t l) ∧ ExL s new l o.l') ∧ (∀ p, dev = some p → find s.o dx = some (none, 0, .dev O stp p.2))
def RQX (P : Program) (A : Amb) (fn : Func) (new : Bool) (os : List Ob) (O : List Acc → Option Res) (dev : Option (List Acc × List Acc)) (stp : List Acc → Prop) (res : PV) : Exit → Act → World → Prop
  | .panic chain, a, w => a.defers = [] ∧ PanG A chain w
  | e, a, w => (e = .normal ∨ e = .ret) ∧ ∃ s, (RetTo P fn new res s ∧ EndX new os O dev stp s) ∧ Gam A s a w
def headO (os : List Ob) (O : List Acc → Option Res) (dev : Option (List Acc × List Acc)) (stp : List Acc → Prop) : Wr := match dev with
  | some p => (dx, none, 0, .dev O stp p.1) :: os.map (fun o => (o.x, none, 0, .box o.t o.l))
  | none => os.map (fun o => (o.x, none, 0, .box o.t o.l))
theorem find_obs {os : List Ob} {x : Nat} {p : Option Bool × Nat × AObj} : find (os.map (fun o => (o.x, none, 0, AObj.box o.t o.l))) x = some p → ∃ o ∈ os, o.x = x ∧ p = (none, 0, .box o.t o.l) := by
  intro h
  obtain ⟨o, h1, h2⟩ := List.mem_map.1 (find_mem h)
  cases h2
  exact ⟨o, h1, rfl, rfl⟩
theorem find_obs_none {os : List Ob} {x : Nat} (h : find (os.map (fun o => (o.x, (none : Option Bool), 0, AObj.box o.t o.l))) x = none) : hasOb os x = false := by
  induction os with
  | nil => rfl
  | cons o os ih =>
    by_cases hx : o.x = x
    · rw [List.map_cons, ← hx, find_cons_eq] at h; cases h
    · rw [List.map_cons, find_cons_ne _ _ hx] at h
      have hb : Nat.beq o.x x = false := by
        cases hb : Nat.beq o.x x with
        | false => rfl
        | true => exact absurd (beqT hb) hx
      have := ih h
      unfold hasOb at this ⊢
      rw [List.any_cons, hb, Bool.false_or]
      exact this
theorem hblk_boxAt {g b : Nat} (h : hblk (boxAt g) = some b) : b = g := by cases h; rfl
theorem funX_of {P : Program} {I : World → Prop} {f : Nat} {fn : Func} {c : Code} {new : Bool} {os : List Ob} {O : List Acc → Option Res} {dev : Option (List Acc × List Acc)} {stp : List Acc → Prop} {args : List PV} {res : PV} (hf : P.funcs[f]? = some fn) (hb : fn.body = some c) (hnb : Nat.ble args.length fn.ntmps = true)
    (hos : (os.all fun o => Nat.blt dx o.x) = true)
    (hT : ∀ A : Amb, A.nt = fn.ntmps → AmbOk P I A → Tri P A ⟨slots 0 args, headO os O dev stp⟩ c (RQX P A fn new os O dev stp res)) : FunX P I f new os O dev stp args res := by
  intro w ok0 vs bl D X0 hM hold hst hpW hO hdv hnd hob hinj hv
  have hlen := hv.length
  have hn := Nat.le_of_ble_eq_true hnb
  have hgt : ∀ o ∈ os, dx < o.x := fun o ho => by
    have := List.all_eq_true.1 hos o ho
    have h3 : dx + 1 ≤ o.x := by simpa [Nat.blt] using this
    exact h3
  have hdxo : hasOb os dx = false := by
    cases h : hasOb os dx with
    | false => rfl
    | true =>
      obtain ⟨o, h1, h2⟩ := hasOb_mem h
      have := hgt o h1; omega
  subst hO
  let A : Amb := ⟨w, SX os bl D, ok0, fn.ntmps, extX os bl dev D.hd, D, stp, X0⟩
  have hext : ∀ x hd, extX os bl dev D.hd x = some hd → (hasOb os x = true ∧ hd = boxAt (bl x)) ∨ (x = dx ∧ hd = D.hd ∧ dev.isSome = true) := by
    intro x hd h
    unfold extX at h
    split at h
    · rename_i h1; cases h; exact .inl ⟨h1, rfl⟩
    · rename_i h1 h2 h3; cases h; exact .inr ⟨beqT h3, rfl, rfl⟩
    · cases h
  have hA : AmbOk P I A := ⟨hM, fun b h => .inl h, hold, hst, fun l X w' hi => by
    cases hd : dev with
    | none => exact ((hnd hd).2 l X w' hi).elim
    | some p => show extX os bl dev D.hd dx = _; unfold extX; rw [hdxo, hd]; rfl, hpW⟩
  have hown : ∀ b, ownB A (envX os bl dev D.hd) b → X0 b := by
    rintro b (h | ⟨x, ver, hd, h1, h2⟩)
    · exact h
    · unfold envX at h1
      cases hx : extX os bl dev D.hd x with
      | none => rw [hx] at h1; cases h1
      | some h =>
        rw [hx] at h1
        cases h1
        rcases hext x _ hx with ⟨h3, rfl⟩ | ⟨_, rfl, _⟩
        · obtain ⟨o, h4, rfl⟩ := hasOb_mem h3
          rw [hblk_boxAt h2]
          exact (hob o h4).1
        · rw [D.noBlk] at h2; cases h2
  have hhead : ∀ x p, find (headO os D.O dev stp) x = some p → (∃ o ∈ os, o.x = x ∧ p = (none, 0, .box o.t o.l)) ∨ (x = dx ∧ ∃ q, dev = some q ∧ p = (none, 0, .dev D.O stp q.1)) := by
    intro x p h
    unfold headO at h
    cases hd : dev with
    | none => rw [hd] at h; exact .inl (find_obs h)
    | some q =>
      rw [hd] at h
      by_cases hx : dx = x
      · subst hx; rw [find_cons_eq] at h; cases h; exact .inr ⟨rfl, q, rfl, rfl⟩
      · rw [find_cons_ne _ _ hx] at h; exact .inl (find_obs h)
  have henv : ∀ o ∈ os, envX os bl dev D.hd o.x = some (0, boxAt (bl o.x)) := fun o ho => by
    unfold envX extX
    rw [mem_hasOb ho]
    rfl
  have hle0 : ∀ {pv : PV} {v : Value}, RV { w, ok := ok0, env := envX os bl dev D.hd } pv v → RV (ctxOf A w (envX os bl dev D.hd)) pv v := fun h => h.le ⟨Nat.le_refl _, fun b hlt ho => ⟨⟨.inl ho, fun x ver hd hx hb => by
      unfold envX at hx
      cases hx2 : extX os bl dev D.hd x with
      | none => rw [hx2] at hx; cases hx
      | some h =>
        rw [hx2] at hx
        cases hx
        rcases hext x _ hx2 with ⟨h3, rfl⟩ | ⟨_, rfl, _⟩
        · obtain ⟨o, h4, rfl⟩ := hasOb_mem h3
          have := hblk_boxAt hb
          subst this
          exact (hold _ (.inr ⟨o, h4, rfl⟩)).2 ho
        · rw [D.noBlk] at hb; cases hb⟩, rfl⟩, fun x ver hd h => ⟨ver, hd, h, Nat.le_refl _, fun _ => rfl⟩⟩
  have hg : Gam A ⟨slots 0 args, headO os D.O dev stp⟩ { tmps := vs.toArray ++ Array.replicate (fn.ntmps - vs.toArray.size) undef, defers := [] } w := by
    refine ⟨envX os bl dev D.hd, { chg := Chg.refl _ _, size := ?_, dom := fun x hx => ?_, objs := fun x g ver o h => ?_, live := fun x ver hd b h hb => ?_, inj := fun x y v1 h1 v2 h2 b hx hy hb1 hb2 => ?_, tmps := fun t g pv h hgt => ?_, defers := rfl, und := fun t pv h => (by obtain ⟨k, _, h2⟩ := find_slotsG h; cases h2), exts := fun x hd hx => ?_, dev := fun g ver O stp' l h _ => ?_ }⟩
    · simp [A]; omega
    · unfold envX extX
      have h1 : hasOb os x = false := by
        unfold headO at hx
        cases hd : dev with
        | none => rw [hd] at hx; exact find_obs_none hx
        | some q =>
          rw [hd] at hx
          by_cases hdx : dx = x
          · subst hdx; exact hdxo
          · rw [find_cons_ne _ _ hdx] at hx; exact find_obs_none hx
      rw [h1]
      cases hd : dev with
      | none => rfl
      | some q =>
        have : Nat.beq x dx = false := by
          cases hb : Nat.beq x dx with
          | false => rfl
          | true =>
            obtain rfl := beqT hb
            unfold headO at hx
            rw [hd, find_cons_eq] at hx
            cases hx
        rw [this]
        rfl
    · rcases hhead x _ h with ⟨ob, h1, rfl, h2⟩ | ⟨rfl, q, h1, h2⟩
      · cases h2
        obtain ⟨_, cs, h3, h4⟩ := hob ob h1
        refine ⟨boxAt (bl ob.x), henv ob h1, fun _ => ⟨_, cs, rfl, h3, ?_⟩⟩
        refine h4.le ⟨Nat.le_refl _, fun b hlt hok => ⟨⟨.inl hok, fun x ver hd hx hb => ?_⟩, rfl⟩, fun _ _ _ h => by cases h⟩
        have hx' : envX os bl dev D.hd x = some (ver, hd) := hx
        unfold envX at hx'
        cases hx2 : extX os bl dev D.hd x with
        | none => rw [hx2] at hx'; cases hx'
        | some h =>
          rw [hx2] at hx'
          cases hx'
          rcases hext x _ hx2 with ⟨h5, rfl⟩ | ⟨_, rfl, _⟩
          · obtain ⟨o, h6, rfl⟩ := hasOb_mem h5
            have := hblk_boxAt hb
            subst this
            exact (hold _ (.inr ⟨o, h6, rfl⟩)).2 hok
          · rw [D.noBlk] at hb; cases hb
      · cases h2
        refine ⟨D.hd, ?_, fun _ => trivial⟩
        unfold envX extX
        rw [hdxo, h1]
        rfl
    · unfold envX at h
      cases hx2 : extX os bl dev D.hd x with
      | none => rw [hx2] at h; cases h
      | some h' =>
        rw [hx2] at h
        cases h
        rcases hext x _ hx2 with ⟨h3, rfl⟩ | ⟨_, rfl, _⟩
        · obtain ⟨o, h4, rfl⟩ := hasOb_mem h3
          have := hblk_boxAt hb
          subst this
          exact ⟨(hold _ (.inr ⟨o, h4, rfl⟩)).1, .inr (.inr ⟨o, h4, rfl⟩)⟩
        · rw [D.noBlk] at hb; cases hb
    · unfold envX at hx hy
      cases hx2 : extX os bl dev D.hd x with
      | none => rw [hx2] at hx; cases hx
      | some hx3 =>
        cases hy2 : extX os bl dev D.hd y with
        | none => rw [hy2] at hy; cases hy
        | some hy3 =>
          rw [hx2] at hx
          rw [hy2] at hy
          cases hx
          cases hy
          rcases hext x _ hx2 with ⟨h3, rfl⟩ | ⟨_, rfl, _⟩
          · rcases hext y _ hy2 with ⟨h4, rfl⟩ | ⟨_, rfl, _⟩
            · obtain ⟨o, h5, rfl⟩ := hasOb_mem h3
              obtain ⟨o', h6, rfl⟩ := hasOb_mem h4
              refine hinj o h5 o' h6 ?_
              rw [← hblk_boxAt hb1, ← hblk_boxAt hb2]
            · rw [D.noBlk] at hb2; cases hb2
          · rw [D.noBlk] at hb1; cases hb1
    · obtain ⟨k, h1, h2⟩ := find_slots h
      obtain ⟨v, h3, h4⟩ := hv.at h2
      rw [Nat.zero_add] at h1
      subst h1
      have hk : t < vs.length := (List.getElem?_eq_some_iff.1 h3).1
      refine ⟨v, ?_, hle0 h4⟩
      rw [Array.getElem?_append_left (by simpa using hk)]
      simpa using h3
    · refine ⟨?_, 0, hd, ?_, Nat.le_refl _, fun _ => rfl⟩
      · rcases hext x hd hx with ⟨h3, _⟩ | ⟨rfl, _, _⟩
        · obtain ⟨o, h4, rfl⟩ := hasOb_mem h3
          exact Nat.ble_eq_true_of_le (Nat.le_of_lt (hgt o h4))
        · exact Nat.ble_eq_true_of_le (Nat.le_refl _)
      · show envX os bl dev D.hd x = some (0, hd)
        unfold envX
        have : extX os bl dev D.hd x = some hd := hx
        rw [this]
        rfl
    · rcases hhead dx _ h with ⟨ob, h1, h2, _⟩ | ⟨_, q, h1, h2⟩
      · have := hgt ob h1; omega
      · cases h2
        exact ⟨rfl, rfl, D.grow _ _ _ _ _ (hdv q h1) (Chg.refl _ _) (fun b hb => .inl (hown b hb))⟩
  refine calls_of_wp hf hb (wp_mono (hT A rfl hA _ w hg (fun _ _ _ hd h => ⟨hd, h⟩)) (fun e a' w' he => ?_))
  cases e with
  | panic chain =>
    obtain ⟨hd, l, h1, h2, h3, h4⟩ := he
    exact ⟨hd, h4, .inr ⟨chain, l, rfl, h1, h2, h3⟩⟩
  | exit id => obtain ⟨h1 | h1, _⟩ := he <;> cases h1
  | goto _ => obtain ⟨h1 | h1, _⟩ := he <;> cases h1
  | outgrown => obtain ⟨h1 | h1, _⟩ := he <;> cases h1
  | normal | ret =>
    obtain ⟨_, s, ⟨⟨v, h2, h3⟩, hE1, hE2⟩, env, hE⟩ := he
    obtain ⟨v', val, h5, h6, h7, _⟩ := retM_ok hE h2
    subst h7
    have hbox : ∀ o ∈ os, env o.x = some (0, boxAt (bl o.x)) := fun o ho => by
      obtain ⟨l, hf', _⟩ := hE1 o ho
      obtain ⟨hd, h8, _⟩ := hE.objs o.x none 0 _ hf'
      have h9 : extX os bl dev D.hd o.x = some (boxAt (bl o.x)) := by unfold extX; rw [mem_hasOb ho]
      have := (hE.exts o.x _ h9).2.now h8
      rw [h8, this]
    have hS : OwnS A s env := by
      intro x g ver e n len f0 hd b hfx hex hbx hs
      rcases hs with hs | ⟨o, ho, rfl⟩
      · cases hd2 : dev with
        | none => exact (hnd hd2).1 b hs
        | some q =>
          obtain ⟨_, _, hi⟩ := hE.dev none 0 _ _ _ (hE2 q hd2) trivial
          exact D.notS _ _ _ _ hi (.inr ⟨x, ver, hd, hex, hbx⟩) hs
      · obtain ⟨l, hf', _⟩ := hE1 o ho
        have := hE.inj x o.x ver hd 0 _ (bl o.x) hex (hbox o ho) hbx rfl
        subst this
        rw [hf'] at hfx
        cases hfx
    have hres := exV_ok hE hS h3 h6
    have this : a'.defers = [] ∧ ∃ v, (results fn a'.tmps).run P w' = .ok v w' ∧ (Chg (SX os bl D) w w' ∧
      ((∃ val, Ending.returned v = .returned val ∧ RV { w := w', ok := okRes w ok0 new, env := fun _ => none } res val ∧ (∀ o ∈ os, ∃ cs, Blk w' (bl o.x) o.t cs ∧ RL { w := w', ok := okRes w ok0 new, env := fun _ => none } o.l' cs.toList) ∧ (∀ p, dev = some p → D.inv p.2 X0 w'))
      ∨ (∃ chain l, Ending.returned v = .panicked chain ∧ stp l ∧ D.O l = none ∧ D.pan l X0 w' chain))) := by
      refine ⟨hE.defers, val, h5, hE.chg, .inl ⟨val, rfl, hres, fun o ho => ?_, fun p hp => ?_⟩⟩
      · obtain ⟨l, hf', hx⟩ := hE1 o ho
        obtain ⟨hd, h8, h9⟩ := hE.objs o.x none 0 _ hf'
        obtain ⟨g, cs, e1, h10, h11⟩ := h9 trivial
        rw [hbox o ho] at h8
        cases h8
        cases e1
        exact ⟨cs, h10, exL_ok hE hS hx h11⟩
      · obtain ⟨_, _, hi⟩ := hE.dev none 0 _ _ _ (hE2 p hp) trivial
        exact D.grow _ _ _ _ _ hi (Chg.refl _ _) (fun b hb => .inl (.inl hb))
    exact this
end Go.Proofs.YtoefmncdloffaaaDoor.Pv


namespace Go.Proofs.YtoefmncdloffaaaDoor.Pv
open Go.RowKit
def px : Nat := 900001
def anyL (l : List PC) : Option (List PC) := match l.all (fun c => Nat.beq c.width 1) with
  | true => some (l.map fun _ => .any)
  | false => none
def argC : PC → Option PC
  | .lit v => some (.lit v)
  | .bs n l => some (.bs n l)
  | .sl n len f => some (.sl n len f)
  | .fn f first cap => match anyL first, anyL cap with
    | some a, some b => some (.fn f a b)
    | _, _ => none
  | .pt _ _ _ => some .any
  | .any => some .any
  | _ => none
def argL : List PC → Option (List PC)
  | [] => some []
  | c :: l => match argC c, argL l with
    | some c, some l => some (c :: l)
    | _, _ => none
def argV : PV → Option PV
  | .w (.one c) => match argC c with
    | some c => some (.w (.one c))
    | none => none
  | .w (.agg l) => match argL l with
    | some l => some (.w (.agg l))
    | none => none
  | _ => none
def argVs : List PV → Option (List PV)
  | [] => some []
  | v :: l => match argV v, argVs l with
    | some v, some l => some (v :: l)
    | _, _ => none
theorem anyL_ok {C C' : Ctx} : ∀ {l : List PC} {xs : List Value}, RL C l xs → (l.all fun c => Nat.beq c.width 1) = true → RL C' (l.map fun _ => .any) xs
  | [], _, h, _ => by cases h; exact .nil
  | c :: l, _, h, hc => by
    rw [List.all_cons, Bool.and_eq_true] at hc
    cases h with
    | @cons _ _ _ xs ys h1 h2 =>
      have hw := h1.width
      rw [beqT hc.1] at hw
      match xs, hw, h1 with
      | [v], _, h1 => exact .cons (xs := [v]) (.any (h1.ones v (by simp))) (anyL_ok h2 hc.2)
theorem argC_ok {C C' : Ctx} (hle : C.cold.Le C') {c c' : PC} {xs : List Value} (h : argC c = some c') (hr : R C c xs) : R C' c' xs := by
  unfold argC at h
  split at h
  · cases h; cases hr; exact .lit (by assumption)
  · cases h; cases hr; exact .bs (by assumption)
  · cases h
    exact (coldPC_le hr rfl).le hle
  · rename_i f first cap
    unfold anyL at h
    cases h1 : first.all fun c => Nat.beq c.width 1 <;> cases h2 : cap.all fun c => Nat.beq c.width 1 <;> simp only [h1, h2] at h <;> try (cases h; done)
    cases h
    cases hr with
    | fn h3 h4 => exact .fn (anyL_ok h3 h1) (anyL_ok h4 h2)
  · cases h
    cases hr with
    | pt h1 _ => obtain ⟨b, o, rfl⟩ := h1; exact .any rfl
  · cases h; cases hr; exact .any (by assumption)
  · cases h
theorem argL_ok {C C' : Ctx} (hle : C.cold.Le C') : ∀ {l l' : List PC} {xs : List Value}, argL l = some l' → RL C l xs → RL C' l' xs
  | [], _, _, h, hr => by simp only [argL, Option.some.injEq] at h; subst h; cases hr; exact .nil
  | c :: l, _, _, h, hr => by
    unfold argL at h
    cases h1 : argC c <;> cases h2 : argL l <;> simp only [h1, h2] at h <;> try (cases h; done)
    cases h
    cases hr with
    | cons h3 h4 => exact .cons (argC_ok hle h1 h3) (argL_ok hle h2 h4)
theorem argV_ok {C C' : Ctx} (hle : C.cold.Le C') {v v' : PV} {x : Value} (h : argV v = some v') (hr : RV C v x) : RV C' v' x := by
  unfold argV at h
  split at h
  · rename_i c
    cases h1 : argC c <;> simp only [h1] at h <;> try (cases h; done)
    cases h
    exact .w (.one (argC_ok hle h1 hr.inv))
  · rename_i l
    cases h1 : argL l <;> simp only [h1] at h <;> try (cases h; done)
    cases h
    cases hr with
    | w hr => cases hr with
      | agg hr => exact .w (.agg (argL_ok hle h1 hr))
  · cases h
theorem argVs_ok {C C' : Ctx} (hle : C.cold.Le C') : ∀ {vs vs' : List PV} {l : List Value}, argVs vs = some vs' → Vals C vs l → Vals C' vs' l
  | [], _, [], h, _ => by simp only [argVs, Option.some.injEq] at h; subst h; exact trivial
  | [], _, _ :: _, _, h => h.elim
  | _ :: _, _, [], _, h => h.elim
  | v :: vs, _, x :: l, h, ⟨h1, h2⟩ => by
    unfold argVs at h
    cases h3 : argV v <;> cases h4 : argVs vs <;> simp only [h3, h4] at h <;> try (cases h; done)
    cases h
    exact ⟨argV_ok hle h3 h1, argVs_ok hle h4 h2⟩
section
variable {P : Program} {I : World → Prop} {A : Amb} {s : St} {a : Act} {w : World} {env : Env} {F : Option Bool → PV → Wr → Prop}
theorem cold_to {e : Env} : (ctxOf A w env).cold.Le { w, ok := (ctxOf A w env).ok, env := e } := ⟨Nat.le_refl _, fun b _ hb => ⟨hb, rfl⟩, fun _ _ _ h => by cases h⟩
theorem res_leX (h : GamE A s a w env) {w' : World} (_ : w.heap.size ≤ w'.heap.size) {new : Bool} : ({ w := w', ok := okRes w (ctxOf A w env).ok new, env := fun _ => none } : Ctx).Le (ctxOf A w' env) :=
  ⟨Nat.le_refl _, fun b _ hb => ⟨(by
    rcases hb with ⟨_, hb⟩ | hb
    · exact hb
    · exact ⟨.inr (Nat.le_trans h.chg.size hb), fun x ver hd he hbl => by have := (h.live x ver hd b he hbl).1; omega⟩), rfl⟩, fun _ _ _ h => by cases h⟩
def ptSpec (t : TypeId) (g : List PC → List PV → Option (Prop × List PC × PV)) : Spec := fun _ xs => match xs with
  | .w (.one (.pt x ver off)) :: rest => (match Nat.beq off 0, argVs rest with
    | true, some ys => .obj x fun gd vr ob => guardT gd (match Nat.beq ver vr, ob with
      | true, .box t' l => (match Nat.beq t t', l.all (coldPC false), g l ys with
        | true, true, some (p, l', r) => .need p (.upd x vr (.box t l') (.ret r))
        | _, _, _ => .fail)
      | _, _ => .fail)
    | _, _ => .fail)
  | _ => .fail
theorem ptSpec_ok {f : Nat} {t : TypeId} {g : List PC → List PV → Option (Prop × List PC × PV)} (hent : ∀ args w, (callFunc f args).run P w = .ok (.enter f args) w)
    (hg : ∀ l ys p l' r, g l ys = some (p, l', r) → p → FunX P I f false [⟨px, t, l, l'⟩] (fun _ => none) none (fun _ => False) (.w (.one (.pt px 0 0)) :: ys) r) : SpecOk P I f (ptSpec t g) := by
  refine ⟨hent, fun A s a w env nm pvs vs F h hI hv hk => ?_⟩
  unfold ptSpec at hk
  split at hk
  · rename_i x ver off rest
    cases hb : Nat.beq off 0 <;> cases hr : argVs rest <;> simp only [hb, hr] at hk <;> try exact hk.elim
    rename_i ys
    obtain rfl := beqT hb
    obtain ⟨gd, vr, ob, hfo, hk⟩ := hk
    have hk2 := guardT_ok hk
    clear hk
    obtain ⟨hgt, hk⟩ := hk2
    obtain ⟨hd, he, hob⟩ := obj_at h hfo hgt
    cases hb2 : Nat.beq ver vr <;> cases ob <;> simp only [hb2] at hk <;> try exact hk.elim
    rename_i t' l
    obtain rfl := beqT hb2
    cases hb3 : Nat.beq t t' <;> cases hc : l.all (coldPC false) <;> cases hq : g l ys <;> simp only [hb3, hc, hq] at hk <;> try exact hk.elim
    rename_i q
    obtain ⟨p, l', r⟩ := q
    obtain rfl := beqT hb3
    obtain ⟨hp, _, hF⟩ := hk
    match vs, hv with
    | v :: vs, ⟨hv1, hv2⟩ =>
      obtain ⟨g0, rfl, rfl⟩ := hv1.pt_inv he
      obtain ⟨g1, cs, e1, hB, hR⟩ := hob
      cases e1
      have hlt : g0 < w.heap.size := hB.lt
      have hSX : ∀ b, SX [⟨px, t, l, l'⟩] (fun _ => g0) Dv.non b → b = g0 := by
        rintro b (h | ⟨o, ho, rfl⟩)
        · exact h.elim
        · rfl
      have hSA : ∀ b, SX [⟨px, t, l, l'⟩] (fun _ => g0) Dv.non b → b < A.w0.heap.size → A.S b := fun b hb hlt0 => by
        rw [hSX b hb] at hlt0 ⊢
        rcases (h.live x ver _ g0 he rfl).2 with h1 | h1
        · omega
        · exact h1
      have hSg : SX [⟨px, t, l, l'⟩] (fun _ => g0) Dv.non g0 := .inr ⟨_, List.mem_cons_self, rfl⟩
      have hnok : ¬ (ctxOf A w env).ok g0 := fun hok => hok.2 x ver _ he rfl
      refine (hg l ys p l' r hq hp w (ctxOf A w env).ok (boxAt g0 :: vs) (fun _ => g0) Dv.non (fun b => b = g0)
        (fun w' hw => hI.mem w' (h.chg.trans' hw (fun _ _ h => h) (fun b hlt0 hb => hSA b hb hlt0)))
        (fun b hb => by rw [hSX b hb]; exact ⟨hlt, hnok⟩) (DvStep.non P) (fun _ _ _ _ _ _ h => h.elim) rfl (fun p hp => by cases hp) (fun _ => ⟨fun _ h => h, fun _ _ _ h => h⟩)
        (fun o ho => by
          obtain rfl : o = ⟨px, t, l, l'⟩ := by simpa using ho
          exact ⟨rfl, cs, hB, coldPL_le hR hc⟩)
        (fun o ho o' ho' _ => by
          obtain rfl : o = ⟨px, t, l, l'⟩ := by simpa using ho
          obtain rfl : o' = ⟨px, t, l, l'⟩ := by simpa using ho'
          rfl)
        ⟨.w (.one (.pt ⟨g0, 0, rfl⟩ ⟨0, boxAt g0, rfl, Nat.le_refl _, fun _ => ⟨g0, rfl, rfl⟩⟩)), argVs_ok cold_to hr hv2⟩).mono ?_
      rintro e w' ⟨hw, ⟨val, rfl, hres, hbx, _⟩ | ⟨chain, l2, rfl, h1, _⟩⟩
      · obtain ⟨cs', hB', hR'⟩ := hbx _ List.mem_cons_self
        obtain ⟨h1, h2⟩ := h.upd (w' := w') x none ver (boxAt g0) (.box t l') (hw.mono fun b _ hb => ⟨ver, _, he, by rw [hSX b hb]; rfl⟩) (fun v hd e => by rw [he] at e; cases e; exact .inr ⟨rfl, rfl⟩)
          (fun b hb => by cases hb; exact ⟨Nat.lt_of_lt_of_le hlt hw.size, .inr ⟨ver, _, he, rfl⟩⟩)
          (fun hle _ => ⟨g0, cs', rfl, hB', (hR'.le (res_leX h hw.size)).le ⟨Nat.le_refl _, fun b _ hb => ⟨⟨hb.1, fun y v2 hd2 hy => by
            by_cases hyx : y = x
            · subst hyx
              have hy' : updE env y ver (boxAt g0) y = some (v2, hd2) := hy
              rw [updE_eq] at hy'
              cases hy'
              exact hb.2 y ver _ he
            · have hy' : updE env x ver (boxAt g0) y = some (v2, hd2) := hy
              rw [updE_ne hyx] at hy'
              exact hb.2 y v2 hd2 hy'⟩, rfl⟩, fun y v2 hd2 hy => by
            by_cases hyx : y = x
            · subst hyx
              have hy' : env y = some (v2, hd2) := hy
              rw [he] at hy'
              cases hy'
              exact ⟨ver, _, updE_eq _ _ _ _, Nat.le_refl _, fun _ => rfl⟩
            · exact ⟨v2, hd2, (updE_ne hyx).trans hy, Nat.le_refl _, fun _ => rfl⟩⟩⟩)
        exact .inl ⟨r, _, val, _, rfl, hF, h1, (hres.le (res_leX h hw.size)).le ⟨Nat.le_refl _, fun b _ hb => ⟨⟨hb.1, fun y v2 hd2 hy => by
            by_cases hyx : y = x
            · subst hyx
              have hy' : updE env y ver (boxAt g0) y = some (v2, hd2) := hy
              rw [updE_eq] at hy'
              cases hy'
              exact hb.2 y ver _ he
            · have hy' : updE env x ver (boxAt g0) y = some (v2, hd2) := hy
              rw [updE_ne hyx] at hy'
              exact hb.2 y v2 hd2 hy'⟩, rfl⟩, fun y v2 hd2 hy => by
            by_cases hyx : y = x
            · subst hyx
              have hy' : env y = some (v2, hd2) := hy
              rw [he] at hy'
              cases hy'
              exact ⟨ver, _, updE_eq _ _ _ _, Nat.le_refl _, fun _ => rfl⟩
            · exact ⟨v2, hd2, (updE_ne hyx).trans hy, Nat.le_refl _, fun _ => rfl⟩⟩⟩
      · exact h1.elim
  · exact hk.elim
def devSpec (hist : (List Acc → Option Res) → List Acc → List PV → List Acc) (res : (List Acc → Option Res) → List Acc → List PV → Option (Prop × PV)) : Spec := fun _ xs => match xs with
  | .w (.one .dv) :: rest => (match argVs rest with
    | some ys => .obj dx fun g vr ob => guardT g (match Nat.beq vr 0, ob with
      | true, .dev O stp l => (match res O l ys with
        | some (p, r) => .need p (.need (∀ h, l <+: h → h <+: hist O l ys → O h = none → stp h) (.upd dx 0 (.dev O stp (hist O l ys)) (.ret r)))
        | none => .fail)
      | _, _ => .fail)
    | none => .fail)
  | _ => .fail
theorem devSpec_ok {f : Nat} {hist : (List Acc → Option Res) → List Acc → List PV → List Acc} {res : (List Acc → Option Res) → List Acc → List PV → Option (Prop × PV)} (hent : ∀ args w, (callFunc f args).run P w = .ok (.enter f args) w)
    (hg : ∀ O l ys p r, res O l ys = some (p, r) → p → FunX P I f false [] O (some (l, hist O l ys)) (fun h => l <+: h ∧ h <+: hist O l ys) (.w (.one .dv) :: ys) r) : SpecOk P I f (devSpec hist res) := by
  refine ⟨hent, fun A s a w env nm pvs vs F h hI hv hk => ?_⟩
  unfold devSpec at hk
  split at hk
  · rename_i rest
    cases hr : argVs rest with
    | none => rw [hr] at hk; exact hk.elim
    | some ys =>
      rw [hr] at hk
      obtain ⟨gd, vr, ob, hfo, hk⟩ := hk
      have hk2 := guardT_ok hk
      clear hk
      obtain ⟨hgt, hk⟩ := hk2
      cases hb2 : Nat.beq vr 0 <;> cases ob <;> simp only [hb2] at hk <;> try exact hk.elim
      rename_i O stp l
      obtain rfl := beqT hb2
      cases hq : res O l ys with
      | none => rw [hq] at hk; exact hk.elim
      | some q =>
        obtain ⟨p, r⟩ := q
        rw [hq] at hk
        obtain ⟨hp, hst, _, hF⟩ := hk
        obtain ⟨hO, hstp, hinv⟩ := h.dev gd 0 O stp l hfo hgt
        subst hO hstp
        have hext := hI.dvh _ _ _ hinv
        obtain ⟨hd, he, _⟩ := h.objs dx gd 0 _ hfo
        obtain rfl := (h.exts dx _ hext).2.now he
        match vs, hv with
        | v :: vs, ⟨hv1, hv2⟩ =>
          have hva : v = A.dv.hd := hv1.dv_inv.now he
          have hSX : ∀ b, SX [] (fun _ => 0) A.dv b → A.dv.S b := by
            rintro b (h | ⟨o, ho, rfl⟩)
            · exact h
            · cases ho
          refine (hg A.dv.O l ys p r hq hp w (ctxOf A w env).ok (v :: vs) (fun _ => 0) A.dv (ownB A env)
            (fun w' hw => hI.mem w' (h.chg.trans' hw (fun _ _ h => h) (fun b _ hb => hI.sub b (hSX b hb))))
            (fun b hb => by
              have h1 := hI.old b (hI.sub b (hSX b hb))
              refine ⟨Nat.lt_of_lt_of_le h1.1 h.chg.size, fun hok => ?_⟩
              rcases hok.1 with h2 | h2
              · exact h1.2 h2
              · omega)
            hI.step hI.panW rfl (fun p hp => by cases hp; exact hinv) (fun h => by cases h) (fun o ho => by cases ho) (fun o ho => by cases ho)
            ⟨.w (.one (.dv (by rw [hva]; exact A.dv.one) ⟨0, A.dv.hd, rfl, Nat.le_refl _, fun _ => hva⟩)), argVs_ok cold_to hr hv2⟩).mono ?_
          rintro e w' ⟨hw, ⟨val, rfl, hres, _, hdv⟩ | ⟨chain, l2, rfl, h1, h2, h3⟩⟩
          · obtain ⟨h4, h5⟩ := h.asked (w' := w') hfo hgt hI.sub (fun b hb => hI.old b (hI.sub b hb)) (hw.mono fun b _ hb => hSX b hb) (hdv _ rfl)
            exact .inl ⟨r, _, val, env, rfl, hF, h4, hres.le (res_leX h hw.size)⟩
          · exact .inr ⟨chain, rfl, l2, hst l2 h1.1 h1.2 h2, h2, hI.panW _ _ _ _ _ _ h3 (Chg.refl _ _) (fun b hb => .inl hb), h.chg.trans (hw.mono fun b _ hb => hI.sub b (hSX b hb))⟩
  · exact hk.elim
end
end Go.Proofs.YtoefmncdloffaaaDoor.Pv


namespace Go.Proofs.YtoefmncdloffaaaDoor
open Go.RowKit
def term : Nat → List UInt8 → Option Nat
  | 0, _ => none
  | _ + 1, [] => none
  | n + 1, b :: l => if b.toNat < 128 then some 0 else (term n l).map (· + 1)
def uval : List UInt8 → Nat
  | [] => 0
  | b :: l => b.toNat % 128 + 128 * uval l
def unzig (u : Nat) : Int := if u % 2 = 0 then ((u / 2 : Nat) : Int) else -((u / 2 : Nat) : Int) - 1
def getS (b : List UInt8) : Int × Nat × Int := match term 10 b with
  | none => (0, 0, if b.length < 10 then 6 else 7)
  | some k => if uval (b.take (k + 1)) < 18446744073709551616 ∧ (k = 0 ∨ b.getD k 0 ≠ 0) then (unzig (uval (b.take (k + 1))), k + 1, 0) else (0, 0, 7)
def IsVar : List UInt8 → Prop
  | [] => False
  | [b] => b.toNat < 128
  | b :: l => 128 ≤ b.toNat ∧ IsVar l
def NzLast : List UInt8 → Prop
  | [] => False
  | [b] => b ≠ 0
  | _ :: b :: l => NzLast (b :: l)
theorem zig_unzig {u : Nat} : zig (unzig u) = u := by
  unfold zig unzig
  split <;> split <;> omega
theorem unzig_zig (n : Int) : unzig (zig n) = n := by
  unfold zig unzig
  split <;> split <;> omega
theorem unzig_range {u : Nat} (h : u < 18446744073709551616) : -9223372036854775808 ≤ unzig u ∧ unzig u < 9223372036854775808 := by
  unfold unzig
  split <;> omega
theorem ofNat_small {u : Nat} (h : u < 256) : (UInt8.ofNat u).toNat = u := by simp; omega
theorem varint_isVar : ∀ (f u : Nat), u < 128 ^ (f + 1) → IsVar (varint f u) := by
  intro f
  induction f with
  | zero => intro u h; simp only [varint, IsVar]; rw [ofNat_small (by omega)]; omega
  | succ f ih =>
    intro u h
    by_cases hu : u < 128
    · rw [varint_small hu]; simp only [IsVar]; rw [ofNat_small (by omega)]; exact hu
    · rw [varint_big hu]
      have h1 := ih (u / 128) (by rw [Nat.div_lt_iff_lt_mul (by omega)]; rw [Nat.pow_succ] at h; exact h)
      cases hv : varint f (u / 128) with
      | nil => rw [hv] at h1; exact h1.elim
      | cons b l =>
        rw [hv] at h1
        refine ⟨?_, h1⟩
        rw [ofNat_small (by omega)]; omega
theorem uval_varint : ∀ (f u : Nat), u < 128 ^ (f + 1) → uval (varint f u) = u := by
  intro f
  induction f with
  | zero => intro u h; simp only [varint, uval]; rw [ofNat_small (by omega)]; omega
  | succ f ih =>
    intro u h
    by_cases hu : u < 128
    · rw [varint_small hu]; simp only [uval]; rw [ofNat_small (by omega)]; omega
    · rw [varint_big hu]
      have h1 := ih (u / 128) (by rw [Nat.div_lt_iff_lt_mul (by omega)]; rw [Nat.pow_succ] at h; exact h)
      simp only [uval]
      rw [h1, ofNat_small (by omega)]
      omega
theorem nz_varint : ∀ (f u : Nat), u < 128 ^ (f + 1) → u ≠ 0 → NzLast (varint f u) := by
  intro f
  induction f with
  | zero =>
    intro u h h0
    simp only [varint, NzLast]
    intro e
    have := congrArg UInt8.toNat e
    rw [ofNat_small (by omega)] at this
    exact h0 this
  | succ f ih =>
    intro u h h0
    by_cases hu : u < 128
    · rw [varint_small hu]
      simp only [NzLast]
      intro e
      have := congrArg UInt8.toNat e
      rw [ofNat_small (by omega)] at this
      exact h0 this
    · rw [varint_big hu]
      have hlt : u / 128 < 128 ^ (f + 1) := by rw [Nat.div_lt_iff_lt_mul (by omega)]; rw [Nat.pow_succ] at h; exact h
      have h1 := ih (u / 128) hlt (by omega)
      cases hv : varint f (u / 128) with
      | nil => rw [hv] at h1; exact h1.elim
      | cons b l => rw [hv] at h1; exact h1
theorem uval_pos : ∀ (l : List UInt8), IsVar l → NzLast l → uval l ≠ 0
  | [], h, _ => h.elim
  | [b], h, k => by
    simp only [uval]
    have h' : b.toNat < 128 := h
    intro e
    have h0 : b.toNat = 0 := by omega
    exact k (UInt8.toNat_inj.1 (by rw [h0]; rfl))
  | b :: c :: l, h, k => by
    have := uval_pos (c :: l) h.2 k
    rw [uval]
    omega
theorem varint_uval : ∀ (f : Nat) (l : List UInt8), IsVar l → (l.length = 1 ∨ NzLast l) → l.length ≤ f + 1 → varint f (uval l) = l
  | _, [], h, _, _ => h.elim
  | f, [b], h, _, _ => by
    have h' : b.toNat < 128 := h
    have e : uval [b] = b.toNat := by simp only [uval]; omega
    rw [e, varint_small h']
    simp
  | 0, b :: c :: l, _, _, hl => by simp at hl
  | f + 1, b :: c :: l, h, k, hl => by
    have k' : NzLast (c :: l) := by
      rcases k with k | k
      · simp at k
      · exact k
    have hp := uval_pos (c :: l) h.2 k'
    have ih := varint_uval f (c :: l) h.2 (.inr k') (by simpa using hl)
    have hb : 128 ≤ b.toNat := h.1
    have hb2 := b.toNat_lt
    have e : uval (b :: c :: l) = b.toNat % 128 + 128 * uval (c :: l) := rfl
    rw [e, varint_big (by omega)]
    have e1 : (b.toNat % 128 + 128 * uval (c :: l)) % 128 = b.toNat % 128 := by omega
    have e2 : (b.toNat % 128 + 128 * uval (c :: l)) / 128 = uval (c :: l) := by omega
    rw [e1, e2, ih]
    congr 1
    rw [show 128 + b.toNat % 128 = b.toNat from by omega]
    simp
theorem term_isVar : ∀ (n : Nat) (b : List UInt8) (k : Nat), term n b = some k → IsVar (b.take (k + 1)) ∧ k < n ∧ k < b.length
  | 0, _, _, h => by cases h
  | _ + 1, [], _, h => by cases h
  | n + 1, b :: l, k, h => by
    rw [term] at h
    by_cases hb : b.toNat < 128
    · rw [if_pos hb] at h
      cases h
      exact ⟨by simpa [IsVar] using hb, by omega, by simp⟩
    · rw [if_neg hb] at h
      cases hk : term n l with
      | none => rw [hk] at h; cases h
      | some j =>
        rw [hk] at h
        cases h
        obtain ⟨h1, h2, h3⟩ := term_isVar n l j hk
        refine ⟨?_, (by show j + 1 < n + 1; omega), (by show j + 1 < (b :: l).length; simp; omega)⟩
        rw [List.take_succ_cons]
        cases hq : l.take (j + 1) with
        | nil => rw [hq] at h1; exact h1.elim
        | cons c r => rw [hq] at h1; exact ⟨by omega, h1⟩
theorem term_of_isVar : ∀ (l r : List UInt8) (n : Nat), IsVar l → l.length ≤ n → term n (l ++ r) = some (l.length - 1)
  | [], _, _, h, _ => h.elim
  | [b], r, n, h, hl => by
    cases n with
    | zero => simp at hl
    | succ n =>
      have h' : b.toNat < 128 := h
      simp [term, h']
  | b :: c :: l, r, n, h, hl => by
    cases n with
    | zero => simp at hl
    | succ n =>
      have hb : 128 ≤ b.toNat := h.1
      have ih := term_of_isVar (c :: l) r n h.2 (by simpa using hl)
      rw [List.cons_append, term, if_neg (by omega), ih]
      simp
theorem nzLast_getD : ∀ (l : List UInt8) (k : Nat), l.length = k + 1 → (NzLast l ↔ l.getD k 0 ≠ 0)
  | [], k, h => by simp at h
  | [b], k, h => by
    obtain rfl : k = 0 := by simpa using h.symm
    simp [NzLast]
  | b :: c :: l, 0, h => by simp at h
  | b :: c :: l, k + 1, h => by
    have := nzLast_getD (c :: l) k (by simpa using h)
    rw [List.getD_cons_succ]
    exact this
theorem getD_take {l : List UInt8} {k n : Nat} (h : k < n) : (l.take n).getD k 0 = l.getD k 0 := by
  rw [List.getD_eq_getElem?_getD, List.getD_eq_getElem?_getD, List.getElem?_take, if_pos h]
theorem var_iff {l : List UInt8} {k : Nat} (h : IsVar l) (hk : l.length = k + 1) (h10 : k < 10) : wInt (unzig (uval l % 18446744073709551616)) = l ↔ (uval l < 18446744073709551616 ∧ (k = 0 ∨ l.getD k 0 ≠ 0)) := by
  have h64 : uval l % 18446744073709551616 < 128 ^ (9 + 1) := by
    have : uval l % 18446744073709551616 < 18446744073709551616 := Nat.mod_lt _ (by omega)
    omega
  unfold wInt
  rw [zig_unzig]
  constructor
  · intro e
    have h1 := uval_varint 9 _ h64
    rw [e] at h1
    refine ⟨by omega, ?_⟩
    rcases Nat.eq_zero_or_pos k with hk0 | hk0
    · exact .inl hk0
    · refine .inr ((nzLast_getD l k hk).1 ?_)
      rw [← e]
      refine nz_varint 9 _ h64 (fun e0 => ?_)
      rw [e0] at e
      rw [← e] at hk
      simp [varint] at hk
      omega
  · rintro ⟨h1, h2⟩
    rw [Nat.mod_eq_of_lt h1]
    refine varint_uval 9 l h ?_ (by omega)
    rcases h2 with h2 | h2
    · exact .inl (by omega)
    · exact .inr ((nzLast_getD l k hk).2 h2)
theorem getS_term {b : List UInt8} {k : Nat} (h : term 10 b = some k) : getS b = if uval (b.take (k + 1)) < 18446744073709551616 ∧ (k = 0 ∨ b.getD k 0 ≠ 0) then (unzig (uval (b.take (k + 1))), k + 1, 0) else (0, 0, 7) := by
  unfold getS; rw [h]
theorem wInt_isVar {n : Int} (h1 : -9223372036854775808 ≤ n) (h2 : n < 9223372036854775808) : IsVar (wInt n) := varint_isVar 9 _ (by have := zig_lt h1 h2; omega)
theorem wInt_pos (n : Int) (h1 : -9223372036854775808 ≤ n) (h2 : n < 9223372036854775808) : 0 < (wInt n).length := by
  have := wInt_isVar h1 h2
  cases h : wInt n with
  | nil => rw [h] at this; exact this.elim
  | cons b l => simp
theorem getS_wInt {n : Int} (r : List UInt8) (h1 : -9223372036854775808 ≤ n) (h2 : n < 9223372036854775808) : getS (wInt n ++ r) = (n, (wInt n).length, 0) := by
  have hv := wInt_isVar h1 h2
  have hl := wInt_length n
  have hp := wInt_pos n h1 h2
  have ht := term_of_isVar (wInt n) r 10 hv hl
  rw [getS_term ht]
  have e : (wInt n ++ r).take ((wInt n).length - 1 + 1) = wInt n := by
    rw [show (wInt n).length - 1 + 1 = (wInt n).length from by omega, List.take_left]
  have hz := zig_lt h1 h2
  have hu : uval (wInt n) = zig n := uval_varint 9 _ (by omega)
  have hiff := (var_iff hv (k := (wInt n).length - 1) (by omega) (by omega)).1 (by
    rw [hu, Nat.mod_eq_of_lt hz, unzig_zig])
  have eg : (wInt n ++ r).getD ((wInt n).length - 1) 0 = (wInt n).getD ((wInt n).length - 1) 0 := by
    rw [List.getD_eq_getElem?_getD, List.getD_eq_getElem?_getD, List.getElem?_append_left (by omega)]
  rw [e, eg, if_pos hiff, hu, unzig_zig]
  congr 2
  omega
theorem getS_ok {b : List UInt8} {n : Int} {k : Nat} (h : getS b = (n, k, 0)) : b.take k = wInt n ∧ 0 < k ∧ k ≤ 10 ∧ k ≤ b.length ∧ -9223372036854775808 ≤ n ∧ n < 9223372036854775808 := by
  unfold getS at h
  split at h
  · split at h <;> simp at h
  · rename_i j ht
    split at h
    · rename_i hc
      simp only [Prod.mk.injEq, and_true] at h
      obtain ⟨rfl, rfl⟩ := h
      obtain ⟨h1, h2, h3⟩ := term_isVar _ _ _ ht
      have hl : (b.take (j + 1)).length = j + 1 := by rw [List.length_take]; omega
      have hc2 := hc
      rw [← getD_take (l := b) (show j < j + 1 by omega)] at hc2
      have := (var_iff h1 hl (by omega)).2 hc2
      rw [Nat.mod_eq_of_lt hc.1] at this
      have hr := unzig_range hc.1
      exact ⟨this.symm, by omega, by omega, by omega, hr.1, hr.2⟩
    · simp at h
theorem getS_code (b : List UInt8) : (getS b).2.2 = 0 ∨ ((getS b).1 = 0 ∧ (getS b).2.1 = 0 ∧ ((getS b).2.2 = 6 ∨ (getS b).2.2 = 7)) := by
  unfold getS
  split
  · split <;> simp
  · split <;> simp
theorem getS_le (b : List UInt8) : (getS b).2.1 ≤ b.length ∧ (getS b).2.1 ≤ 10 := by
  unfold getS
  split
  · split <;> simp
  · rename_i j ht
    obtain ⟨_, h2, h3⟩ := term_isVar _ _ _ ht
    split <;> simp <;> omega
theorem getS_range (b : List UInt8) : -9223372036854775808 ≤ (getS b).1 ∧ (getS b).1 < 9223372036854775808 := by
  unfold getS
  split
  · split <;> simp
  · split
    · rename_i h; exact unzig_range h.1
    · simp
def getBS (b : List UInt8) : List UInt8 × Nat × Int :=
  if (getS b).2.2 ≠ 0 then ([], 0, (getS b).2.2) else if (getS b).1 < 0 then ([], 0, 7) else if (getS b).1 > (b.length : Int) - (getS b).2.1 then ([], 0, 6)
  else ((b.drop (getS b).2.1).take (getS b).1.toNat, (getS b).2.1 + (getS b).1.toNat, 0)
theorem getBS_wBytes (l r : List UInt8) (h : l.length < 4611686018427387904) : getBS (wBytes l ++ r) = (l, (wBytes l).length, 0) := by
  unfold getBS wBytes
  rw [List.append_assoc, getS_wInt (n := (l.length : Int)) (l ++ r) (by omega) (by omega)]
  have h1 : ¬ ((l.length : Int) > ((wInt (l.length : Int) ++ (l ++ r)).length : Int) - ((wInt (l.length : Int)).length : Nat)) := by
    simp only [List.length_append]; omega
  dsimp only
  rw [if_neg (by simp), if_neg (by omega), if_neg h1, List.drop_left]
  simp
theorem getBS_ok {b c : List UInt8} {k : Nat} (h : getBS b = (c, k, 0)) : b.take k = wBytes c ∧ k ≤ b.length := by
  unfold getBS at h
  split at h
  · rename_i h0; simp only [Prod.mk.injEq] at h; exact absurd h.2.2 h0
  · rename_i h0
    split at h
    · simp at h
    · split at h
      · simp at h
      · rename_i h1 h2
        simp only [Prod.mk.injEq, and_true] at h
        obtain ⟨rfl, rfl⟩ := h
        have he : getS b = ((getS b).1, (getS b).2.1, 0) := by
          have : (getS b).2.2 = 0 := by simpa using h0
          rw [← this]
        obtain ⟨h3, h4, h5, h6, _⟩ := getS_ok he
        have hn : (getS b).1.toNat ≤ b.length - (getS b).2.1 := by omega
        refine ⟨?_, by omega⟩
        unfold wBytes
        have hlen : (((b.drop (getS b).2.1).take (getS b).1.toNat).length : Int) = (getS b).1 := by
          rw [List.length_take, List.length_drop]; omega
        rw [hlen, ← h3, List.take_add]
theorem getBS_code (b : List UInt8) : (getBS b).2.2 = 0 ∨ ((getBS b).1 = [] ∧ (getBS b).2.1 = 0 ∧ ((getBS b).2.2 = 6 ∨ (getBS b).2.2 = 7)) := by
  unfold getBS
  split
  · rename_i h
    rcases getS_code b with h1 | ⟨_, _, h1⟩
    · exact absurd h1 h
    · exact .inr ⟨rfl, rfl, h1⟩
  · split
    · simp
    · split <;> simp
theorem getBS_size (b : List UInt8) : (getBS b).1.length ≤ b.length := by
  unfold getBS
  split
  · simp
  · split
    · simp
    · split
      · simp
      · simp only [List.length_take, List.length_drop]; omega
end Go.Proofs.YtoefmncdloffaaaDoor


namespace Go.Proofs.YtoefmncdloffaaaDoor
open Go.RowKit
theorem uval_append (l m : List UInt8) : uval (l ++ m) = uval l + 128 ^ l.length * uval m := by
  induction l with
  | nil => simp [uval]
  | cons b l ih => simp only [List.cons_append, uval, ih, List.length_cons, Nat.pow_succ]; rw [Nat.mul_add, ← Nat.mul_assoc, Nat.mul_comm 128 (128 ^ l.length)]; omega
theorem uval_lt (l : List UInt8) : uval l < 128 ^ l.length := by
  induction l with
  | nil => simp [uval]
  | cons b l ih => simp only [uval, List.length_cons, Nat.pow_succ]; omega
theorem uval_take {L : List UInt8} {k : Nat} (h : k < L.length) : uval (L.take (k + 1)) = uval (L.take k) + 128 ^ k * ((L.getD k 0).toNat % 128) := by
  rw [List.take_add_one, List.getElem?_eq_getElem h, Option.toList_some, uval_append, List.length_take, Nat.min_eq_left (by omega), List.getD_eq_getElem?_getD, List.getElem?_eq_getElem h]
  simp [uval]
theorem u64_wrapN (n : Nat) : IntKind.u64.wrap (n : Int) = ((n % 18446744073709551616 : Nat) : Int) := by
  rw [IntKind.wrap_u64]
  omega
theorem ofInt64d (n : Nat) : (BitVec.ofInt 64 (n : Int)).toNat = n % 18446744073709551616 := by
  simp
theorem or_shift {u a i : Nat} (h : u < 2 ^ i) : u ||| a * 2 ^ i = u + a * 2 ^ i := by
  rw [Nat.or_comm, Nat.add_comm, ← Nat.shiftLeft_eq, Nat.shiftLeft_add_eq_or_of_lt h]
theorem and127 (c : UInt8) : IntKind.u8.wrap ↑(BitVec.ofInt IntKind.u8.bits (c.toNat : Int) &&& BitVec.ofInt IntKind.u8.bits 127).toNat = ((c.toNat % 128 : Nat) : Int) := by
  have hc := c.toNat_lt
  have := u8_and (c.toNat : Int) 127 (by omega) (by omega) (by omega) (by omega)
  refine (show _ = bits .and .u8 (c.toNat : Int) 127 from rfl).trans (this.trans ?_)
  rw [Int.toNat_natCast, show (127 : Int).toNat = 2 ^ 7 - 1 from rfl, Nat.and_two_pow_sub_one_eq_mod]
theorem step_or {k u : Nat} (c : UInt8) (hk : k ≤ 9) (hu : u < 128 ^ k) :
    IntKind.u64.wrap ↑(BitVec.ofInt IntKind.u64.bits (u : Int) ||| BitVec.ofInt IntKind.u64.bits (IntKind.u64.wrap (IntKind.u64.wrap (IntKind.u8.wrap ↑(BitVec.ofInt IntKind.u8.bits (c.toNat : Int) &&& BitVec.ofInt IntKind.u8.bits 127).toNat) * 2 ^ min (IntKind.i64.wrap (7 * (k : Int))).toNat IntKind.u64.bits))).toNat =
      (((u + 128 ^ k * (c.toNat % 128)) % 18446744073709551616 : Nat) : Int) := by
  have e7 : (IntKind.i64.wrap (7 * (k : Int))).toNat = 7 * k := by clear hu; rw [IntKind.wrap_i64, Int.emod_eq_of_lt (by omega) (by omega)]; omega
  have e64 : IntKind.u64.bits = 64 := rfl
  rw [and127, e7, e64, u64_wrapN (c.toNat % 128), Nat.mod_eq_of_lt (show c.toNat % 128 < 18446744073709551616 by omega), Nat.min_eq_left (show 7 * k ≤ 64 by omega)]
  have ep : ((c.toNat % 128 : Nat) : Int) * 2 ^ (7 * k) = ((c.toNat % 128 * 2 ^ (7 * k) : Nat) : Int) := by simp
  rw [ep, u64_wrapN, u64_wrapN, BitVec.toNat_or, ofInt64d, ofInt64d]
  have hx : c.toNat % 128 < 128 := by omega
  generalize c.toNat % 128 = x at *
  have hk2 : k = 0 ∨ k = 1 ∨ k = 2 ∨ k = 3 ∨ k = 4 ∨ k = 5 ∨ k = 6 ∨ k = 7 ∨ k = 8 ∨ k = 9 := by omega
  congr 1
  have key : ∀ i a, u < 2 ^ i → a * 2 ^ i < 18446744073709551616 - u → x * 2 ^ (7 * k) % 18446744073709551616 = a * 2 ^ i → (u + 128 ^ k * x) % 18446744073709551616 = u + a * 2 ^ i →
      (u % 18446744073709551616 ||| x * 2 ^ (7 * k) % 18446744073709551616 % 18446744073709551616) % 18446744073709551616 = (u + 128 ^ k * x) % 18446744073709551616 := by
    intro i a h1 h2 h3 h4
    rw [h4, Nat.mod_mod, h3, Nat.mod_eq_of_lt (show u < 18446744073709551616 by omega), or_shift h1, Nat.mod_eq_of_lt (by omega)]
  rcases hk2 with rfl | rfl | rfl | rfl | rfl | rfl | rfl | rfl | rfl | rfl
  · exact key 0 x (by omega) (by omega) (by omega) (by omega)
  · exact key 7 x (by omega) (by omega) (by omega) (by omega)
  · exact key 14 x (by omega) (by omega) (by omega) (by omega)
  · exact key 21 x (by omega) (by omega) (by omega) (by omega)
  · exact key 28 x (by omega) (by omega) (by omega) (by omega)
  · exact key 35 x (by omega) (by omega) (by omega) (by omega)
  · exact key 42 x (by omega) (by omega) (by omega) (by omega)
  · exact key 49 x (by omega) (by omega) (by omega) (by omega)
  · exact key 56 x (by omega) (by omega) (by omega) (by omega)
  · exact key 63 (x % 2) (by omega) (by omega) (by omega) (by omega)
theorem shr64_1 {u : Nat} (hu : u < 18446744073709551616) : IntKind.i64.wrap ((u : Int).fdiv (2 ^ min (1 : Int).toNat IntKind.u64.bits)) = ((u / 2 : Nat) : Int) := by
  rw [show (2 : Int) ^ min (1 : Int).toNat IntKind.u64.bits = 2 from rfl, IntKind.wrap_i64]
  have : (u : Int).fdiv 2 = ((u / 2 : Nat) : Int) := by rw [Int.fdiv_eq_ediv_of_nonneg _ (by omega)]; omega
  rw [this]
  omega
theorem and64_1 (u : Nat) (hu : u < 18446744073709551616) : IntKind.u64.wrap ↑(BitVec.ofInt IntKind.u64.bits (u : Int) &&& BitVec.ofInt IntKind.u64.bits 1).toNat = ((u % 2 : Nat) : Int) := by
  have e64 : IntKind.u64.bits = 64 := rfl
  rw [e64, BitVec.toNat_and, ofInt64d, show (1 : Int) = ((1 : Nat) : Int) from rfl, ofInt64d, u64_wrapN, Nat.mod_eq_of_lt hu, show 1 % 18446744073709551616 = 2 ^ 1 - 1 from rfl, Nat.and_two_pow_sub_one_eq_mod]
  congr 1
  omega
theorem xor64 {n : Nat} (hn : n < 9223372036854775808) : IntKind.i64.wrap ↑(BitVec.ofInt IntKind.i64.bits (if IntKind.i64.signed = true then -1 else IntKind.i64.max) ^^^ BitVec.ofInt IntKind.i64.bits (n : Int)).toNat = -(n : Int) - 1 := by
  have e64 : IntKind.i64.bits = 64 := rfl
  have es : (if IntKind.i64.signed = true then -1 else IntKind.i64.max : Int) = -1 := rfl
  rw [es, e64, show BitVec.ofInt 64 (-1) = BitVec.allOnes 64 from by decide, BitVec.allOnes_xor, BitVec.toNat_not, ofInt64d, IntKind.wrap_i64]
  omega
end Go.Proofs.YtoefmncdloffaaaDoor


namespace Go.Proofs.YtoefmncdloffaaaDoor.Pv
open Go.RowKit
abbrev rowV (l : List UInt8) : PV := pv1 (.sl 1 l.length (byF l))
def intPV (r : Int × Nat × Int) : PV := .tup [.one (.lit (.int .i64 r.1)), .one (.lit (.int .i64 (r.2.1 : Int))), .one (.lit (.int .i64 r.2.2))]
def giSt (L : List UInt8) (k : Nat) : St := ⟨[(0, none, rowV L), (5, none, lit1 (.int .u64 ((uval (L.take k) % 18446744073709551616 : Nat) : Int))), (13, none, pv1 (.sl 1 (min L.length 10) (byF L))), (14, none, pvI ((min L.length 10 : Nat) : Int)), (15, none, pvI k)], []⟩
def giSt2 (L : List UInt8) (k : Nat) : St := ⟨[(0, none, rowV L), (5, none, lit1 (.int .u64 ((uval (L.take (k + 1)) % 18446744073709551616 : Nat) : Int))), (6, none, pvI k), (7, none, lit1 (u8w (L.getD k 0))), (13, none, pv1 (.sl 1 (min L.length 10) (byF L))), (14, none, pvI ((min L.length 10 : Nat) : Int)), (15, none, pvI k)], []⟩
theorem wrap_i64_id {n : Int} (h1 : -9223372036854775808 ≤ n) (h2 : n < 9223372036854775808) : IntKind.i64.wrap n = n := by
  rw [IntKind.wrap_i64, Int.emod_eq_of_lt (by omega) (by omega)]; omega
theorem term_none_of : ∀ (n : Nat) (L : List UInt8), (∀ i, i < min L.length n → 128 ≤ (L.getD i 0).toNat) → term n L = none
  | 0, _, _ => rfl
  | _ + 1, [], _ => rfl
  | n + 1, b :: l, h => by
    have h0 := h 0 (by simp)
    rw [List.getD_cons_zero] at h0
    rw [term, if_neg (by omega), term_none_of n l (fun i hi => by
      have := h (i + 1) (by simp; omega)
      rwa [List.getD_cons_succ] at this)]
    rfl
theorem term_some_of : ∀ (n : Nat) (L : List UInt8) (k : Nat), (∀ i, i < k → 128 ≤ (L.getD i 0).toNat) → k < L.length → k < n → (L.getD k 0).toNat < 128 → term n L = some k
  | 0, _, _, _, _, h, _ => by omega
  | _ + 1, [], _, _, h, _, _ => by simp at h
  | n + 1, b :: l, 0, _, _, _, h => by rw [List.getD_cons_zero] at h; rw [term, if_pos h]
  | n + 1, b :: l, k + 1, h, h1, h2, h3 => by
    have h0 := h 0 (by omega)
    rw [List.getD_cons_zero] at h0
    rw [List.getD_cons_succ] at h3
    rw [term, if_neg (by omega), term_some_of n l k (fun i hi => by
      have := h (i + 1) (by omega)
      rwa [List.getD_cons_succ] at this) (by simpa using h1) (by omega) h3]
    rfl
set_option maxRecDepth 100000 in
set_option maxHeartbeats 1000000 in
theorem getInt_fun (L : List UInt8) (hL : L.length < 4611686018427387904) : FunOk Tryd.prog ShaMem 68 true [rowV L] (intPV (getS L)) := by
  have M := lowM
  refine funOk_of Tryd.func68 rfl rfl sha_ext (fun A hS hn hI => ?_)
  refine tri_reg M hI hn (outs := ?_) (s' := ?_) ?_ ?_ ?_ ?_
  rotate_left 2
  · rfl
  · kernel_rfl
  · simp
  refine tri_reg M hI hn (outs := ?_) (s' := ?_) ?_ ?_ ?_ ?_
  rotate_left 2
  · rfl
  · kernel_rfl
  · simp
  refine tri_seq ?_
  refine tri_reg M hI hn (outs := ?_) (s' := ?_) ?_ ?_ ?_ ?_
  rotate_left 2
  · rfl
  · kernel_rfl
  · simp
    omega
  refine tri_block ?_
  refine tri_conv (s' := giSt L 0) (fun a w hg => (hg.reset (kT := [0, 5, 13, 14, 15]) (kO := []) (by rfl) (by simp)).same ?_ ?_) ?_
  · refine .cons rfl (.cons rfl (.cons ?_ (.cons ?_ (.cons rfl .nil))))
    · have e : (min (L.length : Int) 10 - 0).toNat = min L.length 10 := by omega
      exact congrArg pv1 (by rw [e]; congr 1; funext i; simp)
    · exact congrArg pvI (by omega)
  · exact .nil
  refine tri_loop (min L.length 10) (fun k s => s = giSt L k ∧ ∀ i, i < k → 128 ≤ (L.getD i 0).toNat) 0 ⟨rfl, fun i hi => by omega⟩ (by omega) (fun k s hJ hk => ?_)
  obtain ⟨rfl, hbig⟩ := hJ
  refine tri_reg M hI hn (outs := ?_) (s' := ?_) ?_ ?_ ?_ ?_
  rotate_left 2
  · rfl
  · kernel_rfl
  · simp
  refine tri_seq ?_
  refine tri_cond (b := ?_) ?_ (fun hc => ?_) (fun hc => ?_)
  rotate_left 1
  · rfl
  · have hk2 : k < L.length ∧ k < 10 := by
      have : (k : Int) < ((min L.length 10 : Nat) : Int) := by simpa using hc
      omega
    refine tri_skip ?_
    change Tri _ _ _ _ _
    refine tri_seq ?_
    refine tri_block ?_
    refine tri_reg M hI hn (outs := ?_) (s' := ?_) ?_ ?_ ?_ ?_
    rotate_left 2
    · rfl
    · kernel_rfl
    · simp
      omega
    refine tri_reg M hI hn (outs := ?_) (s' := ?_) ?_ ?_ ?_ ?_
    rotate_left 2
    · rfl
    · kernel_rfl
    · simp
      rw [wrap_i64_id (by omega) (by omega)]
      omega
    refine tri_conv (s' := giSt2 L k) (fun a w hg => (hg.reset (kT := [0, 5, 6, 7, 13, 14, 15]) (kO := []) (by rfl) (by simp)).same ?_ ?_) ?_
    · refine .cons rfl (.cons ?_ (.cons rfl (.cons rfl (.cons rfl (.cons rfl (.cons rfl .nil))))))
      refine congrArg (fun n => lit1 (.int .u64 n)) ?_
      have hu := uval_lt (L.take k)
      rw [List.length_take, Nat.min_eq_left (by omega)] at hu
      have h9 : (128 : Nat) ^ k ≤ 128 ^ 9 := Nat.pow_le_pow_right (by omega) (by omega)
      rw [Nat.mod_eq_of_lt (show uval (L.take k) < 18446744073709551616 by omega), Int.toNat_natCast]
      refine (step_or _ (by omega) hu).trans ?_
      rw [uval_take hk2.1]
    · exact .nil
    refine tri_seq ?_
    refine tri_reg M hI hn (outs := ?_) (s' := ?_) ?_ ?_ ?_ ?_
    rotate_left 2
    · rfl
    · kernel_rfl
    · simp
    refine tri_cond (b := ?_) ?_ (fun hc => ?_) (fun hc => ?_)
    rotate_left 1
    · rfl
    · refine tri_exit ?_
      change Tri _ _ _ _ _
      refine tri_region M hI hn (outs := ?_) (s' := ?_) ?_ ?_ ?_ ?_
      rotate_left 2
      · rfl
      · kernel_rfl
      · simp
      intro a w hg
      refine ⟨k + 1, _, by omega, by omega, ⟨rfl, ?_⟩, (hg.reset (kT := [0, 5, 13, 14, 15]) (kO := []) (by rfl) (by simp)).same ?_ ?_⟩
      · intro i hi
        rcases Nat.lt_or_eq_of_le (Nat.le_of_lt_succ hi) with h | rfl
        · exact hbig i h
        · have : ((L.getD i 0).toNat : Int) ≥ 128 := by simpa using hc
          omega
      · exact .cons rfl (.cons rfl (.cons rfl (.cons rfl (.cons (by rw [wrap_nat k (by omega)]) .nil))))
      · exact .nil
    · have hlt : (L.getD k 0).toNat < 128 := by
        have : ¬ ((L.getD k 0).toNat : Int) ≥ 128 := by simpa using hc
        omega
      have ht := term_some_of 10 L k hbig hk2.1 hk2.2 hlt
      have hgs := getS_term ht
      have hlast : uval (L.take (k + 1)) < 18446744073709551616 ↔ (k = 9 → (L.getD k 0).toNat ≤ 1) := by
        have hu := uval_lt (L.take k)
        rw [List.length_take, Nat.min_eq_left (by omega)] at hu
        rw [uval_take hk2.1, Nat.mod_eq_of_lt hlt]
        rcases Nat.lt_or_ge k 9 with h9 | h9
        · have h8 : (128 : Nat) ^ k ≤ 128 ^ 8 := Nat.pow_le_pow_right (by omega) (by omega)
          have : 128 ^ k * (L.getD k 0).toNat ≤ 128 ^ 8 * 127 := Nat.mul_le_mul h8 (by omega)
          constructor <;> intro <;> omega
        · obtain rfl : k = 9 := by omega
          constructor <;> intro <;> omega
      have hz : (L.getD k 0 = 0) ↔ (L.getD k 0).toNat = 0 := by rw [← UInt8.toNat_inj]; rfl
      refine tri_skip ?_
      change Tri _ _ _ _ _
      refine tri_seq ?_
      refine tri_reg M hI hn (outs := ?_) (s' := ?_) ?_ ?_ ?_ ?_
      rotate_left 2
      · rfl
      · kernel_rfl
      · simp
        generalize (L[k]?.getD 0).toNat = c
        omega
      refine tri_cond (b := ?_) ?_ (fun hc => ?_) (fun hc => ?_)
      rotate_left 1
      · rfl
      · have hneg : ¬ (uval (L.take (k + 1)) < 18446744073709551616 ∧ (k = 0 ∨ L.getD k 0 ≠ 0)) := by
          rw [hlast, ne_eq, hz]
          simp only [Bool.cond_eq_ite, Bool.if_true_left, Bool.and_eq_true, Bool.or_eq_true, decide_eq_true_eq, beq_iff_eq, Bool.if_false_right] at hc
          omega
        refine tri_reg M hI hn (outs := ?_) (s' := ?_) ?_ ?_ ?_ ?_
        rotate_left 2
        · rfl
        · kernel_rfl
        · simp
        refine tri_ret (fun a w hg => ⟨.inr rfl, _, ?_, hg⟩)
        refine retTo_cold (out := ?_) ?_ ?_ ?_ ?_ ?_
        rotate_left 1
        · rfl
        · simp
        · rfl
        · rfl
        rw [hgs, if_neg hneg]
        rfl
      · have hpos : uval (L.take (k + 1)) < 18446744073709551616 ∧ (k = 0 ∨ L.getD k 0 ≠ 0) := by
          rw [hlast, ne_eq, hz]
          simp only [Bool.cond_eq_ite, Bool.if_true_left, Bool.and_eq_false_iff, Bool.or_eq_false_iff, decide_eq_false_iff_not, Bool.if_false_right] at hc
          simp only [Bool.and_eq_true, decide_eq_true_eq, beq_iff_eq] at hc
          omega
        have hm := Nat.mod_eq_of_lt hpos.1
        have hs1 := shr64_1 hpos.1
        have ha1 := and64_1 _ hpos.1
        refine tri_skip ?_
        change Tri _ _ _ _ _
        refine tri_reg M hI hn (outs := ?_) (s' := ?_) ?_ ?_ ?_ ?_
        rotate_left 2
        · rfl
        · kernel_rfl
        · simp
        refine tri_seq ?_
        refine tri_reg M hI hn (outs := ?_) (s' := ?_) ?_ ?_ ?_ ?_
        rotate_left 2
        · rfl
        · kernel_rfl
        · simp
        refine tri_cond (b := ?_) ?_ (fun hc => ?_) (fun hc => ?_)
        rotate_left 1
        · rfl
        · refine tri_region M hI hn (outs := ?_) (s' := ?_) ?_ ?_ ?_ ?_
          rotate_left 2
          · rfl
          · kernel_rfl
          · simp
          change Tri _ _ _ _ _
          refine tri_reg M hI hn (outs := ?_) (s' := ?_) ?_ ?_ ?_ ?_
          rotate_left 2
          · rfl
          · kernel_rfl
          · simp
          refine tri_ret (fun a w hg => ⟨.inr rfl, _, ?_, hg⟩)
          refine retTo_cold (out := ?_) ?_ ?_ ?_ ?_ ?_
          rotate_left 1
          · rfl
          · simp
          · rfl
          · rfl
          rw [hm, ha1] at hc
          have hx := xor64 (n := uval (L.take (k + 1)) / 2) (by omega)
          have hodd : uval (L.take (k + 1)) % 2 = 1 := by
            have : ((uval (L.take (k + 1)) % 2 : Nat) : Int) = 1 := by simpa using hc
            omega
          rw [hgs, if_pos hpos, hm, hs1, hx, wrap_nat k (by omega)]
          unfold unzig intPV
          rw [if_neg (by omega)]
        · refine tri_skip ?_
          change Tri _ _ _ _ _
          refine tri_reg M hI hn (outs := ?_) (s' := ?_) ?_ ?_ ?_ ?_
          rotate_left 2
          · rfl
          · kernel_rfl
          · simp
          refine tri_ret (fun a w hg => ⟨.inr rfl, _, ?_, hg⟩)
          refine retTo_cold (out := ?_) ?_ ?_ ?_ ?_ ?_
          rotate_left 1
          · rfl
          · simp
          · rfl
          · rfl
          rw [hm, ha1] at hc
          have hev : uval (L.take (k + 1)) % 2 = 0 := by
            have : ¬ ((uval (L.take (k + 1)) % 2 : Nat) : Int) = 1 := by simpa using hc
            omega
          rw [hgs, if_pos hpos, hm, hs1, wrap_nat k (by omega)]
          unfold unzig intPV
          rw [if_pos hev]
  · have hkk : k = min L.length 10 := by
      have : ¬ (k : Int) < ((min L.length 10 : Nat) : Int) := by simpa using hc
      omega
    have ht := term_none_of 10 L (fun i hi => hbig i (by omega))
    refine tri_exit ?_
    change Tri _ _ _ _ _
    refine tri_seq ?_
    refine tri_reg M hI hn (outs := ?_) (s' := ?_) ?_ ?_ ?_ ?_
    rotate_left 2
    · rfl
    · kernel_rfl
    · simp
    refine tri_cond (b := ?_) ?_ (fun hc => ?_) (fun hc => ?_)
    rotate_left 1
    · rfl
    · refine tri_reg M hI hn (outs := ?_) (s' := ?_) ?_ ?_ ?_ ?_
      rotate_left 2
      · rfl
      · kernel_rfl
      · simp
      refine tri_ret (fun a w hg => ⟨.inr rfl, _, ?_, hg⟩)
      refine retTo_cold (out := ?_) ?_ ?_ ?_ ?_ ?_
      rotate_left 1
      · rfl
      · simp
      · rfl
      · rfl
      have : (L.length : Int) < 10 := by simpa using hc
      unfold getS
      rw [ht]
      dsimp only
      rw [if_pos (by omega)]
      rfl
    · refine tri_skip ?_
      change Tri _ _ _ _ _
      refine tri_reg M hI hn (outs := ?_) (s' := ?_) ?_ ?_ ?_ ?_
      rotate_left 2
      · rfl
      · kernel_rfl
      · simp
      refine tri_ret (fun a w hg => ⟨.inr rfl, _, ?_, hg⟩)
      refine retTo_cold (out := ?_) ?_ ?_ ?_ ?_ ?_
      rotate_left 1
      · rfl
      · simp
      · rfl
      · rfl
      have : ¬ (L.length : Int) < 10 := by simpa using hc
      unfold getS
      rw [ht]
      dsimp only
      rw [if_neg (by omega)]
      rfl
end Go.Proofs.YtoefmncdloffaaaDoor.Pv


namespace Go.Proofs.YtoefmncdloffaaaDoor.Pv
open Go.RowKit
theorem byF_row {len : Nat} {f : Nat → List PC} (h : IsRow len f) : ∀ i, i < len → f i = byF (rowB len f) i := fun i hi => by
  unfold byF rowB
  rw [getD_map_range len i _ hi]
  exact isByte_ok (h i hi)
theorem rowV_ok {C : Ctx} {len : Nat} {f : Nat → List PC} {x : Value} (h : IsRow len f) (hv : RV C (pv1 (.sl 1 len f)) x) : RV C (rowV (rowB len f)) x := by
  refine .w (.one ?_)
  rw [rowB_length]
  exact (hv.inv).sl_ext (byF_row h)
theorem rowV_nil {C : Ctx} {x : Value} (hv : RV C (pv1 (.lit (.slice none 0 0))) x) : RV C (rowV []) x := by
  have := hv.lit_inv
  subst this
  exact .w (.one (.sl (Reads.nil _ _) (fun g hg => by simp [Value.ownBlock] at hg) (fun i hi => by simp at hi)))
def asRow : PV → Option (Prop × List UInt8)
  | .w (.one (.sl n len f)) => (match Nat.beq n 1 with
    | true => some (IsRow len f, rowB len f)
    | false => none)
  | .w (.one (.lit (.slice none 0 0))) => some (True, [])
  | _ => none
theorem asRow_ok {C : Ctx} {v : PV} {p : Prop} {l : List UInt8} {x : Value} (h : asRow v = some (p, l)) (hp : p) (hv : RV C v x) : RV C (rowV l) x := by
  unfold asRow at h
  split at h
  · rename_i n len f
    cases hb : Nat.beq n 1 <;> rw [hb] at h <;> cases h
    obtain rfl := beqT hb
    exact rowV_ok hp hv
  · cases h; exact rowV_nil hv
  · cases h
def rowSp (pre : List UInt8 → Prop) (res : List UInt8 → PV) : Spec := funSpec true fun xs => match xs with
  | [v] => (match asRow v with
    | some (p, l) => some (p ∧ pre l, res l)
    | none => none)
  | _ => none
theorem rowSp_ok {f : Nat} {pre : List UInt8 → Prop} {res : List UInt8 → PV} (hent : ∀ args w, (callFunc f args).run Tryd.prog w = .ok (.enter f args) w) (h : ∀ l, pre l → FunOk Tryd.prog ShaMem f true [rowV l] (res l)) : SpecOk Tryd.prog ShaMem f (rowSp pre res) := by
  refine funSpec_ok hent (fun xs p r hg hp => ?_)
  split at hg
  · rename_i v
    cases hq : asRow v with
    | none => rw [hq] at hg; cases hg
    | some q =>
      obtain ⟨p0, l⟩ := q
      rw [hq] at hg
      cases hg
      exact (h l hp.2).args fun C vs hv => by
        match vs, hv with
        | [x], ⟨h1, _⟩ => exact ⟨asRow_ok hq hp.1 h1, trivial⟩
  · cases hg
def shortL (l : List UInt8) : Prop := l.length < 4611686018427387904
def cntS (l : List UInt8) : Int × Nat × Int := ((getS l).1, (getS l).2.1, if (getS l).2.2 ≠ 0 then (getS l).2.2 else if (getS l).1 < 0 then 7 else if (getS l).1 > (l.length : Int) - (getS l).2.1 then 6 else 0)
def bsPV (r : List UInt8 × Nat × Int) : PV := .tup [.one (.lit (.string (strOf r.1))), .one (.lit (.int .i64 (r.2.1 : Int))), .one (.lit (.int .i64 r.2.2))]
theorem rowB_drop {L : List UInt8} {k m : Nat} (h : k + m ≤ L.length) : rowB m (fun i => byF L (k + i)) = (L.drop k).take m := by
  apply List.ext_getElem
  · rw [rowB_length, List.length_take, List.length_drop]; omega
  · intro i h1 h2
    rw [rowB_length] at h1
    simp only [rowB, List.getElem_map, List.getElem_range, byteAt_byF, List.getElem_take, List.getElem_drop]
    rw [List.getD_eq_getElem?_getD, List.getElem?_eq_getElem (by omega)]
    rfl
@[simp] theorem isRow_shift (n k : Nat) (L : List UInt8) : IsRow n (fun i => byF L (k + i)) := fun _ _ => isByte_byF L _
def dcL1 : List (Nat × Spec) := (68, rowSp shortL fun l => intPV (getS l)) :: lowL
theorem dc1_ok : ∀ p ∈ dcL1, SpecOk Tryd.prog ShaMem p.1 p.2 := by
  intro p hp
  rcases List.mem_cons.1 hp with rfl | hp
  · exact rowSp_ok (call_enters Tryd.func68 (by kernel_rfl) rfl) getInt_fun
  · exact low_ok p hp
theorem dc1M : Mach Tryd.prog ShaMem (find dcL1) := ⟨specs_of dc1_ok, mixed_⟩
set_option maxRecDepth 100000 in
theorem count_fun (L : List UInt8) (hL : shortL L) : FunOk Tryd.prog ShaMem 113 true [rowV L, pvI 1] (intPV (cntS L)) := by
  have M := dc1M
  have hle := getS_le L
  have hrg := getS_range L
  have hL' : L.length < 4611686018427387904 := hL
  refine funOk_of Tryd.func113 rfl rfl sha_ext (fun A hS hn hI => ?_)
  refine tri_reg M hI hn (outs := ?_) (s' := ?_) ?_ ?_ ?_ ?_
  rotate_left 2
  · rfl
  · kernel_rfl
  · simp
  refine tri_reg M hI hn (outs := ?_) (s' := ?_) ?_ ?_ ?_ ?_
  rotate_left 2
  · rfl
  · kernel_rfl
  · simp [hL]
  refine tri_conv (s' := ⟨[(0, none, rowV L), (1, none, pvI 1), (4, none, pvI (getS L).1), (5, none, pvI ((getS L).2.1 : Int)), (6, none, pvI (getS L).2.2)], []⟩) (fun a w hg => (hg.reset (kT := [0, 1, 4, 5, 6]) (kO := []) (by rfl) (by simp)).same ?_ ?_) ?_
  · rw [rowB_byF]
    exact .cons rfl (.cons rfl (.cons rfl (.cons rfl (.cons rfl .nil))))
  · exact .nil
  unfold cntS
  generalize getS L = g at *
  obtain ⟨n, k, e⟩ := g
  dsimp only at *
  refine tri_seq ?_
  refine tri_block ?_
  refine tri_reg M hI hn (outs := ?_) (s' := ?_) ?_ ?_ ?_ ?_
  rotate_left 2
  · rfl
  · kernel_rfl
  · simp
  refine tri_cond (b := ?_) ?_ (fun hc => ?_) (fun hc => ?_)
  rotate_left 1
  · rfl
  · have he : e ≠ 0 := by simpa using hc
    refine tri_skip ?_
    change Tri _ _ _ _ _
    refine tri_reg M hI hn (outs := ?_) (s' := ?_) ?_ ?_ ?_ ?_
    rotate_left 2
    · rfl
    · kernel_rfl
    · simp
    refine tri_ret (fun a w hg => ⟨.inr rfl, _, ?_, hg⟩)
    refine retTo_cold (out := ?_) ?_ ?_ ?_ ?_ ?_
    rotate_left 1
    · rfl
    · simp
    · rfl
    · rfl
    unfold intPV
    rw [if_pos he]
  · have he : e = 0 := by simpa using hc
    subst he
    refine tri_reg M hI hn (outs := ?_) (s' := ?_) ?_ ?_ ?_ ?_
    rotate_left 2
    · rfl
    · kernel_rfl
    · simp
    refine tri_cond (b := ?_) ?_ (fun hc => ?_) (fun hc => ?_)
    rotate_left 1
    · rfl
    · have hn0 : n < 0 := by simpa using hc
      refine tri_region M hI hn (outs := ?_) (s' := ?_) ?_ ?_ ?_ ?_
      rotate_left 2
      · rfl
      · kernel_rfl
      · simp
      change Tri _ _ _ _ _
      refine tri_reg M hI hn (outs := ?_) (s' := ?_) ?_ ?_ ?_ ?_
      rotate_left 2
      · rfl
      · kernel_rfl
      · simp
      refine tri_ret (fun a w hg => ⟨.inr rfl, _, ?_, hg⟩)
      refine retTo_cold (out := ?_) ?_ ?_ ?_ ?_ ?_
      rotate_left 1
      · rfl
      · simp
      · rfl
      · rfl
      unfold intPV
      rw [if_neg (by simp), if_pos hn0]
    · have hn0 : ¬ n < 0 := by simpa using hc
      refine tri_reg M hI hn (outs := ?_) (s' := ?_) ?_ ?_ ?_ ?_
      rotate_left 2
      · rfl
      · kernel_rfl
      · simp
      refine tri_cond (b := ?_) ?_ (fun hc => ?_) (fun hc => ?_)
      rotate_left 1
      · rfl
      · have hn1 : n > (L.length : Int) - k := by
          have e1 : IntKind.i64.wrap ((L.length : Int) - k) = (L.length : Int) - k := wrap_i64_id (by omega) (by omega)
          rw [e1, Int.tdiv_one, e1] at hc
          simpa using hc
        refine tri_region M hI hn (outs := ?_) (s' := ?_) ?_ ?_ ?_ ?_
        rotate_left 2
        · rfl
        · kernel_rfl
        · simp
        change Tri _ _ _ _ _
        refine tri_reg M hI hn (outs := ?_) (s' := ?_) ?_ ?_ ?_ ?_
        rotate_left 2
        · rfl
        · kernel_rfl
        · simp
        refine tri_ret (fun a w hg => ⟨.inr rfl, _, ?_, hg⟩)
        refine retTo_cold (out := ?_) ?_ ?_ ?_ ?_ ?_
        rotate_left 1
        · rfl
        · simp
        · rfl
        · rfl
        unfold intPV
        rw [if_neg (by simp), if_neg hn0, if_pos hn1]
      · have hn1 : ¬ n > (L.length : Int) - k := by
          have e1 : IntKind.i64.wrap ((L.length : Int) - k) = (L.length : Int) - k := wrap_i64_id (by omega) (by omega)
          rw [e1, Int.tdiv_one, e1] at hc
          simpa using hc
        refine tri_skip ?_
        change Tri _ _ _ _ _
        refine tri_reg M hI hn (outs := ?_) (s' := ?_) ?_ ?_ ?_ ?_
        rotate_left 2
        · rfl
        · kernel_rfl
        · simp
        refine tri_ret (fun a w hg => ⟨.inr rfl, _, ?_, hg⟩)
        refine retTo_cold (out := ?_) ?_ ?_ ?_ ?_ ?_
        rotate_left 1
        · rfl
        · simp
        · rfl
        · rfl
        unfold intPV
        rw [if_neg (by simp), if_neg hn0, if_neg hn1]
def spCount : Spec := funSpec true fun xs => match xs with
  | [v, .w (.one (.lit (.int .i64 1)))] => (match asRow v with
    | some (p, l) => some (p ∧ shortL l, intPV (cntS l))
    | none => none)
  | _ => none
theorem count_ok : SpecOk Tryd.prog ShaMem 113 spCount := by
  refine funSpec_ok (call_enters Tryd.func113 (by kernel_rfl) rfl) (fun xs p r hg hp => ?_)
  split at hg
  · rename_i v
    cases hq : asRow v with
    | none => rw [hq] at hg; cases hg
    | some q =>
      obtain ⟨p0, l⟩ := q
      rw [hq] at hg
      cases hg
      exact (count_fun l hp.2).args fun C vs hv => by
        match vs, hv with
        | [x, y], ⟨h1, h2, _⟩ => exact ⟨asRow_ok hq hp.1 h1, h2, trivial⟩
  · cases hg
def dcL2 : List (Nat × Spec) := (113, spCount) :: dcL1
theorem dc2_ok : ∀ p ∈ dcL2, SpecOk Tryd.prog ShaMem p.1 p.2 := by
  intro p hp
  rcases List.mem_cons.1 hp with rfl | hp
  · exact count_ok
  · exact dc1_ok p hp
theorem dc2M : Mach Tryd.prog ShaMem (find dcL2) := ⟨specs_of dc2_ok, mixed_⟩
theorem cntS_code (L : List UInt8) : (cntS L).2.2 = 0 → (getS L).2.2 = 0 ∧ 0 ≤ (getS L).1 ∧ (getS L).1 ≤ (L.length : Int) - (getS L).2.1 := by
  unfold cntS
  dsimp only
  split
  · rename_i h; intro h2; exact absurd h2 h
  · rename_i h
    split
    · intro h2; cases h2
    · split
      · intro h2; cases h2
      · intro _; exact ⟨by simpa using h, by omega, by omega⟩
theorem getBS_cnt (L : List UInt8) : getBS L = if (cntS L).2.2 ≠ 0 then ([], 0, (cntS L).2.2) else ((L.drop (getS L).2.1).take (getS L).1.toNat, (getS L).2.1 + (getS L).1.toNat, 0) := by
  unfold getBS cntS
  dsimp only
  by_cases h : (getS L).2.2 = 0
  · by_cases h1 : (getS L).1 < 0
    · simp [h, h1]
    · by_cases h2 : (getS L).1 > (L.length : Int) - (getS L).2.1
      · have e : (if (getS L).2.2 ≠ 0 then (getS L).2.2 else if (getS L).1 < 0 then (7 : Int) else if (getS L).1 > (L.length : Int) - (getS L).2.1 then 6 else 0) = 6 := by rw [if_neg (by simp [h]), if_neg h1, if_pos h2]
        rw [e, if_neg (by simp [h]), if_neg h1, if_pos h2, if_pos (by decide)]
      · have e : (if (getS L).2.2 ≠ 0 then (getS L).2.2 else if (getS L).1 < 0 then (7 : Int) else if (getS L).1 > (L.length : Int) - (getS L).2.1 then 6 else 0) = 0 := by rw [if_neg (by simp [h]), if_neg h1, if_neg h2]
        rw [e, if_neg (by simp [h]), if_neg h1, if_neg h2, if_neg (by decide)]
  · rw [if_pos h, if_pos h, if_pos h]
set_option maxRecDepth 100000 in
theorem getBytes_fun (L : List UInt8) (hL : shortL L) : FunOk Tryd.prog ShaMem 66 true [rowV L] (bsPV (getBS L)) := by
  have M := dc2M
  have hle := getS_le L
  have hrg := getS_range L
  have hL' : L.length < 4611686018427387904 := hL
  refine funOk_of Tryd.func66 rfl rfl sha_ext (fun A hS hn hI => ?_)
  refine tri_reg M hI hn (outs := ?_) (s' := ?_) ?_ ?_ ?_ ?_
  rotate_left 2
  · rfl
  · kernel_rfl
  · simp
  refine tri_reg M hI hn (outs := ?_) (s' := ?_) ?_ ?_ ?_ ?_
  rotate_left 2
  · rfl
  · kernel_rfl
  · simp [hL]
  refine tri_conv (s' := ⟨[(0, none, rowV L), (5, none, pvI (getS L).1), (6, none, pvI ((getS L).2.1 : Int)), (7, none, pvI (cntS L).2.2)], []⟩) (fun a w hg => (hg.reset (kT := [0, 5, 6, 7]) (kO := []) (by rfl) (by simp)).same ?_ ?_) ?_
  · rw [rowB_byF]
    exact .cons rfl (.cons rfl (.cons rfl (.cons rfl .nil)))
  · exact .nil
  have hcc := cntS_code L
  rw [getBS_cnt L]
  generalize (cntS L).2.2 = e at *
  generalize getS L = g at *
  obtain ⟨n, k, e'⟩ := g
  dsimp only at *
  refine tri_seq ?_
  refine tri_reg M hI hn (outs := ?_) (s' := ?_) ?_ ?_ ?_ ?_
  rotate_left 2
  · rfl
  · kernel_rfl
  · simp
  refine tri_cond (b := ?_) ?_ (fun hc => ?_) (fun hc => ?_)
  rotate_left 1
  · rfl
  · have he : e ≠ 0 := by simpa using hc
    refine tri_reg M hI hn (outs := ?_) (s' := ?_) ?_ ?_ ?_ ?_
    rotate_left 2
    · rfl
    · kernel_rfl
    · simp
    refine tri_ret (fun a w hg => ⟨.inr rfl, _, ?_, hg⟩)
    refine retTo_cold (out := ?_) ?_ ?_ ?_ ?_ ?_
    rotate_left 1
    · rfl
    · simp
    · rfl
    · rfl
    rw [if_pos he]
    rfl
  · have he : e = 0 := by simpa using hc
    subst he
    obtain ⟨_, hn0, hn1⟩ := hcc rfl
    have e1 : IntKind.i64.wrap ((k : Int) + n) = ((k + n.toNat : Nat) : Int) := by rw [wrap_i64_id (by omega) (by omega)]; omega
    refine tri_skip ?_
    change Tri _ _ _ _ _
    refine tri_reg M hI hn (outs := ?_) (s' := ?_) ?_ ?_ ?_ ?_
    rotate_left 2
    · rfl
    · kernel_rfl
    · simp
      rw [e1]
      omega
    refine tri_ret (fun a w hg => ⟨.inr rfl, _, ?_, hg⟩)
    refine retTo_cold (out := ?_) ?_ ?_ ?_ ?_ ?_
    rotate_left 1
    · rfl
    · simp
    · rfl
    · rfl
    rw [if_neg (by simp), e1]
    have e2 : (((k + n.toNat : Nat) : Int) - (k : Int)).toNat = n.toNat := by omega
    unfold bsPV
    rw [e2, Int.toNat_natCast, rowB_drop (by omega)]
    rfl
end Go.Proofs.YtoefmncdloffaaaDoor.Pv
