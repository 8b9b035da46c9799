/-
  Several texts in one file: each has its own heading below.
-/
import Derived.Test.YtgndblhpfjkfhaaDoorQbA

/-
  The abstract machine: a region, in order or in whatever order it draws. Plain: no function of the program is named here.
-/
namespace Go.Proofs.YtgndblhpfjkfhaaDoor.Pv
open Go.RowKit

/-! ### Who waits for whom -/
/-- For each operation, as the bits of a number, those that it waits for, also through others. -/
def masks (md : Region.Mode) : List Oper → List Nat → List Nat
  | [], acc => acc
  | o :: l, acc => masks md l (acc ++ [o.after.toList.foldl (fun m e => match Region.binds md e with
      | true => Nat.lor m (Nat.lor (Nat.shiftLeft 1 e.on) (acc.getD e.on 0))
      | false => m) 0])
/-- Operation i waits for k. -/
inductive Anc (md : Region.Mode) (ops : Array Oper) : Nat → Nat → Prop where
  | edge {i : Nat} {o : Oper} {e : Edge} (ho : ops[i]? = some o) (he : e ∈ o.after) (hb : Region.binds md e = true) : Anc md ops i e.on
  | trans {i j k : Nat} (h : Anc md ops i j) (h' : Anc md ops j k) : Anc md ops i k
def MaskOk (md : Region.Mode) (ops : Array Oper) (acc : List Nat) : Prop := ∀ i m, acc[i]? = some m → ∀ k, m.testBit k = true → Anc md ops i k
theorem foldl_mask {md : Region.Mode} {ops : Array Oper} {acc : List Nat} (hacc : MaskOk md ops acc) {i : Nat} {o : Oper} (ho : ops[i]? = some o) :
    ∀ (es : List Edge) (m : Nat), (∀ e ∈ es, e ∈ o.after) → (∀ k, m.testBit k = true → Anc md ops i k) →
      ∀ k, (es.foldl (fun m e => match Region.binds md e with | true => Nat.lor m (Nat.lor (Nat.shiftLeft 1 e.on) (acc.getD e.on 0)) | false => m) m).testBit k = true → Anc md ops i k
  | [], m, _, hm, k, h => hm k h
  | e :: es, m, hes, hm, k, h => by
    rw [List.foldl_cons] at h
    refine foldl_mask hacc ho es _ (fun e' h' => hes e' (List.mem_cons_of_mem _ h')) (fun k' h' => ?_) k h
    have hmem := hes e List.mem_cons_self
    cases hb : Region.binds md e with
    | false => rw [hb] at h'; exact hm k' h'
    | true =>
      rw [hb] at h'
      dsimp only at h'
      change (m ||| (1 <<< e.on ||| acc.getD e.on 0)).testBit k' = true at h'
      rw [Nat.testBit_or, Nat.testBit_or, Bool.or_eq_true, Bool.or_eq_true] at h'
      rcases h' with h' | h' | h'
      · exact hm k' h'
      · have hk : k' = e.on := by
          rw [Nat.testBit_shiftLeft, Bool.and_eq_true] at h'
          have h2 := h'.2
          have h1 : e.on ≤ k' := by simpa using h'.1
          rcases Nat.eq_zero_or_pos (k' - e.on) with h0 | h0
          · omega
          · rw [Nat.testBit_lt_two_pow (Nat.one_lt_two_pow (by omega))] at h2
            cases h2
        subst hk
        exact .edge ho hmem hb
      · cases hg : acc[e.on]? with
        | none => rw [List.getD_eq_getElem?_getD, hg] at h'; simp at h'
        | some m2 =>
          rw [List.getD_eq_getElem?_getD, hg] at h'
          exact .trans (.edge ho hmem hb) (hacc e.on m2 hg k' h')
theorem masks_ok {md : Region.Mode} {ops : Array Oper} : ∀ (l : List Oper) (acc : List Nat), MaskOk md ops acc → (∀ k o, l[k]? = some o → ops[acc.length + k]? = some o) → MaskOk md ops (masks md l acc)
  | [], _, h, _ => h
  | o :: l, acc, h, hl => by
    refine masks_ok l _ (fun i m hi k hk => ?_) (fun k o' hk => ?_)
    · rcases Nat.lt_trichotomy i acc.length with hlt | heq | hgt
      · rw [List.getElem?_append_left hlt] at hi; exact h i m hi k hk
      · subst heq
        rw [List.getElem?_append_right (Nat.le_refl _), Nat.sub_self] at hi
        rw [List.getElem?_cons_zero, Option.some.injEq] at hi
        subst hi
        exact foldl_mask h (by simpa using hl 0 o rfl) _ 0 (fun e he => Array.mem_toList_iff.1 he) (fun k hk => by simp at hk) k hk
      · rw [List.getElem?_append_right (by omega)] at hi
        have : i - acc.length ≠ 0 := by omega
        cases hq : i - acc.length with
        | zero => omega
        | succ n => rw [hq] at hi; simp at hi
    · rw [List.length_append]
      have := hl (k + 1) o' (by simpa using hk)
      simpa [Nat.add_assoc, Nat.add_comm 1] using this
def meet (a b : List Nat) : Bool := a.any fun x => b.any fun y => Nat.beq x y
theorem meet_of {a b : List Nat} {x : Nat} (h : x ∈ a) (k : x ∈ b) : meet a b = true := List.any_eq_true.2 ⟨x, h, List.any_eq_true.2 ⟨x, k, by simp⟩⟩
/-- The two touch the same place, and one of them writes it. -/
def clash (p q : Option Nat × Out) : Bool :=
  let wt (p : Option Nat × Out) := p.1.toList
  let wo (p : Option Nat × Out) := p.2.wr.map (·.1)
  meet (wt p) (wt q) || meet (wt p) q.2.rt || meet p.2.rt (wt q) || meet (wo p) (wo q) || meet (wo p) q.2.ro || meet p.2.ro (wo q)
/-- Whoever clashes with an operation ahead of it waits for that one. -/
def clashOk : List (Option Nat × Out) → List (Nat × Option Nat × Out) → List Nat → Bool
  | [], _, _ => true
  | _ :: _, _, [] => false
  | p :: l, seen, m :: ms => (seen.all fun q => !(clash q.2 p) || m.testBit q.1) && clashOk l (seen ++ [(seen.length, p)]) ms
theorem clashOk_spec : ∀ (l : List (Option Nat × Out)) (seen : List (Nat × Option Nat × Out)) (ms : List Nat), clashOk l seen ms = true → (∀ (j : Nat) (q : Nat × Option Nat × Out), seen[j]? = some q → q.1 = j) →
    ∀ j k p q, j < k → ((seen.map (·.2)) ++ l)[j]? = some q → l[k - seen.length]? = some p → seen.length ≤ k → clash q p = true → ∃ m, ms[k - seen.length]? = some m ∧ m.testBit j = true
  | [], _, _, _, _, j, k, p, q, _, _, hp, _, _ => by simp at hp
  | p0 :: l, seen, [], h, _, _, _, _, _, _, _, _, _, _ => by cases h
  | p0 :: l, seen, m :: ms, h, hs, j, k, p, q, hjk, hq, hp, hk, hc => by
    rw [clashOk, Bool.and_eq_true] at h
    rcases Nat.eq_or_lt_of_le hk with heq | hlt
    · rw [← heq, Nat.sub_self] at hp ⊢
      obtain rfl : p0 = p := by simpa using hp
      refine ⟨m, rfl, ?_⟩
      rw [List.getElem?_append_left (by rw [List.length_map]; omega), List.getElem?_map] at hq
      cases hsj : seen[j]? with
      | none => rw [hsj] at hq; cases hq
      | some z =>
        rw [hsj] at hq
        obtain rfl : z.2 = q := by simpa using hq
        have h1 := List.all_eq_true.1 h.1 z (List.mem_of_getElem? hsj)
        rw [hc, hs j z hsj] at h1
        simpa using h1
    · have hsl : (seen ++ [(seen.length, p0)]).length = seen.length + 1 := by simp
      have := clashOk_spec l (seen ++ [(seen.length, p0)]) ms h.2 (fun j q hj => by
        rcases Nat.lt_trichotomy j seen.length with h1 | h1 | h1
        · rw [List.getElem?_append_left h1] at hj; exact hs j q hj
        · subst h1
          rw [List.getElem?_append_right (Nat.le_refl _), Nat.sub_self] at hj
          obtain rfl : _ = q := by simpa using hj
          rfl
        · rw [List.getElem?_append_right (by omega)] at hj
          cases hz : j - seen.length with
          | zero => omega
          | succ n => rw [hz] at hj; simp at hj) j k p q hjk (by simpa using hq) (by
            rw [hsl]
            rw [show k - seen.length = (k - (seen.length + 1)) + 1 from by omega] at hp
            simpa using hp) (by omega) hc
      rw [hsl] at this
      obtain ⟨m', h1, h2⟩ := this
      exact ⟨m', by rw [show k - seen.length = (k - (seen.length + 1)) + 1 from by omega]; simpa using h1, h2⟩

/-! ### Binding edges go back -/
def backL (md : Region.Mode) : List Oper → Nat → Bool
  | [], _ => true
  | o :: l, i => (o.after.toList.all fun e => match Region.binds md e with | true => Nat.blt e.on i | false => true) && backL md l (i + 1)
theorem backL_spec {md : Region.Mode} : ∀ (l : List Oper) (i : Nat), backL md l i = true → ∀ k o, l[k]? = some o → ∀ e ∈ o.after, Region.binds md e = true → e.on < i + k
  | [], _, _, k, o, hk => by simp at hk
  | o0 :: l, i, h, k, o, hk => by
    rw [backL, Bool.and_eq_true] at h
    intro e he hb
    match k with
    | 0 =>
      obtain rfl : o0 = o := by simpa using hk
      have := List.all_eq_true.1 h.1 e (Array.mem_toList_iff.2 he)
      rw [hb] at this
      have h2 : Nat.blt e.on i = true := this
      have h3 : e.on + 1 ≤ i := by simpa [Nat.blt] using h2
      omega
    | k + 1 =>
      have := backL_spec l (i + 1) h.2 k o (by simpa using hk) e he hb
      omega

section
variable {P : Program} {ops : Array Oper} {Q : Exit → Act → World → Prop}
/-- What the soundness of the operations says. -/
def OpsOk (P : Program) (ops : Array Oper) (Q : Exit → Act → World → Prop) (G : St → Act → World → Prop) (mop : Nat → Oper → M) : Prop :=
  ∀ i o s a w out, ops[i]? = some o → G s a w → (mop i o).run none s = some out → (∀ p ∈ out.conds, p) →
    ∀ K : Act → World → Prop, (∀ a' w', G (app o.dst out s) a' w' → K a' w') → wpOp P ops Q i K a w
def Finds (G : St → Act → World → Prop) : Prop := ∀ s s' a w, (∀ t, find s.t t = find s'.t t) → (∀ x, find s.o x = find s'.o x) → G s a w → G s' a w

theorem wp_ops_in_order {G : St → Act → World → Prop} {mop : Nat → Oper → M} (hok : OpsOk P ops Q G mop) :
    ∀ (l : List Oper) (i : Nat) (s s' : St) (outs : List (Option Nat × Out)) (a : Act) (w : World), (∀ k o, l[k]? = some o → ops[i + k]? = some o) → runOps mop i l s = some (outs, s') → (∀ q ∈ outs, ∀ p ∈ q.2.conds, p) → G s a w →
      (∀ a' w', G s' a' w' → Q .normal a' w') → wpOps P ops Q (List.range' i l.length) a w
  | [], i, s, s', outs, a, w, _, h, _, hg, hQ => by
    obtain ⟨rfl, rfl⟩ : [] = outs ∧ s = s' := by simpa [runOps] using h
    exact hQ a w hg
  | o :: l, i, s, s', outs, a, w, hl, h, hc, hg, hQ => by
    unfold runOps at h
    cases hr : (mop i o).run none s with
    | none => rw [hr] at h; cases h
    | some out =>
      rw [hr] at h
      dsimp only at h
      cases hq : runOps mop (i + 1) l (app o.dst out s) with
      | none => rw [hq] at h; cases h
      | some p =>
        obtain ⟨outs2, s2⟩ := p
        rw [hq] at h
        cases h
        rw [List.length_cons, List.range'_succ, wpOps_cons]
        refine hok i o s a w out (by simpa using hl 0 o rfl) hg hr (fun p hp => hc _ List.mem_cons_self p hp) _ (fun a' w' hg' => ?_)
        exact wp_ops_in_order hok l (i + 1) _ s' outs2 a' w' (fun k o' hk => by rw [Nat.add_assoc, Nat.add_comm 1]; exact hl (k + 1) o' (by simpa using hk)) hq (fun q hq' => hc q (List.mem_cons_of_mem _ hq')) hg' hQ

theorem wpAny_merge {G : St → Act → World → Prop} {mop : Nat → Oper → M} (hok : OpsOk P ops Q G mop) (hfind : Finds G) {s0 s' : St} {outs : List (Option Nat × Out)}
    (hrun : runOps mop 0 ops.toList s0 = some (outs, s')) (hc : ∀ q ∈ outs, ∀ p ∈ q.2.conds, p) (hb : backL .any ops.toList 0 = true) (hcl : clashOk outs [] (masks .any ops.toList []) = true)
    (hQ : ∀ a' w', G s' a' w' → Q .normal a' w') :
    ∀ (fuel : Nat) (listed : Array Bool) (a : Act) (w : World), listed.size = ops.size → (listed.toList.countP (· == false)) ≤ fuel →
      (∀ i o, ops[i]? = some o → listed.getD i false = true → ∀ e ∈ o.after, Region.binds .any e = true → listed.getD e.on false = true) →
      G (merge (fun i => listed.getD i false) 0 outs s0) a w → wpAny P .any ops Q fuel listed a w := by
  obtain ⟨hlen, hs', hat⟩ := runOps_at _ _ _ _ _ hrun
  have hlen' : outs.length = ops.size := by simpa using hlen
  have hmask := masks_ok (md := .any) (ops := ops) ops.toList [] (fun i m hi => by simp at hi) (fun k o hk => by simpa using hk)
  have hanc : ∀ (listed : Array Bool), (∀ i o, ops[i]? = some o → listed.getD i false = true → ∀ e ∈ o.after, Region.binds .any e = true → listed.getD e.on false = true) → ∀ i k, Anc .any ops i k → listed.getD i false = true → listed.getD k false = true := by
    intro listed hcl2 i k h
    induction h with
    | edge ho he hb => intro hi; exact hcl2 _ _ ho hi _ he hb
    | trans _ _ ih1 ih2 => intro hi; exact ih2 (ih1 hi)
  have hanc' : ∀ (listed : Array Bool) (i : Nat), (∀ i o, ops[i]? = some o → listed.getD i false = true → ∀ e ∈ o.after, Region.binds .any e = true → listed.getD e.on false = true) → (∀ o, ops[i]? = some o → ∀ e ∈ o.after, Region.binds .any e = true → listed.getD e.on false = true) → ∀ k, Anc .any ops i k → listed.getD k false = true := by
    intro listed i hcl2 hi k h
    induction h with
    | edge ho he hb => exact hi _ ho _ he hb
    | trans h1 h2 ih1 _ => exact hanc listed hcl2 _ _ h2 (ih1 hi)
  have hclash : ∀ j k q p, j < k → outs[j]? = some q → outs[k]? = some p → clash q p = true → Anc .any ops k j := by
    intro j k q p hjk hq hp h
    obtain ⟨m, h1, h2⟩ := clashOk_spec outs [] _ hcl (fun j q hj => by simp at hj) j k p q hjk (by simpa using hq) (by simpa using hp) (by simp) h
    exact hmask k m (by simpa using h1) j h2
  have hdone : ∀ (listed : Array Bool) (a : Act) (w : World), listed.size = ops.size → Region.ready .any ops listed = [] → G (merge (fun i => listed.getD i false) 0 outs s0) a w → Q .normal a w := by
    intro listed a w hsz hr hg
    have hall : ∀ n i, i < n → i < ops.size → listed.getD i false = true := by
      intro n
      induction n with
      | zero => intro i hi; omega
      | succ n ih =>
        intro i hi hi2
        cases hl : listed.getD i false with
        | true => rfl
        | false =>
          have : i ∈ Region.ready .any ops listed := mem_ready.2 ⟨by
            rw [Array.getD_eq_getD_getElem?] at hl ⊢
            rw [Array.getElem?_eq_getElem (by omega)] at hl ⊢
            exact hl, ops[i], Array.getElem?_eq_getElem hi2, fun e he hbd => ?_⟩
          · rw [hr] at this; cases this
          · have := backL_spec ops.toList 0 hb i ops[i] (by simp [hi2]) e he hbd
            exact ih e.on (by omega) (by omega)
    refine hQ a w (hfind _ _ a w (fun t => ?_) (fun x => ?_) hg)
    · rw [hs']
      exact merge_t outs 0 s0 s0 rfl (fun j p hj _ => by
        have : j < outs.length := (List.getElem?_eq_some_iff.1 hj).1
        exact hall (0 + j + 1) (0 + j) (by omega) (by omega))
    · rw [hs']
      exact merge_o outs 0 s0 s0 rfl (fun j p hj _ => by
        have : j < outs.length := (List.getElem?_eq_some_iff.1 hj).1
        exact hall (0 + j + 1) (0 + j) (by omega) (by omega))
  intro fuel
  induction fuel with
  | zero =>
    intro listed a w hsz hcnt hclosed hg
    have hr : Region.ready .any ops listed = [] := by
      cases hrd : Region.ready .any ops listed with
      | nil => rfl
      | cons i l =>
        have hi : i ∈ Region.ready .any ops listed := by rw [hrd]; exact List.mem_cons_self
        obtain ⟨h1, o, ho, _⟩ := mem_ready.1 hi
        have hlt : i < listed.size := by rw [hsz]; exact (Array.getElem?_eq_some_iff.1 ho).1
        have : false ∈ listed.toList := by
          rw [Array.getD_eq_getD_getElem?, Array.getElem?_eq_getElem hlt] at h1
          have h1' : listed[i] = false := h1
          rw [← h1']
          simp
        have := (List.countP_pos_iff (p := (· == false))).2 ⟨false, this, rfl⟩
        omega
    exact ⟨hr, hdone listed a w hsz hr hg⟩
  | succ fuel ih =>
    intro listed a w hsz hcnt hclosed hg
    refine ⟨fun hr => hdone listed a w hsz hr hg, fun i hi => ?_⟩
    obtain ⟨h1, o, ho, hpre⟩ := mem_ready.1 hi
    have hlt : i < listed.size := by rw [hsz]; exact (Array.getElem?_eq_some_iff.1 ho).1
    have hfalse : listed.getD i false = false := by
      rw [Array.getD_eq_getD_getElem?] at h1 ⊢
      rw [Array.getElem?_eq_getElem hlt] at h1 ⊢
      exact h1
    obtain ⟨out, hout, hrn⟩ := hat i o (by simpa using ho)
    rw [Nat.zero_add] at hrn
    have hpreA := hanc' listed i hclosed (fun o' ho' => by rw [ho] at ho'; cases ho'; exact hpre)
    -- writers of what i touches
    have hbefore : ∀ j q, outs[j]? = some q → clash q (o.dst, out) = true → j < i → listed.getD j false = true := fun j q hj hc hji => hpreA j (hclash j i q _ hji hj hout hc)
    have hafter : ∀ j q, outs[j]? = some q → clash (o.dst, out) q = true → i < j → listed.getD j false = false := fun j q hj hc hij => by
      cases hl : listed.getD j false with
      | false => rfl
      | true =>
        have := hanc listed hclosed j i (hclash i j _ q hij hout hj hc) hl
        rw [hfalse] at this
        cases this
    have hrun2 : (mop i o).run none (merge (fun j => listed.getD j false) 0 outs s0) = some out := by
      refine M.frame _ _ _ _ _ hrn (fun t ht => ?_) (fun x hx => ?_)
      · refine merge_t outs 0 s0 s0 rfl (fun j q hj hw => ?_)
        rw [Nat.zero_add]
        have hw' : t ∈ q.1.toList := by unfold wrT at hw; rw [hw]; simp
        rcases Nat.lt_trichotomy j i with h | h | h
        · rw [decide_eq_true h]
          exact hbefore j q hj (by unfold clash; simp [meet_of hw' ht]) h
        · subst h; rw [hfalse]; simp
        · rw [decide_eq_false (by omega)]
          exact hafter j q hj (by unfold clash; simp [meet_of ht hw']) h
      · refine merge_o outs 0 s0 s0 rfl (fun j q hj hw => ?_)
        rw [Nat.zero_add]
        obtain ⟨pw, hpw, rfl⟩ := hw
        have hw' : pw.1 ∈ q.2.wr.map (·.1) := List.mem_map.2 ⟨pw, hpw, rfl⟩
        rcases Nat.lt_trichotomy j i with h | h | h
        · rw [decide_eq_true h]
          exact hbefore j q hj (by unfold clash; simp [meet_of hw' hx]) h
        · subst h; rw [hfalse]; simp
        · rw [decide_eq_false (by omega)]
          exact hafter j q hj (by unfold clash; simp [meet_of hx hw']) h
    refine hok i o _ a w out ho hg hrun2 (hc _ (List.mem_of_getElem? hout)) _ (fun a' w' hg' => ?_)
    have hget : ∀ j, (listed.setIfInBounds i true).getD j false = (if j = i then true else listed.getD j false) := fun j => by
      rw [Array.getD_eq_getD_getElem?, Array.getD_eq_getD_getElem?, Array.getElem?_setIfInBounds]
      by_cases hij : i = j
      · subst hij; simp [hlt]
      · rw [if_neg hij, if_neg (fun e => hij e.symm)]
    refine ih _ a' w' (by simpa using hsz) ?_ (fun j oj hj hl e he hbd => ?_) ?_
    · have : listed.toList.countP (· == false) = (listed.setIfInBounds i true).toList.countP (· == false) + 1 := by
        have hl : listed.toList = listed.toList.take i ++ (false :: listed.toList.drop (i + 1)) := by
          have hx : listed.toList[i]'(by simpa using hlt) = false := by
            rw [Array.getD_eq_getD_getElem?, Array.getElem?_eq_getElem hlt] at hfalse
            simpa using hfalse
          rw [← hx, List.getElem_cons_drop, List.take_append_drop]
        have hl2 : (listed.setIfInBounds i true).toList = listed.toList.take i ++ (true :: listed.toList.drop (i + 1)) := by
          rw [Array.toList_setIfInBounds, List.set_eq_take_append_cons_drop, if_pos (by simpa using hlt)]
        rw [hl2]
        conv => lhs; rw [hl]
        simp only [List.countP_append, List.countP_cons]
        simp
        omega
      omega
    · rw [hget] at hl ⊢
      by_cases hei : e.on = i
      · rw [if_pos hei]
      · rw [if_neg hei]
        by_cases hji : j = i
        · subst hji; rw [ho] at hj; cases hj; exact hpre e he hbd
        · rw [if_neg hji] at hl; exact hclosed j oj hj hl e he hbd
    · have hfun : (fun j => (listed.setIfInBounds i true).getD j false) = fun j => if j = 0 + i then true else listed.getD j false := funext fun j => by rw [hget, Nat.zero_add]
      rw [hfun]
      refine hfind _ _ a' w' (fun t => ?_) (fun x => ?_) hg'
      · by_cases hw : wrT o.dst t
        · refine merge_put_t outs 0 i s0 o.dst out hout hw (fun j q hj hij hwq => ?_)
          rw [Nat.zero_add]
          have m1 : t ∈ o.dst.toList := by unfold wrT at hw; rw [hw]; simp
          have m2 : t ∈ q.1.toList := by unfold wrT at hwq; rw [hwq]; simp
          exact hafter j q hj (by unfold clash; simp [meet_of m1 m2]) hij
        · rw [app_t_not hw]
          refine merge_t outs 0 s0 s0 rfl (fun j q hj hwq => ?_)
          rw [Nat.zero_add, Nat.zero_add]
          by_cases hji : j = i
          · subst hji
            rw [hout] at hj
            cases hj
            exact absurd hwq hw
          · rw [if_neg hji]
      · by_cases hw : wrO out x
        · refine merge_put_o outs 0 i s0 o.dst out hout hw (fun j q hj hij hwq => ?_)
          rw [Nat.zero_add]
          obtain ⟨p1, hp1, e1⟩ := hw
          obtain ⟨p2, hp2, e2⟩ := hwq
          have m1 : x ∈ out.wr.map (·.1) := List.mem_map.2 ⟨p1, hp1, e1⟩
          have m2 : x ∈ q.2.wr.map (·.1) := List.mem_map.2 ⟨p2, hp2, e2⟩
          exact hafter j q hj (by unfold clash; simp [meet_of m1 m2]) hij
        · rw [app_o_not hw]
          refine merge_o outs 0 s0 s0 rfl (fun j q hj hwq => ?_)
          rw [Nat.zero_add, Nat.zero_add]
          by_cases hji : j = i
          · subst hji
            rw [hout] at hj
            cases hj
            exact absurd hwq hw
          · rw [if_neg hji]

/-- A region: in order, or in whatever order it draws. -/
def clashDraw (draw : Bool) (l : List Oper) (outs : List (Option Nat × Out)) : Bool := match draw with
  | true => backL .any l 0 && clashOk outs [] (masks .any l [])
  | false => true
theorem wp_region_pv {G : St → Act → World → Prop} {mop : Nat → Oper → M} (hok : OpsOk P ops Q G mop) (hfind : Finds G) (hdrew : ∀ s a w, G s a w → G s a w.drew) (hmx : P.follows .mixedOrders = true)
    {id : Nat} {draw : Bool} {s0 s' : St} {outs : List (Option Nat × Out)} (hrun : runOps mop 0 ops.toList s0 = some (outs, s')) (hc : ∀ q ∈ outs, ∀ p ∈ q.2.conds, p) (hcl : clashDraw draw ops.toList outs = true)
    {a : Act} {w : World} (hg : G s0 a w) (hQ : ∀ a' w', G s' a' w' → Q .normal a' w') : (Code.region id ops draw).wp P Q a w := by
  cases draw with
  | false =>
    refine wp_region ?_
    have := wp_ops_in_order hok ops.toList 0 s0 s' outs a w (fun k o hk => by simpa using hk) hrun hc hg hQ
    rwa [← List.range_eq_range', Array.length_toList] at this
  | true =>
    unfold clashDraw at hcl
    rw [Bool.and_eq_true] at hcl
    refine wp_region_any hmx ?_
    refine wpAny_merge hok hfind hrun hc hcl.1 hcl.2 hQ ops.size _ a _ (by simp) (by simp; exact Nat.le_trans List.countP_le_length (by simp)) (fun i o hi hl => ?_) ?_
    · rw [Array.getD_eq_getD_getElem?, Array.getElem?_replicate] at hl
      split at hl <;> cases hl
    · rw [merge_none _ _ _ _ (fun j _ => by
        rw [Array.getD_eq_getD_getElem?, Array.getElem?_replicate]
        split <;> rfl)]
      exact hdrew _ _ _ hg
end

end Go.Proofs.YtgndblhpfjkfhaaDoor.Pv

/-
  The abstract machine: what it means that a state stands for a frame and a world ('Gam'); how it is kept. Plain: no function of the program is named here.
-/
namespace Go.Proofs.YtgndblhpfjkfhaaDoor.Pv
open Go.RowKit

def gT : Option Bool → Prop
  | none => True
  | some b => b = true
def hblk : Value → Option Nat
  | .pointer (some a) => some a.block
  | .slice (some a) _ _ => some a.block
  | _ => none
def ObjOk (C : Ctx) (hd : Value) : AObj → Prop
  | .box t l => ∃ g cs, hd = boxAt g ∧ Blk C.w g t cs ∧ RL C l cs.toList
  | .arr e n len f => ∃ vs, C.w.ownsRow 0 e n hd len vs ∧ ∀ i, i < len → RL C (f i) ((vs.drop (i * n)).take n)
  | .dead => True
  | .dev _ _ _ => True

/-- A device that a function is given as a function value: what it answers ('none': it stops), the blocks that it writes, what it leans on (the blocks that others may change being given), what holds when it has stopped. -/
structure Dv where
  hd : Value
  O : List Acc → Option Res
  S : Nat → Prop
  inv : List Acc → (Nat → Prop) → World → Prop
  pan : List Acc → (Nat → Prop) → World → List PanicEntry → Prop
  one : hd.oneCell' = true
  noBlk : hblk hd = none
  notS : ∀ l X w b, inv l X w → X b → ¬ S b
  grow : ∀ l X Y w w', inv l X w → Chg X w w' → (∀ b, Y b → X b ∨ (w.heap.size ≤ b ∧ b < w'.heap.size)) → inv l Y w'
/-- No device. -/
def Dv.non : Dv := ⟨.bool false, fun _ => none, Non, fun _ _ _ => False, fun _ _ _ _ => False, rfl, rfl, fun _ _ _ _ h => h.elim, fun _ _ _ _ _ h => h.elim⟩
/-- What a function starts from: the world, the old blocks that it may change, those in which data may lie, how many slots it has, the handles of the objects that it is given, the device, what must hold of the accesses when it stops, blocks of others that the device must leave alone. -/
structure Amb where
  w0 : World
  S : Nat → Prop
  ok0 : Nat → Prop
  nt : Nat
  ext : Nat → Option Value
  dv : Dv
  stp : List Acc → Prop
  X0 : Nat → Prop
def Amb.plain (w : World) (ok0 : Nat → Prop) (nt : Nat) : Amb := ⟨w, Non, ok0, nt, fun _ => none, Dv.non, fun _ => False, Non⟩
abbrev Env := Nat → Option (Nat × Value)
def ctxOf (A : Amb) (w : World) (env : Env) : Ctx := { w, ok := fun b => (A.ok0 b ∨ A.w0.heap.size ≤ b) ∧ ∀ x ver hd, env x = some (ver, hd) → hblk hd ≠ some b, env }

/-- The blocks that the device must leave alone. -/
def ownB (A : Amb) (env : Env) (b : Nat) : Prop := A.X0 b ∨ ∃ x ver hd, env x = some (ver, hd) ∧ hblk hd = some b
structure GamE (A : Amb) (s : St) (a : Act) (w : World) (env : Env) : Prop where
  chg : Chg A.S A.w0 w
  size : a.tmps.size = A.nt
  dom : ∀ x, find s.o x = none → env x = none
  objs : ∀ x g ver o, find s.o x = some (g, ver, o) → ∃ hd, env x = some (ver, hd) ∧ (gT g → ObjOk (ctxOf A w env) hd o)
  live : ∀ x ver hd b, env x = some (ver, hd) → hblk hd = some b → b < w.heap.size ∧ (A.w0.heap.size ≤ b ∨ A.S b)
  inj : ∀ x y v1 h1 v2 h2 b, env x = some (v1, h1) → env y = some (v2, h2) → hblk h1 = some b → hblk h2 = some b → x = y
  tmps : ∀ t g pv, find s.t t = some (g, pv) → gT g → ∃ v, a.tmps[t]? = some v ∧ RV (ctxOf A w env) pv v
  defers : a.defers = []
  und : ∀ t pv, find s.t t = some (some false, pv) → a.tmps[t]? = some undef
  exts : ∀ x hd, A.ext x = some hd → Nat.ble dx x = true ∧ At (ctxOf A w env) x 0 (fun hd' => hd' = hd)
  dev : ∀ g ver O stp l, find s.o dx = some (g, ver, .dev O stp l) → gT g → O = A.dv.O ∧ stp = A.stp ∧ A.dv.inv l (ownB A env) w
def Gam (A : Amb) (s : St) (a : Act) (w : World) : Prop := ∃ env, GamE A s a w env

theorem ObjOk.le_same {C C' : Ctx} {hd : Value} {o : AObj} (h : ObjOk C hd o) (hle : C.Le C') (hb : ∀ b, hblk hd = some b → b < C.w.heap.size → C'.w.heap[b]? = C.w.heap[b]?) : ObjOk C' hd o := by
  cases o with
  | dead => trivial
  | dev O stp l => trivial
  | box t l =>
    obtain ⟨g, cs, rfl, h1, h2⟩ := h
    exact ⟨g, cs, rfl, (hb g rfl h1.lt).trans h1, h2.le hle⟩
  | arr e n len f =>
    obtain ⟨vs, h1, h2⟩ := h
    refine ⟨vs, ⟨h1.1, ?_⟩, fun i hi => (h2 i hi).le hle⟩
    rcases h1.2 with hn | ⟨g, cap, cur, rfl, hbs, hgg, rest⟩
    · exact .inl hn
    · exact .inr ⟨g, cap, cur, rfl, hbs, (hb g rfl (lt_of_heap hgg)).trans hgg, rest⟩

section
variable {A : Amb} {s : St} {a : Act} {w w' : World} {env : Env}
theorem le_ext (he : Ext w w') : (ctxOf A w env).Le (ctxOf A w' env) :=
  ⟨he.size', fun b hb ho => ⟨ho, he.block b hb (fun h => h)⟩, fun _ ver hd h => ⟨ver, hd, h, Nat.le_refl _, fun _ => rfl⟩⟩
theorem GamE.ext (h : GamE A s a w env) (he : Ext w w') : GamE A s a w' env where
  chg := h.chg.ext he
  size := h.size
  dom := h.dom
  objs := fun x g ver o hf => by
    obtain ⟨hd, h1, h2⟩ := h.objs x g ver o hf
    exact ⟨hd, h1, fun hg => (h2 hg).le_same (le_ext he) (fun b _ hlt => he.block b hlt (fun h => h))⟩
  live := fun x ver hd b h1 h2 => ⟨Nat.lt_of_lt_of_le (h.live x ver hd b h1 h2).1 he.size', (h.live x ver hd b h1 h2).2⟩
  inj := h.inj
  tmps := fun t g pv hf hg => let ⟨v, h1, h2⟩ := h.tmps t g pv hf hg; ⟨v, h1, h2.le (le_ext he)⟩
  defers := h.defers
  und := h.und
  exts := fun x hd hx => ⟨(h.exts x hd hx).1, (h.exts x hd hx).2.le (le_ext he)⟩
  dev := fun g ver O stp l hf hg => let ⟨h1, h2, h3⟩ := h.dev g ver O stp l hf hg; ⟨h1, h2, A.dv.grow _ _ _ _ _ h3 (Ext.chg he) (fun _ h => .inl h)⟩
theorem Gam.drew (h : Gam A s a w) : Gam A s a w.drew := let ⟨env, h⟩ := h; ⟨env, h.ext (Ext.refl w).drew⟩
theorem gam_finds (A : Amb) : Finds (Gam A) := fun _ _ _ _ ht ho ⟨env, h⟩ => ⟨env, {
  chg := h.chg, size := h.size, dom := fun x hx => h.dom x ((ho x).trans hx), objs := fun x g ver o hf => h.objs x g ver o ((ho x).trans hf), live := h.live, inj := h.inj
  tmps := fun t g pv hf => h.tmps t g pv ((ht t).trans hf), defers := h.defers, und := fun t pv hf => h.und t pv ((ht t).trans hf), exts := h.exts, dev := fun g ver O stp l hf => h.dev g ver O stp l ((ho dx).trans hf) }⟩

def putS (d : Option Nat) (g : Option Bool) (pv : PV) (s : St) : St := { t := (match d with | some d => (d, g, pv) :: s.t | none => s.t), o := s.o }
theorem GamE.put (h : GamE A s a w env) (d : Option Nat) (g : Option Bool) (pv : PV) (v : Value) (hd : ∀ t, d = some t → t < A.nt) (hv : gT g → RV (ctxOf A w env) pv v) (hu : g = some false → v = undef) :
    GamE A (putS d g pv s) (a.put d v) w env := by
  cases d with
  | none => exact { h with }
  | some d =>
    refine { chg := h.chg, size := by simpa [Act.put] using h.size, dom := h.dom, objs := h.objs, live := h.live, inj := h.inj, tmps := fun t g' pv' hf hg => ?_, defers := h.defers, und := fun t pv' hf => ?_, exts := h.exts, dev := h.dev }
    · have hf : find ((d, g, pv) :: s.t) t = some (g', pv') := hf
      by_cases ht : d = t
      · subst ht
        rw [find_cons_eq] at hf
        cases hf
        refine ⟨v, ?_, hv hg⟩
        have := hd d rfl
        simp [Act.put, h.size, this]
      · rw [find_cons_ne _ _ ht] at hf
        obtain ⟨v', h1, h2⟩ := h.tmps t g' pv' hf hg
        exact ⟨v', by simp only [Act.put]; rw [Array.getElem?_setIfInBounds_ne ht]; exact h1, h2⟩
    · have hf' : find ((d, g, pv) :: s.t) t = some (some false, pv') := hf
      by_cases ht : d = t
      · subst ht
        rw [find_cons_eq] at hf'
        cases hf'
        have := hd d rfl
        rw [hu rfl]
        simp [Act.put, h.size, this]
      · rw [find_cons_ne _ _ ht] at hf'
        simp only [Act.put]
        rw [Array.getElem?_setIfInBounds_ne ht]
        exact h.und t pv' hf'

def updE (env : Env) (x ver : Nat) (hd : Value) : Env := fun y => if y = x then some (ver, hd) else env y
theorem updE_eq (env : Env) (x ver : Nat) (hd : Value) : updE env x ver hd x = some (ver, hd) := if_pos rfl
theorem updE_ne {env : Env} {x ver : Nat} {hd : Value} {y : Nat} (h : y ≠ x) : updE env x ver hd y = env y := if_neg h

/-- An object is made, or written. -/
theorem GamE.upd (h : GamE A s a w env) (x : Nat) (g' : Option Bool) (ver' : Nat) (hd' : Value) (o' : AObj)
    (hw : Chg (fun k => ∃ ver hd, env x = some (ver, hd) ∧ hblk hd = some k) w w')
    (hv : ∀ ver hd, env x = some (ver, hd) → ver < ver' ∨ (ver = ver' ∧ hd' = hd))
    (hb : ∀ b, hblk hd' = some b → b < w'.heap.size ∧ (w.heap.size ≤ b ∨ ∃ ver hd, env x = some (ver, hd) ∧ hblk hd = some b))
    (ho : (ctxOf A w env).Le (ctxOf A w' (updE env x ver' hd')) → gT g' → ObjOk (ctxOf A w' (updE env x ver' hd')) hd' o')
    (hnd : gT g' → ∀ O stp l, o' = .dev O stp l → O = A.dv.O ∧ stp = A.stp ∧ A.dv.inv l (ownB A (updE env x ver' hd')) w' := by intro _ _ _ _ h; cases h) :
    GamE A { s with o := (x, g', ver', o') :: s.o } a w' (updE env x ver' hd') ∧ (ctxOf A w env).Le (ctxOf A w' (updE env x ver' hd')) := by
  have hle : (ctxOf A w env).Le (ctxOf A w' (updE env x ver' hd')) := by
    refine ⟨hw.size, fun b hlt hok => ⟨⟨hok.1, fun y ver hd hy => ?_⟩, ?_⟩, fun y ver hd hy => ?_⟩
    · by_cases hyx : y = x
      · subst hyx
        change updE env y ver' hd' y = some (ver, hd) at hy
        rw [updE_eq] at hy
        cases hy
        intro e
        rcases (hb b e).2 with h1 | ⟨ver, hd, h1, h2⟩
        · have : b < w.heap.size := hlt
          omega
        · exact hok.2 y ver hd h1 h2
      · rw [updE_ne hyx] at hy
        exact hok.2 y ver hd hy
    · exact hw.block b hlt (fun ⟨ver, hd, h1, h2⟩ => hok.2 x ver hd h1 h2)
    · by_cases hyx : y = x
      · subst hyx
        refine ⟨ver', hd', updE_eq _ _ _ _, ?_, fun e => ?_⟩
        · rcases hv ver hd hy with h1 | ⟨h1, _⟩ <;> omega
        · rcases hv ver hd hy with h1 | ⟨_, h2⟩
          · omega
          · exact h2
      · exact ⟨ver, hd, (updE_ne hyx).trans hy, Nat.le_refl _, fun _ => rfl⟩
  refine ⟨?_, hle⟩
  refine { chg := ?_, size := h.size, dom := fun y hy => ?_, objs := fun y g ver o hf => ?_, live := fun y ver hd b hy hbl => ?_, inj := fun y z v1 h1 v2 h2 b hy hz hb1 hb2 => ?_, tmps := fun t g pv hf hg => ?_, defers := h.defers, und := h.und, exts := fun y hd hy => ⟨(h.exts y hd hy).1, (h.exts y hd hy).2.le hle⟩, dev := fun g ver O stp l hf hg => ?_ }
  · refine h.chg.trans' hw (fun _ _ h => h) (fun i hi ⟨ver, hd, h1, h2⟩ => ?_)
    rcases (h.live x ver hd i h1 h2).2 with h3 | h3
    · omega
    · exact h3
  · by_cases hyx : x = y
    · subst hyx; rw [find_cons_eq] at hy; cases hy
    · rw [find_cons_ne _ _ hyx] at hy
      rw [updE_ne (Ne.symm hyx)]
      exact h.dom y hy
  · by_cases hyx : x = y
    · subst hyx
      rw [find_cons_eq] at hf
      cases hf
      exact ⟨hd', updE_eq _ _ _ _, ho hle⟩
    · rw [find_cons_ne _ _ hyx] at hf
      obtain ⟨hd, h1, h2⟩ := h.objs y g ver o hf
      refine ⟨hd, (updE_ne (Ne.symm hyx)).trans h1, fun hg => (h2 hg).le_same hle (fun b hbl hlt => hw.block b hlt (fun ⟨ver2, hd2, h3, h4⟩ => hyx (h.inj x y ver2 hd2 ver hd b h3 h1 h4 hbl)))⟩
  · by_cases hyx : y = x
    · subst hyx
      rw [updE_eq] at hy
      cases hy
      refine ⟨(hb b hbl).1, ?_⟩
      rcases (hb b hbl).2 with h1 | ⟨ver2, hd2, h1, h2⟩
      · exact .inl (Nat.le_trans h.chg.size h1)
      · exact (h.live y ver2 hd2 b h1 h2).2
    · rw [updE_ne hyx] at hy
      exact ⟨Nat.lt_of_lt_of_le (h.live y ver hd b hy hbl).1 hw.size, (h.live y ver hd b hy hbl).2⟩
  · have key : ∀ y v1 h1, y ≠ x → env y = some (v1, h1) → hblk h1 = some b → hblk hd' = some b → False := by
      intro y v1 h1 hyx hy hb1 hb2
      rcases (hb b hb2).2 with h3 | ⟨ver2, hd2, h3, h4⟩
      · have := (h.live y v1 h1 b hy hb1).1; omega
      · exact hyx (h.inj y x v1 h1 ver2 hd2 b hy h3 hb1 h4)
    by_cases hyx : y = x
    · by_cases hzx : z = x
      · rw [hyx, hzx]
      · subst hyx
        rw [updE_eq] at hy
        rw [updE_ne hzx] at hz
        cases hy
        exact (key z v2 h2 hzx hz hb2 hb1).elim
    · by_cases hzx : z = x
      · subst hzx
        rw [updE_eq] at hz
        rw [updE_ne hyx] at hy
        cases hz
        exact (key y v1 h1 hyx hy hb1 hb2).elim
      · rw [updE_ne hyx] at hy
        rw [updE_ne hzx] at hz
        exact h.inj y z v1 h1 v2 h2 b hy hz hb1 hb2
  · obtain ⟨v, h1, h2⟩ := h.tmps t g pv hf hg
    exact ⟨v, h1, h2.le hle⟩
  · by_cases hyx : x = dx
    · subst hyx
      rw [find_cons_eq] at hf
      cases hf
      exact hnd hg O stp l rfl
    · rw [find_cons_ne _ _ hyx] at hf
      obtain ⟨h1, h2, h3⟩ := h.dev g ver O stp l hf hg
      refine ⟨h1, h2, A.dv.grow _ _ _ _ _ h3 (hw.mono fun k _ ⟨ver, hd, e1, e2⟩ => .inr ⟨x, ver, hd, e1, e2⟩) (fun b hb' => ?_)⟩
      rcases hb' with h4 | ⟨y, v2, hd2, h4, h5⟩
      · exact .inl (.inl h4)
      · by_cases hy : y = x
        · subst hy
          rw [updE_eq] at h4
          cases h4
          rcases (hb b h5).2 with h6 | ⟨v3, hd3, h6, h7⟩
          · exact .inr ⟨h6, (hb b h5).1⟩
          · exact .inl (.inr ⟨y, v3, hd3, h6, h7⟩)
        · rw [updE_ne hy] at h4
          exact .inl (.inr ⟨y, v2, hd2, h4, h5⟩)

/-- A new object. -/
theorem GamE.new (h : GamE A s a w env) (x : Nat) (g' : Option Bool) (hd' : Value) (o' : AObj) (hw : Ext w w') (hb : ∀ b, hblk hd' = some b → b < w'.heap.size ∧ w.heap.size ≤ b)
    (ho : (ctxOf A w env).Le (ctxOf A w' (updE env x (fresh s x) hd')) → gT g' → ObjOk (ctxOf A w' (updE env x (fresh s x) hd')) hd' o')
    (hnd : gT g' → ∀ O stp l, o' = .dev O stp l → O = A.dv.O ∧ stp = A.stp ∧ A.dv.inv l (ownB A (updE env x (fresh s x) hd')) w' := by intro _ _ _ _ h; cases h) :
    GamE A { s with o := (x, g', fresh s x, o') :: s.o } a w' (updE env x (fresh s x) hd') ∧ (ctxOf A w env).Le (ctxOf A w' (updE env x (fresh s x) hd')) := by
  refine h.upd x g' (fresh s x) hd' o' hw.chg (fun ver hd he => .inl ?_) (fun b hbl => ⟨(hb b hbl).1, .inl (hb b hbl).2⟩) ho hnd
  unfold fresh
  cases hf : find s.o x with
  | none => rw [h.dom x hf] at he; cases he
  | some p =>
    obtain ⟨g, vr, ob⟩ := p
    obtain ⟨hd2, h1, _⟩ := h.objs x g vr ob hf
    rw [h1] at he
    cases he
    exact Nat.lt_succ_self _

/-! ### An operation that is guarded -/
def appW (d : Option Nat) (g : Option Bool) (v : PV) (wr : List (Nat × Option Bool × Nat × AObj)) (s : St) : St := app d ⟨g, v, [], [], [], wr⟩ s
theorem M.ok_mono : ∀ (m : M) (h0 : Option Bool) (s : St) (F G : Option Bool → PV → Wr → Prop), m.ok h0 s F → (∀ g v wr, F g v wr → G g v wr) → m.ok h0 s G := by
  intro m
  induction m with
  | ret v => intro h0 s F G h hm; exact hm _ _ _ h
  | fail => intro h0 s F G h hm; exact h
  | need p k ih => intro h0 s F G h hm; exact ⟨h.1, ih _ _ _ _ h.2 hm⟩
  | tmp t k ih => intro h0 s F G h hm; obtain ⟨g, v, h1, h⟩ := h; exact ⟨g, v, h1, ih _ _ _ _ _ _ h hm⟩
  | obj x k ih => intro h0 s F G h hm; obtain ⟨g, vr, ob, h1, h⟩ := h; exact ⟨g, vr, ob, h1, ih _ _ _ _ _ _ _ h hm⟩
  | new x ob k ih => intro h0 s F G h hm; exact ih _ _ _ _ _ h (fun _ _ _ h => hm _ _ _ h)
  | upd x vr ob k ih => intro h0 s F G h hm; exact ⟨h.1, ih _ _ _ _ h.2 (fun _ _ _ h => hm _ _ _ h)⟩
  | gate b k ih => intro h0 s F G h hm; exact ⟨h.1, ih _ _ _ _ h.2 hm⟩
theorem gate_false : ∀ (m : M) (s : St) (F : Option Bool → PV → Wr → Prop), m.ok (some false) s F → ∃ v wr, F (some false) v wr ∧ ∀ p ∈ wr, ∃ ob, p = (p.1, some false, fresh s p.1, ob) := by
  intro m
  induction m with
  | ret v => intro s F h; exact ⟨v, [], h, fun p hp => by cases hp⟩
  | fail => intro s F h; exact h.elim
  | need p k ih => intro s F h; exact ih s F h.2
  | tmp t k ih => intro s F h; obtain ⟨g, v, _, h⟩ := h; exact ih g v s F h
  | obj x k ih => intro s F h; obtain ⟨g, vr, ob, _, h⟩ := h; exact ih g vr ob s F h
  | new x ob k ih =>
    intro s F h
    obtain ⟨v, wr, h1, h2⟩ := ih _ s _ h
    exact ⟨v, _, h1, fun p hp => by
      rcases List.mem_cons.1 hp with rfl | hp
      · exact ⟨ob, rfl⟩
      · exact h2 p hp⟩
  | upd x vr ob k ih => intro s F h; cases h.1
  | gate b k ih => intro s F h; cases h.1
def gateW (wr : Wr) : Wr := wr.map fun p => (p.1, some true, p.2.2)
theorem gate_true : ∀ (m : M) (s : St) (F : Option Bool → PV → Wr → Prop), m.ok (some true) s F → m.ok none s (fun g v wr => g = none ∧ (∀ p ∈ wr, p.2.1 = none) ∧ F (some true) v (gateW wr)) := by
  intro m
  induction m with
  | ret v => intro s F h; exact ⟨rfl, fun p hp => (by cases hp), h⟩
  | fail => intro s F h; exact h.elim
  | need p k ih => intro s F h; exact ⟨h.1 rfl, ih s F h.2⟩
  | tmp t k ih => intro s F h; obtain ⟨g, v, h0, h⟩ := h; exact ⟨g, v, h0, ih g v s F h⟩
  | obj x k ih => intro s F h; obtain ⟨g, vr, ob, h0, h⟩ := h; exact ⟨g, vr, ob, h0, ih g vr ob s F h⟩
  | new x ob k ih =>
    intro s F h
    show (k (fresh s x)).ok none s _
    refine M.ok_mono (k (fresh s x)) none s _ _ (ih _ s _ h) (fun g v wr h => ⟨h.1, fun p hp => ?_, h.2.2⟩)
    rcases List.mem_cons.1 hp with rfl | hp
    · rfl
    · exact h.2.1 p hp
  | upd x vr ob k ih => intro s F h; cases h.1
  | gate b k ih => intro s F h; cases h.1
/-- What is written under a guard that does not hold. -/
theorem GamE.vain : ∀ (wr : List (Nat × Option Bool × Nat × AObj)) (s : St) (env : Env), GamE A s a w env → (∀ p ∈ wr, ∃ ob, p = (p.1, some false, fresh s p.1, ob)) → ∃ env', GamE A { s with o := wr ++ s.o } a w env' := by
  intro wr
  induction wr with
  | nil => intro s env h _; exact ⟨env, h⟩
  | cons p wr ih =>
    intro s env h hp
    obtain ⟨env', h'⟩ := ih s env h (fun q hq => hp q (List.mem_cons_of_mem _ hq))
    obtain ⟨ob, e⟩ := hp p List.mem_cons_self
    rw [e]
    have hfr : ∀ ver hd, env' p.1 = some (ver, hd) → ver ≤ fresh s p.1 := by
      intro ver hd he
      cases hf : find (wr ++ s.o) p.1 with
      | none => rw [h'.dom p.1 hf] at he; cases he
      | some z =>
        obtain ⟨g, vr, o2⟩ := z
        obtain ⟨hd2, h1, _⟩ := h'.objs p.1 g vr o2 hf
        rw [h1] at he
        cases he
        by_cases hin : ∃ q ∈ wr, q.1 = p.1
        · have : ∀ (l : List (Nat × Option Bool × Nat × AObj)), (∀ q ∈ l, ∃ ob, q = (q.1, some false, fresh s q.1, ob)) → (∃ q ∈ l, q.1 = p.1) → ∀ z, find (l ++ s.o) p.1 = some z → z.2.1 = fresh s p.1 := by
            intro l
            induction l with
            | nil => intro _ h; obtain ⟨q, hq, _⟩ := h; cases hq
            | cons q l ih2 =>
              intro hl hex z hz
              obtain ⟨ob2, e2⟩ := hl q List.mem_cons_self
              by_cases hq : q.1 = p.1
              · rw [List.cons_append, e2, hq, find_cons_eq] at hz
                cases hz
                rfl
              · rw [List.cons_append, e2, find_cons_ne _ _ hq] at hz
                refine ih2 (fun q hq => hl q (List.mem_cons_of_mem _ hq)) ?_ z hz
                obtain ⟨q2, hq2, e3⟩ := hex
                rcases List.mem_cons.1 hq2 with rfl | hq2
                · exact absurd e3 hq
                · exact ⟨q2, hq2, e3⟩
          have h3 := this wr (fun q hq => hp q (List.mem_cons_of_mem _ hq)) hin _ hf
          exact Nat.le_of_eq h3
        · rw [find_append_none _ _ (fun q hq e => hin ⟨q, hq, e⟩)] at hf
          unfold fresh
          rw [hf]
          exact Nat.le_succ _
    have hle2 := hfr
    by_cases hs : ∃ hd, env' p.1 = some (fresh s p.1, hd)
    · obtain ⟨hd, hhd⟩ := hs
      exact ⟨_, (h'.upd p.1 (some false) (fresh s p.1) hd ob (Chg.refl _ _) (fun ver hd2 he => by rw [hhd] at he; cases he; exact .inr ⟨rfl, rfl⟩) (fun b hb => ⟨(h'.live _ _ _ _ hhd hb).1, .inr ⟨_, _, hhd, hb⟩⟩) (fun _ hg => absurd hg (by simp [gT])) (fun hg => absurd hg (by simp [gT]))).1⟩
    · exact ⟨_, (h'.upd p.1 (some false) (fresh s p.1) undef ob (Chg.refl _ _) (fun ver hd2 he => .inl (by
        have := hfr ver hd2 he
        rcases Nat.lt_or_eq_of_le this with h1 | h1
        · exact h1
        · exact absurd ⟨hd2, by rw [he, h1]⟩ hs)) (fun b hb => by simp [hblk, undef] at hb) (fun _ hg => absurd hg (by simp [gT])) (fun hg => absurd hg (by simp [gT]))).1⟩
theorem find_gateW (l r : List (Nat × Option Bool × Nat × AObj)) (x : Nat) : find (gateW l ++ r) x = find (l ++ r) x ∨ ∃ g q, find (l ++ r) x = some (g, q) ∧ find (gateW l ++ r) x = some (some true, q) := by
  induction l with
  | nil => exact .inl rfl
  | cons p l ih =>
    by_cases hp : p.1 = x
    · refine .inr ⟨p.2.1, p.2.2, ?_, ?_⟩
      · rw [← hp]; exact find_cons_eq _ _ _
      · rw [← hp]; exact find_cons_eq _ _ _
    · have e1 : find (p :: l ++ r) x = find (l ++ r) x := find_cons_ne _ _ hp
      have e2 : find (gateW (p :: l) ++ r) x = find (gateW l ++ r) x := find_cons_ne _ _ hp
      rw [e1, e2]
      exact ih
theorem Gam.gated {d : Option Nat} {v : PV} {wr : Wr} (hwr : ∀ p ∈ wr, p.2.1 = none) (h : Gam A (appW d none v wr s) a w) : Gam A (appW d (some true) v (gateW wr) s) a w := by
  obtain ⟨env, h⟩ := h
  have key : ∀ (x : Nat) (g : Option Bool) (ver : Nat) (o : AObj) (l : Wr), (∀ p ∈ l, p.2.1 = none) → find (gateW l ++ s.o) x = some (g, ver, o) → find (l ++ s.o) x = some (g, ver, o) ∨ (g = some true ∧ find (l ++ s.o) x = some (none, ver, o)) := by
    intro x g ver o l
    induction l with
    | nil => intro _ hl; exact .inl hl
    | cons p l ih =>
      intro hp hl
      by_cases hx : p.1 = x
      · have e1 : find (gateW (p :: l) ++ s.o) x = some (some true, p.2.2) := by rw [← hx]; exact find_cons_eq _ _ _
        have e2 : find (p :: l ++ s.o) x = some p.2 := by rw [← hx]; exact find_cons_eq _ _ _
        rw [e1] at hl
        rw [e2]
        have h0 := hp p List.mem_cons_self
        obtain ⟨x', g', vr, ob⟩ := p
        cases hl
        dsimp only at h0
        subst h0
        exact .inr ⟨rfl, rfl⟩
      · have e1 : find (gateW (p :: l) ++ s.o) x = find (gateW l ++ s.o) x := find_cons_ne _ _ hx
        have e2 : find (p :: l ++ s.o) x = find (l ++ s.o) x := find_cons_ne _ _ hx
        rw [e1] at hl
        rw [e2]
        exact ih (fun q hq => hp q (List.mem_cons_of_mem _ hq)) hl
  refine ⟨env, { chg := h.chg, size := h.size, dom := fun x hx => ?_, objs := fun x g ver o hf => ?_, live := h.live, inj := h.inj, tmps := fun t g pv hf hg => ?_, defers := h.defers, und := fun t pv hf => ?_, exts := h.exts, dev := fun g ver O stp l hf hg => ?_ }⟩
  · refine h.dom x ?_
    rcases find_gateW wr s.o x with e | ⟨g, q, _, e2⟩
    · exact e.symm.trans hx
    · have : find (gateW wr ++ s.o) x = none := hx
      rw [e2] at this; cases this
  · have hf' : find (gateW wr ++ s.o) x = some (g, ver, o) := hf
    rcases key x g ver o wr hwr hf' with e | ⟨rfl, e⟩
    · exact h.objs x g ver o e
    · obtain ⟨hd, h1, h2⟩ := h.objs x none ver o e
      exact ⟨hd, h1, fun _ => h2 trivial⟩
  · cases d with
    | none => exact h.tmps t g pv hf hg
    | some d =>
      by_cases hdt : d = t
      · subst hdt
        have e1 : find (appW (some d) (some true) v (gateW wr) s).t d = some (some true, v) := find_cons_eq _ _ _
        have e2 : find (appW (some d) none v wr s).t d = some (none, v) := find_cons_eq _ _ _
        rw [e1] at hf
        cases hf
        exact h.tmps d none v e2 trivial
      · have e1 : find (appW (some d) (some true) v (gateW wr) s).t t = find s.t t := find_cons_ne _ _ hdt
        have e2 : find (appW (some d) none v wr s).t t = find s.t t := find_cons_ne _ _ hdt
        rw [e1] at hf
        exact h.tmps t g pv (e2.trans hf) hg
  · cases d with
    | none => exact h.und t pv hf
    | some d =>
      by_cases hdt : d = t
      · subst hdt
        have e1 : find (appW (some d) (some true) v (gateW wr) s).t d = some (some true, v) := find_cons_eq _ _ _
        rw [e1] at hf
        cases hf
      · have e1 : find (appW (some d) (some true) v (gateW wr) s).t t = find s.t t := find_cons_ne _ _ hdt
        have e2 : find (appW (some d) none v wr s).t t = find s.t t := find_cons_ne _ _ hdt
        rw [e1] at hf
        exact h.und t pv (e2.trans hf)
  · rcases key dx g ver (.dev O stp l) wr hwr hf with e | ⟨rfl, e⟩
    · exact h.dev g ver O stp l e hg
    · exact h.dev none ver O stp l e trivial
/-- The device is asked. -/
theorem GamE.asked (h : GamE A s a w env) {O : List Acc → Option Res} {stp : List Acc → Prop} {l l' : List Acc} {g : Option Bool} (hf : find s.o dx = some (g, 0, .dev O stp l)) (hg : gT g) (sub : ∀ b, A.dv.S b → A.S b) (old : ∀ b, A.dv.S b → b < A.w0.heap.size ∧ ¬ A.ok0 b)
    (hw : Chg A.dv.S w w') (hi : A.dv.inv l' (ownB A env) w') : GamE A { s with o := (dx, none, 0, .dev O stp l') :: s.o } a w' env ∧ (ctxOf A w env).Le (ctxOf A w' env) := by
  obtain ⟨hO, hstp, hinv⟩ := h.dev g 0 O stp l hf hg
  have hle : (ctxOf A w env).Le (ctxOf A w' env) := ⟨hw.size, fun b hlt hok => ⟨hok, hw.block b hlt (fun hs => by
    rcases hok.1 with h1 | h1
    · exact (old b hs).2 h1
    · have := (old b hs).1; omega)⟩, fun x ver hd hx => ⟨ver, hd, hx, Nat.le_refl _, fun _ => rfl⟩⟩
  refine ⟨{ chg := h.chg.trans (hw.mono fun b _ hs => sub b hs), size := h.size, dom := fun x hx => ?_, objs := fun x g' ver o hf' => ?_, live := fun x ver hd b h1 h2 => ⟨Nat.lt_of_lt_of_le (h.live x ver hd b h1 h2).1 hw.size, (h.live x ver hd b h1 h2).2⟩, inj := h.inj, tmps := fun t g pv hf hg => let ⟨v, h1, h2⟩ := h.tmps t g pv hf hg; ⟨v, h1, h2.le hle⟩, defers := h.defers, und := h.und, exts := fun y hd hy => ⟨(h.exts y hd hy).1, (h.exts y hd hy).2.le hle⟩, dev := fun g' ver O' stp' l2 hf' hg' => ?_ }, hle⟩
  · by_cases hx' : dx = x
    · subst hx'; rw [find_cons_eq] at hx; cases hx
    · rw [find_cons_ne _ _ hx'] at hx; exact h.dom x hx
  · by_cases hx' : dx = x
    · subst hx'
      rw [find_cons_eq] at hf'
      cases hf'
      obtain ⟨hd, h1, _⟩ := h.objs dx g 0 _ hf
      exact ⟨hd, h1, fun _ => trivial⟩
    · rw [find_cons_ne _ _ hx'] at hf'
      obtain ⟨hd, h1, h2⟩ := h.objs x g' ver o hf'
      exact ⟨hd, h1, fun hg => (h2 hg).le_same hle (fun b hbl hlt => hw.block b hlt (A.dv.notS _ _ _ _ hinv (.inr ⟨x, ver, hd, h1, hbl⟩)))⟩
  · rw [find_cons_eq] at hf'
    cases hf'
    exact ⟨hO, hstp, hi⟩
end

end Go.Proofs.YtgndblhpfjkfhaaDoor.Pv

/-
  The abstract machine: what each operation does. Plain: no function of the program is named here.
-/
namespace Go.Proofs.YtgndblhpfjkfhaaDoor.Pv
open Go.RowKit

abbrev lit1 (v : Value) : PV := .w (.one (.lit v))
abbrev pvI (n : Int) : PV := .w (.one (.lit (.int .i64 n)))
abbrev pvB (b : Bool) : PV := .w (.one (.lit (.bool b)))
abbrev pv1 (c : PC) : PV := .w (.one c)
def PW.cells : PW → List PC
  | .one c => [c]
  | .agg l => l

def appF (len : Nat) (f f' : Nat → List PC) : Nat → List PC := fun i => if i < len then f i else f' (i - len)
/-! ### Rows of bytes -/
def byF (l : List UInt8) : Nat → List PC := fun i => [.lit (u8w (l.getD i 0))]
def byteAt : List PC → UInt8
  | [.lit (.int _ n)] => UInt8.ofNat n.toNat
  | _ => 0
def isByte : List PC → Bool
  | [.lit (.int .u8 n)] => decide (0 ≤ n) && decide (n < 256)
  | _ => false
/-- The bytes of a row. -/
def rowB (len : Nat) (f : Nat → List PC) : List UInt8 := (List.range len).map fun i => byteAt (f i)
def IsRow (len : Nat) (f : Nat → List PC) : Prop := ∀ i, i < len → isByte (f i) = true
theorem isByte_ok {l : List PC} (h : isByte l = true) : l = [.lit (u8w (byteAt l))] := by
  unfold isByte at h
  split at h
  · rename_i n
    rw [Bool.and_eq_true, decide_eq_true_eq, decide_eq_true_eq] at h
    have : u8w (byteAt [.lit (.int .u8 n)]) = .int .u8 n := by
      show Value.int .u8 (((UInt8.ofNat n.toNat).toNat : Nat) : Int) = .int .u8 n
      rw [UInt8.toNat_ofNat_of_lt' (show n.toNat < 256 by omega)]
      congr 1; omega
    rw [this]
  · cases h
theorem u8_back (b : UInt8) : UInt8.ofNat ((b.toNat : Int)).toNat = b := by simp
theorem byteAt_byF (l : List UInt8) (i : Nat) : byteAt (byF l i) = l.getD i 0 := u8_back _
theorem isByte_byF (l : List UInt8) (i : Nat) : isByte (byF l i) = true := by
  show (decide (0 ≤ (((l.getD i 0).toNat : Nat) : Int)) && decide ((((l.getD i 0).toNat : Nat) : Int) < 256)) = true
  have := (l.getD i 0).toNat_lt
  rw [Bool.and_eq_true, decide_eq_true_eq, decide_eq_true_eq]
  omega
@[simp] theorem isRow_byF (n : Nat) (l : List UInt8) : IsRow n (byF l) := fun i _ => isByte_byF l i
theorem rowB_length (n : Nat) (f : Nat → List PC) : (rowB n f).length = n := by simp [rowB]
@[simp] theorem rowB_byF (l : List UInt8) : rowB l.length (byF l) = l := by
  apply List.ext_getElem (rowB_length _ _)
  intro i h1 h2
  simp only [rowB, List.getElem_map, List.getElem_range, byteAt_byF]
  rw [List.getD_eq_getElem?_getD, List.getElem?_eq_getElem h2]
  rfl
theorem rowB_byF' {n : Nat} {l : List UInt8} (h : l.length = n) : rowB n (byF l) = l := by subst h; exact rowB_byF l
@[simp] theorem isRow_app {a b : Nat} {f g : Nat → List PC} : IsRow (a + b) (appF a f g) ↔ IsRow a f ∧ IsRow b g := by
  constructor
  · intro h
    refine ⟨fun i hi => ?_, fun i hi => ?_⟩
    · have := h i (by omega)
      unfold appF at this
      rwa [if_pos hi] at this
    · have := h (a + i) (by omega)
      unfold appF at this
      rwa [if_neg (by omega), show a + i - a = i from by omega] at this
  · rintro ⟨h1, h2⟩ i hi
    unfold appF
    split
    · exact h1 i (by assumption)
    · exact h2 _ (by omega)
@[simp] theorem rowB_app (a b : Nat) (f g : Nat → List PC) : rowB (a + b) (appF a f g) = rowB a f ++ rowB b g := by
  apply List.ext_getElem (by simp [rowB_length])
  intro i h1 h2
  rw [List.getElem_append]
  simp only [rowB, List.getElem_map, List.getElem_range, List.length_map, List.length_range]
  unfold appF
  split <;> rfl
theorem row_cells {C : Ctx} {len : Nat} {f : Nat → List PC} {vs : List Value} (hl : vs.length = len * 1) (h : ∀ i, i < len → RL C (f i) ((vs.drop (i * 1)).take 1)) (hb : IsRow len f) : vs = (rowB len f).map u8w := by
  apply List.ext_getElem (by simp [rowB_length, hl])
  intro i h1 h2
  have hi : i < len := by omega
  have h3 := h i hi
  rw [isByte_ok (hb i hi)] at h3
  have h4 := h3.single
  generalize hq : (vs.drop (i * 1)).take 1 = q at h4
  cases h4
  have h5 := congrArg (·[0]?) hq
  simp only [List.getElem?_take, List.getElem?_drop, Nat.mul_one, Nat.add_zero, List.getElem?_cons_zero] at h5
  rw [if_pos (by omega), List.getElem?_eq_getElem h1] at h5
  simp only [rowB, List.map_map, List.getElem_map, List.getElem_range, Function.comp]
  exact Option.some.inj h5
section
variable (P : Program)
def szOf (t : TypeId) : Option Nat := (P.info? t).map (·.size)
def isRowTy (t : TypeId) : Option Bool := match P.underlying t with
  | some (.struct _) => some true
  | some (.array _ _) => some true
  | some _ => some false
  | none => none
def mkW (t : TypeId) (l : List PC) : Option PW := match isRowTy P t with
  | none => none
  | some true => some (.agg l)
  | some false => match l with
    | [c] => (match Nat.beq c.width 1 with
      | true => some (.one c)
      | false => none)
    | _ => none
/-- The shape of a type: how many bytes the next part has, 0 for a part of one cell. -/
def shapeOf : Nat → TypeId → Option (List Nat)
  | 0, _ => none
  | d + 1, t => match P.underlying t with
    | some (.struct fs) => fs.toList.foldr (fun f acc => match shapeOf d f.type, acc with | some x, some y => some (x ++ y) | _, _ => none) (some [])
    | some (.array n e) => (match P.underlying e with
      | some (.int .u8) => some [n]
      | _ => match shapeOf d e with
        | some x => some (List.flatten (List.replicate n x))
        | none => none)
    | some _ => some [0]
    | none => none
def byteOf : Value → Option UInt8
  | .int .u8 n => if n = ((UInt8.ofNat n.toNat).toNat : Int) then some (UInt8.ofNat n.toNat) else none
  | _ => none
def bytesOfCells : Nat → List Value → Option (List UInt8)
  | 0, _ => some []
  | n + 1, v :: l => match byteOf v, bytesOfCells n l with
    | some b, some bs => some (b :: bs)
    | _, _ => none
  | _ + 1, [] => none
/-- Cells without addresses, in the shape of a type. -/
def pack : List Nat → List Value → Option (List PC)
  | [], [] => some []
  | [], _ :: _ => none
  | 0 :: sh, v :: l => if v.oneCell' = true then (match pack sh l with | some r => some (.lit v :: r) | none => none) else none
  | 0 :: _, [] => none
  | (n + 1) :: sh, l => match bytesOfCells (n + 1) l, pack sh (l.drop (n + 1)) with
    | some bs, some r => some (.bs (n + 1) bs :: r)
    | _, _ => none
def zeroPC (t : TypeId) : Option (List PC) := match (P.info? t).bind (·.zero), shapeOf P 8 t with
  | some z, some sh => pack sh z.cells.toList
  | _, _ => none
/-- The parts from cell off on, replaced. -/
def splice : List PC → Nat → List PC → Option (List PC)
  | l, 0, m => match dropW l (widths m) with
    | some r => some (m ++ r)
    | none => none
  | [], _ + 1, _ => none
  | c :: l, off + 1, m => if c.width ≤ off + 1 then (match splice l (off + 1 - c.width) m with | some r => some (c :: r) | none => none) else none
where
  dropW : List PC → Nat → Option (List PC)
    | l, 0 => some l
    | [], _ + 1 => none
    | c :: l, n + 1 => if c.width ≤ n + 1 then dropW l (n + 1 - c.width) else none
/-- The bytes of the array that begins at cell off. -/
def bsAt : List PC → Nat → Option (Nat × List UInt8)
  | .bs n l :: _, 0 => some (n, l)
  | _, 0 => none
  | [], _ + 1 => none
  | c :: l, off + 1 => if c.width ≤ off + 1 then bsAt l (off + 1 - c.width) else none
def setBs : List PC → Nat → List UInt8 → List PC
  | .bs n _ :: l, 0, m => .bs n m :: l
  | l, 0, _ => l
  | [], _ + 1, _ => []
  | c :: l, off + 1, m => c :: setBs l (off + 1 - c.width) m

/-- A slice type: its element type, the element's cells and bytes. -/
def slTyOf (t : TypeId) : Option (Nat × Nat × Nat) := match P.underlying t with
  | some (.slice e) => (match P.info? e with
    | some i => (match i.zero with
      | some z => (match Nat.beq z.cells.size i.size, Nat.blt 0 i.size, Nat.blt 0 i.bytes with
        | true, true, true => some (e, i.size, i.bytes)
        | _, _, _ => none)
      | none => none)
    | none => none)
  | _ => none

/-! ### Operands -/
def evO (x : Operand) (k : PV → M) : M := match x with
  | .tmp t => .tmp t fun g v => match g with
    | none => k v
    | some b => .need (b = true) (k v)
  | .const (.agg _) => .fail
  | .const (.tuple _) => .fail
  | .const v => k (lit1 v)
  | .global g => k (lit1 (.pointer (some ⟨g, 0, none⟩)))
  | .func f => k (lit1 (.func (.func f) #[] #[]))
/-- An operand that is looked at only if h. -/
def evIf (h : Prop) (x : Operand) (k : PV → M) : M := match x with
  | .tmp t => .tmp t fun g v => match g with
    | none => k v
    | some b => .need (h → b = true) (k v)
  | .const (.agg _) => .fail
  | .const (.tuple _) => .fail
  | .const v => k (lit1 v)
  | .global g => k (lit1 (.pointer (some ⟨g, 0, none⟩)))
  | .func f => k (lit1 (.func (.func f) #[] #[]))
def evAll : List Operand → (List PV → M) → M
  | [], k => k []
  | x :: l, k => evO x fun v => evAll l fun vs => k (v :: vs)
/-- A run that looks at nothing but the program. -/
def pureRun {α : Type} : Sem α → Option α
  | .pure v => some v
  | .program k => pureRun (k P)
  | _ => none
def isLit : PV → Option Value
  | .w (.one (.lit v)) => some v
  | _ => none
def isPure : Op → Bool
  | .binOp .shl _ _ _ _ => false
  | .binOp .shr _ _ _ _ => false
  | .binOp .quo _ _ _ _ => false
  | .binOp .rem _ _ _ _ => false
  | .binOp _ _ _ _ _ => true
  | .unOp _ _ _ => true
  | .convert _ _ _ => true
  | _ => false
def nextVal : Next → Option Value
  | .value v => if v.oneCell' = true then some v else none
  | _ => none

def guardT (g : Option Bool) (k : M) : M := match g with
  | none => k
  | some b => .need (b = true) k
/-- What a function does, in words of the machine: name of new objects, arguments. -/
abbrev Spec := Nat → List PV → M
abbrev Specs := Nat → Option Spec

def retW (x : Option PW) : M := match x with
  | some x => .ret (.w x)
  | none => .fail
def retV (x : Option Value) : M := match x with
  | some v => (match v.oneCell' with
    | true => .ret (lit1 v)
    | false => .fail)
  | none => .fail

/-! ### Memory -/
def withW (x : Option PW) (k : PW → M) : M := match x with
  | some x => k x
  | none => .fail
def loadK (t : TypeId) (p : PV) (k : PW → M) : M := match p with
  | .w (.one (.pt x ver off)) => .obj x fun g vr ob => guardT g (match Nat.beq ver vr, ob, szOf P t with
    | true, .box _ l, some n => (match subPC l off n with
      | some m => withW (mkW P t m) k
      | none => .fail)
    | _, _, _ => .fail)
  | .w (.one (.pk x ver off kk)) => .obj x fun g vr ob => guardT g (match Nat.beq ver vr, ob, isRowTy P t with
    | true, .box _ l, some false => (match bsAt l off with
      | some (n, bs) => .need (kk < n) (k (.one (.lit (u8w (bs.getD kk 0)))))
      | none => .fail)
    | _, _, _ => .fail)
  | .w (.one (.pe x ver n i j)) => .obj x fun g vr ob => guardT g (match Nat.beq ver vr, ob, szOf P t with
    | true, .arr _ n' len f, some sz => (match Nat.beq n n', subPC (f i) j sz with
      | true, some m => .need (i < len) (withW (mkW P t m) k)
      | _, _ => .fail)
    | _, _, _ => .fail)
  | .w (.one (.pf _ _ f i j)) => (match szOf P t with
    | some sz => (match subPC (f i) j sz with
      | some m => withW (mkW P t m) k
      | none => .fail)
    | none => .fail)
  | .w (.one (.pa len f)) => (match P.underlying t with
    | some (.array n e) => (match szOf P t, szOf P e with
      | some m, some 1 => (match Nat.beq m n with
        | true => .need (n ≤ len ∧ IsRow n f) (withW (mkW P t [.bs n (rowB n f)]) k)
        | false => .fail)
      | _, _ => .fail)
    | _ => .fail)
  | _ => .fail
def loadM (t : TypeId) (p : PV) : M := loadK P t p fun x => .ret (.w x)
def storeM (t : TypeId) (p v : PV) : M := match v with
  | .w pw => (match szOf P t with
    | some sz => (match Nat.beq sz (widths pw.cells) with
      | true => (match p with
        | .w (.one (.pt x ver off)) => .obj x fun g vr ob => guardT g (match Nat.beq ver vr, ob with
          | true, .box bt l => (match splice l off pw.cells with
            | some l' => .upd x vr (.box bt l') (.ret .none)
            | none => .fail)
          | _, _ => .fail)
        | .w (.one (.pk x ver off k)) => .obj x fun g vr ob => guardT g (match Nat.beq ver vr, ob, pw with
          | true, .box bt l, .one (.lit (.int .u8 b)) => (match bsAt l off with
            | some (n, bs) => .need (k < n ∧ 0 ≤ b ∧ b < 256) (.upd x vr (.box bt (setBs l off (bs.set k (UInt8.ofNat b.toNat)))) (.ret .none))
            | none => .fail)
          | _, _, _ => .fail)
        | .w (.one (.pe x ver n i j)) => .obj x fun g vr ob => guardT g (match Nat.beq ver vr, ob with
          | true, .arr e n' len f => (match Nat.beq n n', splice (f i) j pw.cells with
            | true, some m => .need (i < len) (.upd x vr (.arr e n len (fun i' => if i' = i then m else f i')) (.ret .none))
            | _, _ => .fail)
          | _, _ => .fail)
        | _ => .fail)
      | false => .fail)
    | none => .fail)
  | _ => .fail
def fieldAddrM (t : TypeId) (p : PV) (f : Nat) : M := match P.underlying t with
  | some (.struct fs) => (match fs[f]? with
    | some fd => (match szOf P fd.type with
      | some (_ + 1) => (match p with
        | .w (.one (.pt x ver off)) => .ret (pv1 (.pt x ver (off + fd.offset)))
        | .w (.one (.pe x ver n i j)) => .ret (pv1 (.pe x ver n i (j + fd.offset)))
        | .w (.one (.pf n len f i j)) => .ret (pv1 (.pf n len f i (j + fd.offset)))
        | _ => .fail)
      | _ => .fail)
    | none => .fail)
  | _ => .fail
def indexAddrM (t : TypeId) (p : PV) (i : PV) : M := match isLit i with
  | some (.int _ i) => (match P.underlying t with
    | some (.slice e) => (match p with
      | .w (.one (.sl n len f)) => (match szOf P e with
        | some n' => (match Nat.beq n n' with
          | true => .need (0 ≤ i ∧ i < len) (.ret (pv1 (.pf n len f i.toNat 0)))
          | false => .fail)
        | none => .fail)
      | .w (.one (.ow x ver n off len)) => (match szOf P e with
        | some n' => (match Nat.beq n n' with
          | true => .obj x fun g vr ob => guardT g (match Nat.beq ver vr, ob with
            | true, .arr _ _ _ _ => .need (0 ≤ i ∧ i < len) (.ret (pv1 (.pe x ver n (off + i.toNat) 0)))
            | _, _ => .fail)
          | false => .fail)
        | none => .fail)
      | _ => .fail)
    | some (.array n e) => (match szOf P e, p with
      | some 1, .w (.one (.pt x ver off)) => .need (0 ≤ i ∧ i < n) (.ret (pv1 (.pk x ver off i.toNat)))
      | _, _ => .fail)
    | _ => .fail)
  | _ => .fail
def fieldM (t : TypeId) (v : PV) (f : Nat) : M := match P.underlying t with
  | some (.struct fs) => (match fs[f]? with
    | some fd => (match szOf P fd.type, v with
      | some n, .w (.agg l) => (match subPC l fd.offset n with
        | some m => retW (mkW P fd.type m)
        | none => .fail)
      | _, _ => .fail)
    | none => .fail)
  | _ => .fail
def fillPC : List (Nat × Nat) → List (Nat × PV) → List PC → Option (List PC)
  | _, [], l => some l
  | places, (i, v) :: ps, l => match v, places[i]? with
    | .w pw, some (off, n) => (match Nat.beq n (widths pw.cells), splice l off pw.cells with
      | true, some l' => fillPC places ps l'
      | _, _ => none)
    | _, _ => none
def buildM (t : TypeId) (vs : List (Nat × PV)) (l : List PC) : M := match P.underlying t with
  | some (.struct fs) => (match fs.toList.mapM (fun f => (P.info? f.type).map fun i => (f.offset, i.size)) with
    | some places => (match fillPC places vs l with
      | some l' => .ret (.w (.agg l'))
      | none => .fail)
    | none => .fail)
  | some (.array _ e) => (match szOf P e, l with
    | some 1, [.bs n bs] => (match vs with
      | [] => .ret (.w (.agg [.bs n bs]))
      | [(i, .w (.one (.lit (.int .u8 b))))] => .need (i < n ∧ 0 ≤ b ∧ b < 256) (.ret (.w (.agg [.bs n (bs.set i (UInt8.ofNat b.toNat))])))
      | [(i, .w (.one (.lit (.int .u8 b)))), (j, .w (.one (.lit (.int .u8 c))))] => .need (i < n ∧ j < n ∧ 0 ≤ b ∧ b < 256 ∧ 0 ≤ c ∧ c < 256) (.ret (.w (.agg [.bs n ((bs.set i (UInt8.ofNat b.toNat)).set j (UInt8.ofNat c.toNat))])))
      | _ => .fail)
    | _, _ => .fail)
  | _ => .fail
/-- The parts of a slice literal: all of them, in order. -/
def partsM (n : Nat) : Nat → List (Nat × PV) → Option (List (List PC))
  | _, [] => some []
  | k, (i, v) :: ps => match Nat.beq i k, v, partsM n (k + 1) ps with
    | true, .w pw, some r => (match Nat.beq (widths pw.cells) n with
      | true => some (pw.cells :: r)
      | false => none)
    | _, _, _ => none
def buildSliceM (nm : Nat) (t : TypeId) (len : Nat) (ps : List (Nat × PV)) : M := match slTyOf P t with
  | some (e, n, _) => (match partsM n 0 ps, Nat.beq ps.length len, Nat.ble (len * n) 16777216 with
      | some l, true, true => .new nm (.arr e n len (fun i => l.getD i [])) fun v => .ret (pv1 (.ow nm v n 0 len))
      | _, _, _ => .fail)
  | none => .fail
def bndM (d : Int) (x : Option PV) (k : Int → M) : M := match x with
  | none => k d
  | some v => (match isLit v with
    | some (.int _ i) => k i
    | _ => .fail)
def sliceM (t : TypeId) (p : PV) (lo hi : Option PV) : M :=
  match P.underlying t with
  | some (.slice e) => (match p with
    | .w (.one (.sl n len f)) => (match szOf P e with
      | some n' => (match Nat.beq n n' with
        | true => bndM 0 lo fun l => bndM len hi fun h => .need (0 ≤ l ∧ l ≤ h ∧ h ≤ len) (.ret (pv1 (.sl n (h - l).toNat (fun i => f (l.toNat + i)))))
        | false => .fail)
      | none => .fail)
    | _ => .fail)
  | some (.array n e) => (match szOf P e, p, lo, hi with
    | some 1, .w (.one (.pt x ver off)), none, none => .obj x fun g vr ob => guardT g (match Nat.beq ver vr, ob with
      | true, .box _ l => (match bsAt l off with
        | some (m, _) => (match Nat.beq m n, Nat.ble n 65536 with
          | true, true => .ret (pv1 (.ob x ver off n))
          | _, _ => .fail)
        | none => .fail)
      | _, _ => .fail)
    | _, _, _, _ => .fail)
  | _ => .fail
def lenM (t : TypeId) (v : PV) : M := match P.underlying t, v with
  | some (.slice _), .w (.one (.sl _ len _)) => .ret (pvI len)
  | some (.slice _), .w (.one (.ow _ _ _ _ len)) => .ret (pvI len)
  | some (.slice _), .w (.one (.ob _ _ _ len)) => .ret (pvI len)
  | some (.slice _), .w (.one (.lit (.slice none 0 0))) => .ret (pvI 0)
  | some .string, .w (.one (.lit (.string s))) => .ret (pvI s.size)
  | _, _ => .fail
/-- What is appended: how many elements, the elements. -/
def srcM (n : Nat) (v : PV) (k : Nat → (Nat → List PC) → M) : M := match v with
  | .w (.one (.sl n' len f)) => (match Nat.beq n n' with
    | true => k len f
    | false => .fail)
  | .w (.one (.ow x ver n' off len)) => .obj x fun g vr ob => guardT g (match Nat.beq ver vr, Nat.beq n n', ob with
    | true, true, .arr _ m tot f => (match Nat.beq n m with
      | true => .need (off + len ≤ tot) (k len (fun i => f (off + i)))
      | false => .fail)
    | _, _, _ => .fail)
  | .w (.one (.ob x ver off len)) => .obj x fun g vr ob => guardT g (match Nat.beq ver vr, Nat.beq n 1, ob with
    | true, true, .box _ l => (match bsAt l off with
      | some (m, bs) => .need (len ≤ m) (k len (fun i => [.lit (u8w (bs.getD i 0))]))
      | none => .fail)
    | _, _, _ => .fail)
  | .w (.one (.lit (.slice none 0 0))) => k 0 (fun _ => [])
  | _ => .fail
/-- The bytes that a slice holds. -/
def bytesM (v : PV) (k : List UInt8 → M) : M := match v with
  | .w (.one (.sl n len f)) => (match Nat.beq n 1 with
    | true => .need (IsRow len f) (k (rowB len f))
    | false => .fail)
  | .w (.one (.ow x ver n off len)) => .obj x fun g vr ob => guardT g (match Nat.beq ver vr, Nat.beq n 1, Nat.beq off 0, ob with
    | true, true, true, .arr _ m tot f => (match Nat.beq n m with
      | true => .need (len ≤ tot ∧ IsRow len f) (k (rowB len f))
      | false => .fail)
    | _, _, _, _ => .fail)
  | .w (.one (.ob x ver off len)) => .obj x fun g vr ob => guardT g (match Nat.beq ver vr, ob with
    | true, .box _ l => (match bsAt l off with
      | some (m, bs) => (match Nat.beq len m with
        | true => k bs
        | false => .fail)
      | none => .fail)
    | _, _ => .fail)
  | .w (.one (.lit (.slice none 0 0))) => k []
  | _ => .fail
def appendM (nm : Nat) (t : TypeId) (s x : PV) : M := match slTyOf P t with
  | some (e, n, by') => (match s with
      | .w (.one (.ow y ver n' off len)) => .obj y fun g vr ob => guardT g (match Nat.beq ver vr, Nat.beq n n', Nat.beq off 0, ob with
        | true, true, true, .arr e' m tot f => (match Nat.beq n m, Nat.beq e e' with
          | true, true => .need (len = tot) (srcM n x fun k f' => .need ((tot + k) * by' ≤ 140737488355328) (.upd y (ver + 1) (.arr e n (tot + k) (appF tot f f')) (.ret (pv1 (.ow y (ver + 1) n 0 (tot + k))))))
          | _, _ => .fail)
        | _, _, _, _ => .fail)
      | .w (.one (.lit (.slice none 0 0))) => srcM n x fun k f' => .need (k * by' ≤ 140737488355328) (.new nm (.arr e n k f') fun v => .ret (pv1 (.ow nm v n 0 k)))
      | _ => .fail)
  | none => .fail

def resP (r : Option Res) : PV := .w (.agg [.lit (.int .i64 (r.getD ⟨0, noBytes⟩).val), .lit (.string (r.getD ⟨0, noBytes⟩).bytes)])
/-- The device is asked. -/
def askM (c : Acc) : M := .obj dx fun g vr ob => guardT g (match Nat.beq vr 0, ob with
  | true, .dev O stp l => .need (O (l ++ [c]) = none → stp (l ++ [c])) (.upd dx 0 (.dev O stp (l ++ [c])) (.ret (resP (O (l ++ [c])))))
  | _, _ => .fail)
def doM (xs : List PV) : M := match xs with
  | [.w (.agg [.lit (.int .i64 k), .lit (.int .i64 b), .lit (.int .i64 c), .lit (.string x)])] => askM ⟨k, b, c, x⟩
  | _ => .fail
def callM (G : Specs) (nm : Nat) (fv : PV) (xs : List PV) : M := match fv with
  | .w (.one .dv) => doM xs
  | .w (.one (.lit (.func (.func f) first cap))) => (match first.toList, cap.toList, G f with
    | [], [], some sp => sp nm xs
    | _, _, _ => .fail)
  | .w (.one (.fn (.func f) first cap)) => (match G f, first.all (fun c => Nat.beq c.width 1), cap.all (fun c => Nat.beq c.width 1) with
    | some sp, true, true => sp nm (first.map pv1 ++ xs ++ cap.map pv1)
    | _, _, _ => .fail)
  | _ => .fail
def pvOp (x : PV) : Option PC := match x with
  | .w (.one c) => some c
  | _ => none
def pcsOf : List PV → Option (List PC)
  | [] => some []
  | v :: l => match pvOp v, pcsOf l with
    | some c, some r => some (c :: r)
    | _, _ => none
def tupOf : PV → Nat → Option PW
  | .tup l, i => l[i]?
  | _, _ => none
def evParts : List (Nat × Operand) → (List (Nat × PV) → M) → M
  | [], k => k []
  | (i, x) :: l, k => evO x fun v => evParts l fun vs => k ((i, v) :: vs)
def evOpt (x : Option Operand) (k : Option PV → M) : M := match x with
  | none => k none
  | some x => evO x fun v => k (some v)

/-- What equality says of parts, by their type. -/
def eqT : Nat → TypeId → List PC → List PC → Option Bool
  | 0, _, _, _ => none
  | d + 1, t, l, m => match P.underlying t with
    | some (.int _) => (match l, m with
      | [.lit (.int k a)], [.lit (.int k' b)] => if k = k' then some (a == b) else none
      | _, _ => none)
    | some .string => (match l, m with
      | [.lit (.string a)], [.lit (.string b)] => some (a.toList == b.toList)
      | _, _ => none)
    | some .bool => (match l, m with
      | [.lit (.bool a)], [.lit (.bool b)] => some (a == b)
      | _, _ => none)
    | some (.array n e) => (match P.underlying e, szOf P e, l, m with
      | some (.int .u8), some 1, [.bs n1 a], [.bs n2 b] => (match Nat.beq n n1, Nat.beq n n2 with
        | true, true => some (a == b)
        | _, _ => none)
      | _, _, _, _ => none)
    | some (.struct fs) => (match P.stoodInHeld t with
      | false => fs.toList.foldr (fun f acc => match acc, f.name != "_", szOf P f.type with
        | some r, true, some n => (match subPC l f.offset n, subPC m f.offset n with
          | some x, some y => (match mkW P f.type x, mkW P f.type y, eqT d f.type x y with
            | some _, some _, some q => some (q && r)
            | _, _, _ => none)
          | _, _ => none)
        | _, _, _ => none) (some true)
      | true => none)
    | _ => none
def guardM (t : TypeId) (k : M) : M := match P.underlying t with
  | some (.array _ _) => (match P.eqGuardType P.depth t with | false => k | true => .fail)
  | _ => .need (P.eqGuardType P.depth t = false) k
def binM (op : BinOp) (t : TypeId) (x y : Operand) (a b : PV) : M := match a, b with
  | .w (.one (.lit va)), .w (.one (.lit vb)) => (match op, va, vb with
    | .quo, .int k m, .int k' n => if k = k' then .need (n ≠ 0) (.ret (lit1 (.int k (k.wrap (m.tdiv n))))) else .fail
    | .rem, .int k m, .int k' n => if k = k' then .need (n ≠ 0) (.ret (lit1 (.int k (m.tmod n)))) else .fail
    | .shl, .int k m, .int _ n => .need (0 ≤ n) (.ret (lit1 (.int k (k.wrap (m * 2 ^ (min n.toNat k.bits))))))
    | .shr, .int k m, .int _ n => .need (0 ≤ n) (.ret (lit1 (.int k (m.fdiv (2 ^ (min n.toNat k.bits))))))
    | .add, .string m, .string n => .need ((m.size + n.size : Nat) ≤ 9223372036854775807) (.ret (lit1 (.string (m ++ n))))
    | op, va, vb => retV (pureRun P (do eqGuard op t x y va vb; binOp op t va vb)))
  | .w (.agg l), .w (.agg m) => (match op, eqT P 8 t l m, isRowTy P t with
    | .eql, some r, some true => guardM P t (.ret (pvB r))
    | .neq, some r, some true => guardM P t (.ret (pvB (!r)))
    | _, _, _ => .fail)
  | _, _ => .fail
def pickM (c a b : Operand) : M := evO c fun cv => match cv with
  | .w (.one (.lit (.bool h))) => evIf (h = true) a fun av => evIf (h = false) b fun bv => (match av, bv with
    | .w (.one (.lit (.bool x))), .w (.one (.lit (.bool y))) => .ret (pvB (bif h then x else y))
    | _, _ => .fail)
  | _ => .fail

def convM (src dst : TypeId) (v : PV) : M := match P.underlying src, P.underlying dst with
  | some .string, some (.slice e) => (match P.underlying e, v with
    | some (.int .u8), .w (.one (.lit (.string b))) => .need (b.size ≤ 9223372036854775807) (.ret (pv1 (.sl 1 b.size (byF b.data.toList))))
    | _, _ => .fail)
  | some (.slice e), some .string => (match P.underlying e with
    | some (.int .u8) => bytesM v fun l => .ret (lit1 (.string ⟨l.toArray⟩))
    | _ => .fail)
  | _, _ => (match isLit v with
    | some u => retV (pureRun P (convert src dst u))
    | none => .fail)
def makeM (nm : Nat) (t : TypeId) (l c : PV) : M := match slTyOf P t, isLit l, isLit c with
  | some (e, n, by'), some (.int _ l), some (.int _ c) => (match zeroPC P e with
    | some z => .need (0 ≤ l ∧ l ≤ c ∧ (by' : Int) * c ≤ 140737488355328) (.new nm (.arr e n l.toNat (fun _ => z)) fun v => .ret (pv1 (.ow nm v n 0 l.toNat)))
    | none => .fail)
  | _, _, _ => .fail
/-- The first elements, replaced. -/
def cpF (k : Nat) (f f' : Nat → List PC) : Nat → List PC := fun i => if i < k then f' i else f i
def copyM (t : TypeId) (x y : PV) : M := match slTyOf P t, x with
  | some (e, n, _), .w (.one (.ow z ver n' off len)) => .obj z fun g vr ob => guardT g (match Nat.beq ver vr, Nat.beq n n', Nat.beq off 0, ob with
    | true, true, true, .arr e' m tot f => (match Nat.beq n m, Nat.beq e e' with
      | true, true => .need (len = tot) (srcM n y fun k f' => .upd z ver (.arr e n tot (cpF (min k tot) f f')) (.ret (pvI (min k tot : Nat))))
      | _, _ => .fail)
    | _, _, _, _ => .fail)
  | _, _ => .fail
def isPtrV : PV → Bool
  | .w (.one (.pt _ _ _)) => true
  | .w (.one (.pk _ _ _ _)) => true
  | .w (.one (.pe _ _ _ _ _)) => true
  | .w (.one (.pf _ _ _ _ _)) => true
  | .w (.one (.pa _ _)) => true
  | _ => false
def arrayAtM (t : TypeId) (v : PV) : M := match P.underlying t, v with
  | some (.array n e), .w (.one (.sl k len f)) => (match szOf P e, Nat.beq k 1 with
    | some 1, true => .need (n ≤ len ∧ 0 < len) (.ret (pv1 (.pa len f)))
    | _, _ => .fail)
  | _, _ => .fail
def minM (a b : PV) : M := match a, b with
  | .w (.one (.lit (.int k m))), .w (.one (.lit (.int k' n))) => if k = k' then .ret (lit1 (.int k (min m n))) else .fail
  | _, _ => .fail
def maxM (a b : PV) : M := match a, b with
  | .w (.one (.lit (.int k m))), .w (.one (.lit (.int k' n))) => if k = k' then .ret (lit1 (.int k (max m n))) else .fail
  | _, _ => .fail
/-- What an operation does. -/
def body (G : Specs) (nm : Nat) (o : Oper) : M := match o.op with
  | .move x => evO x fun v => .ret v
  | .assign x => evO x fun v => .ret v
  | .pick c a b => pickM c a b
  | .alloc t => (match zeroPC P t with
    | some l => .new nm (.box t l) fun v => .ret (pv1 (.pt nm v 0))
    | none => .fail)
  | .box t x => evO x fun v => (match v, szOf P t with
    | .w pw, some n => (match Nat.beq n (widths pw.cells) with
      | true => .new nm (.box t pw.cells) fun v => .ret (pv1 (.pt nm v 0))
      | false => .fail)
    | _, _ => .fail)
  | .load t p => evO p fun p => loadM P t p
  | .store t p v => evO p fun p => evO v fun v => storeM P t p v
  | .fieldAddr t p f => evO p fun p => fieldAddrM P t p f
  | .indexAddr t p i => evO p fun p => evO i fun i => indexAddrM P t p i
  | .field t v f => evO v fun v => fieldM P t v f
  | .extract v i => evO v fun v => retW (tupOf v i)
  | .build t ps => evParts ps.toList fun vs => (match zeroPC P t with
    | some l => buildM P t vs l
    | none => .fail)
  | .buildSlice t n ps => evParts ps.toList fun vs => buildSliceM P nm t n vs
  | .slice t p lo hi none => evO p fun p => evOpt lo fun lo => evOpt hi fun hi => sliceM P t p lo hi
  | .binOp op t x y _ => evO x fun a => evO y fun b => binM P op t x y a b
  | .unOp op _ x => evO x fun a => (match isLit a with
    | some v => retV (pureRun P (Op.unary op v))
    | none => .fail)
  | .convert src dst x => evO x fun a => convM P src dst a
  | .makeSlice t l c => evO l fun l => evO c fun c => makeM P nm t l c
  | .call { callee := .builtin .copy, args, argTypes } => (match args.toList, argTypes.toList with
    | [x, y], [t, t'] => (match Nat.beq t t' with
      | true => evO x fun x => evO y fun y => copyM P t x y
      | false => .fail)
    | _, _ => .fail)
  | .nilCheck x => evO x fun v => (match isPtrV v with
    | true => .ret v
    | false => .fail)
  | .sliceToArrayPointer t x => evO x fun v => arrayAtM P t v
  | .call { callee := .builtin .min, args, .. } => (match args.toList with
    | [x, y] => evO x fun x => evO y fun y => minM x y
    | _ => .fail)
  | .call { callee := .builtin .max, args, .. } => (match args.toList with
    | [x, y] => evO x fun x => evO y fun y => maxM x y
    | _ => .fail)
  | .makeFunc fn first cap => evAll first.toList fun fs => evAll cap.toList fun cs => (match pcsOf fs, pcsOf cs with
    | some fs, some cs => .ret (pv1 (.fn fn fs cs))
    | _, _ => .fail)
  | .call { callee := .value f, args, .. } => evO f fun fv => evAll args.toList fun xs => callM G nm fv xs
  | .call { callee := .builtin .len, args, argTypes } => (match args.toList, argTypes.toList with
    | [x], [t] => evO x fun v => lenM P t v
    | _, _ => .fail)
  | .call { callee := .builtin .append, args, argTypes } => (match args.toList, argTypes.toList with
    | [s, x], [t, t'] => (match Nat.beq t t' with
      | true => evO s fun s => evO x fun x => appendM P nm t s x
      | false => .fail)
    | _, _ => .fail)
  | _ => .fail
/-- The results. -/
def resM : List ResultVar → (List PW → M) → M
  | [], k => k []
  | .tmp t :: l, k => evO (.tmp t) fun v => (match v with
    | .w x => resM l fun xs => k (x :: xs)
    | _ => .fail)
  | .cell a t :: l, k => evO (.tmp a) fun p => loadK P t p fun x => resM l fun xs => k (x :: xs)
def retM (rs : Array ResultVar) : M := resM P rs.toList fun xs => (match xs with
  | [x] => .ret (.w x)
  | xs => .ret (.tup xs))
def polB (pol b : Bool) : Bool := match pol with
  | true => b
  | false => !b
/-- The same, guarded. -/
def mopOf (G : Specs) (rid : Nat) (ops : List Oper) (i : Nat) (o : Oper) : M := match o.guard with
  | none => body P G (rid * 1000 + i) o
  | some (j, pol) => (match (ops[j]?).bind (·.dst) with
    | some tj => .tmp tj fun g v => (match g, v with
      | none, .w (.one (.lit (.bool b))) => .gate (polB pol b) (body P G (rid * 1000 + i) o)
      | some b0, .w (.one (.lit (.bool b))) => .gate (b0 && polB pol b) (body P G (rid * 1000 + i) o)
      | _, _ => .fail)
    | none => .fail)
def runReg (G : Specs) (rid : Nat) (ops : Array Oper) (s : St) : Option (List (Option Nat × Out) × St) := runOps (mopOf P G rid ops.toList) 0 ops.toList s
end

end Go.Proofs.YtgndblhpfjkfhaaDoor.Pv
