/-
  What sessions of the ratchet do to a bank of fuse cells: plain Lean, no program in sight.
-/
import Derived.Test.YtmlekdmnpljcoaaSpec
import Derived.Test.YtmlekdmnpljcoaaLvl
namespace Go.Proofs.Ytmlekdmnpljcoaa
open Go.RowKit

abbrev cell (c : List Int) (j : Nat) : Int := c.getD j 0
def aftC (a : Acc) (f : Bool × Bool) (cells : List Int) : List Int := if a.kind = 1 then cells else cells.set a.cell.toNat (pulsed (cells.getD a.cell.toNat 0) f.1)
def aftV (a : Acc) (f : Bool × Bool) (cells : List Int) : Int := if a.kind = 1 then fuseBit (cells.getD a.cell.toNat 0) f.2 else 0

/-- The executor without a bound. -/
def exec {α : Type} (F : List Int) : Prg α → List Int → Nat → Option α × List Int × Nat
  | .ret a, c, i => (some a, c, i)
  | .ask a k, c, i => if (faultAt F i).1 = true then (none, aftC a (faultAt F i) c, i + 1) else exec F (k ⟨aftV a (faultAt F i) c, noBytes⟩) (aftC a (faultAt F i) c) (i + 1)

/-- At most n accesses. -/
def Prg.Within {α : Type} : Nat → Prg α → Prop
  | _, .ret _ => True
  | 0, .ask _ _ => False
  | n + 1, .ask _ k => ∀ r, Prg.Within n (k r)
theorem Within.mono {α : Type} {p : Prg α} : ∀ {n m : Nat}, p.Within n → n ≤ m → p.Within m := by
  induction p with
  | ret a => intro n m _ _; cases m <;> trivial
  | ask a k ih =>
    intro n m h hm
    cases n with
    | zero => exact h.elim
    | succ n =>
      cases m with
      | zero => omega
      | succ m => exact fun r => ih r (h r) (by omega)
theorem Within.bind {α β : Type} {p : Prg α} {f : α → Prg β} {m : Nat} : ∀ {n : Nat}, p.Within n → (∀ a, (f a).Within m) → (p.bind f).Within (n + m) := by
  induction p with
  | ret a => intro n _ hf; exact Within.mono (hf a) (by omega)
  | ask a k ih =>
    intro n h hf
    cases n with
    | zero => exact h.elim
    | succ n =>
      rw [show n + 1 + m = (n + m) + 1 from by omega]
      exact fun r => ih r (h r) hf
/-- As bind, where what the first one ends with bounds the second. -/
theorem Within.bindR {α β : Type} {R : α → Prop} {p : Prg α} {f : α → Prg β} {m : Nat} : ∀ {n : Nat}, p.Within n → Prg.All R p → (∀ a, R a → (f a).Within m) → (p.bind f).Within (n + m) := by
  induction p with
  | ret a => intro n _ ha hf; exact Within.mono (hf a ha) (by omega)
  | ask a k ih =>
    intro n h ha hf
    cases n with
    | zero => exact h.elim
    | succ n =>
      rw [show n + 1 + m = (n + m) + 1 from by omega]
      exact fun r => ih r (h r) (ha r) hf
theorem within_fuse (a b : Int) : (Prg.fuse a b).Within 1 := fun _ => trivial
theorem within_pulse (a b : Int) : (Prg.pulse a b).Within 1 := fun _ => trivial
theorem within_read (a b : Int) : (Prg.read a b).Within 3 := Within.bind (m := 2) (within_fuse _ _) fun _ => Within.bind (m := 1) (within_fuse _ _) fun _ => Within.bind (m := 0) (within_fuse _ _) fun _ => trivial
theorem within_pulses (a b : Int) : (Prg.pulses a b).Within 3 := Within.bind (m := 2) (within_pulse _ _) fun _ => Within.bind (m := 1) (within_pulse _ _) fun _ => Within.bind (m := 0) (within_pulse _ _) fun _ => trivial
theorem within_up (a : Int) : ∀ f n, (Prg.up a f n).Within (3 * f)
  | 0, n => trivial
  | f + 1, n => by
    rw [show 3 * (f + 1) = 3 + 3 * f from by omega]
    refine Within.bind (within_read a n) fun b => ?_
    cases b with
    | true => exact within_up a f (n + 1)
    | false => exact Within.mono (n := 0) (show (Prg.ret n : Prg Nat).Within 0 from trivial) (by omega)
theorem within_down (a : Int) : ∀ r b, (Prg.down a r b).Within (3 * r)
  | 0, b => trivial
  | r + 1, b => by
    rw [show 3 * (r + 1) = 3 + 3 * r from by omega]
    exact Within.bind (within_pulses a b) fun _ => within_down a r (b + 1)
theorem within_levelOf (a : Int) (bits : Nat) : (Prg.levelOf a bits).Within (6 * bits) := by
  rw [show 6 * bits = 3 * bits + (3 * bits + 0) from by omega]
  refine Within.bindR (within_up a bits 0) (up_le a bits 0) fun n hn => ?_
  exact Within.bind (Within.mono (within_down a n 0) (by omega)) fun _ => trivial
theorem within_raiseFrom (a : Int) : ∀ f n, (Prg.raiseFrom a f n).Within (6 * f)
  | 0, n => trivial
  | f + 1, n => by
    rw [show 6 * (f + 1) = 3 + (3 + 6 * f) from by omega]
    refine Within.bind (within_pulses a n) fun _ => Within.bind (within_read a n) fun b => ?_
    cases b with
    | true => exact within_raiseFrom a f (n + 1)
    | false => exact Within.mono (n := 0) (show (Prg.ret (n, (12 : Int)) : Prg (Nat × Int)).Within 0 from trivial) (by omega)
theorem within_raiseTo (a : Int) (bits target : Nat) : (Prg.raiseTo a bits target).Within (6 * bits + 6 * target) :=
  Within.bind (within_levelOf a bits) fun n => Within.mono (within_raiseFrom a (target - n) n) (by omega)
theorem within_session (raise : Bool) (target : Int) (bits : Nat) (hb : bits ≤ 16) : (sessionP raise target bits).Within 192 := by
  have ht : (target % ((bits : Int) + 1)).toNat ≤ bits := by
    have h1 := Int.emod_nonneg target (show (bits : Int) + 1 ≠ 0 by omega)
    have h2 := Int.emod_lt_of_pos target (show (0 : Int) < (bits : Int) + 1 by omega)
    omega
  unfold sessionP Prg.raise Prg.level
  split
  · split
    · rw [Int.toNat_natCast]
      exact Within.mono (within_raiseTo 0 bits _) (by omega)
    · exact Within.mono (n := 0) trivial (by omega)
  · split
    · rw [Int.toNat_natCast]
      exact Within.mono (Within.bind (m := 0) (within_levelOf 0 bits) fun _ => trivial) (by omega)
    · exact Within.mono (n := 0) trivial (by omega)

theorem exec_le {α : Type} (F : List Int) (p : Prg α) : ∀ c i, i ≤ (exec F p c i).2.2 := by
  induction p with
  | ret a => intro c i; exact Nat.le_refl _
  | ask a k ih =>
    intro c i
    unfold exec
    split
    · exact Nat.le_succ _
    · exact Nat.le_trans (Nat.le_succ _) (ih _ _ _)
/-- The bounded executor is the unbounded one. -/
theorem fuelLoop_exec (F : List Int) (p : Prg (Nat × Int)) : ∀ (n fuel : Nat) (c : List Int) (i : Nat), p.Within n → n < fuel →
    fuelLoop F fuel p c i = ⟨(exec F p c i).2.1, ((exec F p c i).1).getD (0, 0), (exec F p c i).1.isSome, (exec F p c i).2.2, false⟩ := by
  induction p with
  | ret a =>
    intro n fuel c i _ hf
    obtain ⟨m, rfl⟩ : ∃ m, fuel = m + 1 := ⟨fuel - 1, by omega⟩
    rfl
  | ask a k ih =>
    intro n fuel c i h hf
    obtain ⟨m, rfl⟩ : ∃ m, fuel = m + 1 := ⟨fuel - 1, by omega⟩
    cases n with
    | zero => exact h.elim
    | succ n =>
      have h1 : fuelLoop F (m + 1) (.ask a k) c i = if (faultAt F i).1 = true then ⟨aftC a (faultAt F i) c, (0, 0), false, i + 1, false⟩ else fuelLoop F m (k ⟨aftV a (faultAt F i) c, noBytes⟩) (aftC a (faultAt F i) c) (i + 1) := rfl
      rw [h1, exec]
      split
      · rfl
      · exact ih _ n m _ _ (h _) (by omega)
theorem execR_exec (raise : Bool) (target : Int) (F : List Int) (bits : Nat) (c : List Int) (hb : bits ≤ 16) :
    execR raise target F bits c = ⟨(exec F (sessionP raise target bits) c 0).2.1, ((exec F (sessionP raise target bits) c 0).1).getD (0, 0), (exec F (sessionP raise target bits) c 0).1.isSome, (exec F (sessionP raise target bits) c 0).2.2, false⟩ :=
  fuelLoop_exec F _ 192 400 c 0 (within_session raise target bits hb) (by omega)

theorem exec_bind {α β : Type} (F : List Int) (p : Prg α) (f : α → Prg β) : ∀ c i, exec F (p.bind f) c i = match exec F p c i with | (some a, c', i') => exec F (f a) c' i' | (none, c', i') => (none, c', i') := by
  induction p with
  | ret a => intro c i; rfl
  | ask a k ih =>
    intro c i
    simp only [Prg.bind, exec]
    split
    · rfl
    · exact ih _ _ _
theorem exec_bind_some {α β : Type} {F : List Int} {p : Prg α} {f : α → Prg β} {c c' : List Int} {i i' : Nat} {a : α} (h : exec F p c i = (some a, c', i')) : exec F (p.bind f) c i = exec F (f a) c' i' := by rw [exec_bind, h]

/-! ### Cells -/
theorem cell_set (c : List Int) (i j : Nat) (v : Int) : cell (c.set i v) j = if i = j ∧ i < c.length then v else cell c j := by
  unfold cell
  rw [List.getD_eq_getElem?_getD, List.getD_eq_getElem?_getD, List.getElem?_set]
  by_cases h : i = j
  · subst h
    by_cases h2 : i < c.length
    · simp [h2]
    · simp [h2]
  · simp [h]

/-- How cells change: intact or weak ones become weak or blown. -/
structure Evo (c c' : List Int) : Prop where
  len : c'.length = c.length
  at_ : ∀ j, cell c' j = cell c j ∨ (cell c j ≤ 1 ∧ (cell c' j = 1 ∨ cell c' j = 2))
theorem Evo.refl (c : List Int) : Evo c c := ⟨rfl, fun _ => .inl rfl⟩
theorem Evo.trans {a b c : List Int} (h : Evo a b) (k : Evo b c) : Evo a c := ⟨k.len.trans h.len, fun j => by
  rcases h.at_ j with h1 | ⟨h1, h2⟩ <;> rcases k.at_ j with k1 | ⟨k1, k2⟩ <;> omega⟩
theorem Evo.set (c : List Int) (i : Nat) (cut : Bool) : Evo c (c.set i (pulsed (cell c i) cut)) := ⟨by simp, fun j => by
  rw [cell_set]
  by_cases h : i = j ∧ i < c.length
  · rw [if_pos h, h.1]
    unfold pulsed
    split
    · cases cut
      · exact .inr ⟨by assumption, .inr rfl⟩
      · exact .inr ⟨by assumption, .inl rfl⟩
    · exact .inl rfl
  · rw [if_neg h]; exact .inl rfl⟩
def Val (c : List Int) : Prop := ∀ j, 0 ≤ cell c j ∧ cell c j ≤ 3
theorem Val.evo {c c' : List Int} (h : Val c) (e : Evo c c') : Val c' := fun j => by have := h j; rcases e.at_ j with e1 | e1 <;> omega
/-- Of a bit's cells, how many are stuck. -/
def stuckC (c : List Int) (b : Nat) : Nat := (if cell c (3 * b) = 3 then 1 else 0) + (if cell c (3 * b + 1) = 3 then 1 else 0) + (if cell c (3 * b + 2) = 3 then 1 else 0)
theorem Evo.stuck1 {c c' : List Int} (h : Evo c c') (j : Nat) : cell c' j = 3 ↔ cell c j = 3 := by rcases h.at_ j with e1 | e1 <;> omega
theorem Evo.stuck {c c' : List Int} (h : Evo c c') (b : Nat) : stuckC c' b = stuckC c b := by
  unfold stuckC
  simp only [h.stuck1]
theorem fuseBit_mono {x y : Int} (h : y = x ∨ (x ≤ 1 ∧ (y = 1 ∨ y = 2))) : fuseBit x false ≤ fuseBit y false := by
  unfold fuseBit
  rcases h with rfl | ⟨h1, h2⟩
  · omega
  · simp only [Bool.false_eq_true, and_false, or_false]
    rw [if_neg (by omega)]
    split <;> omega
theorem Evo.low {c c' : List Int} (h : Evo c c') {b : Nat} (hb : bitOne c false b = true) : bitOne c' false b = true := by
  unfold bitOne at hb ⊢
  have h0 := fuseBit_mono (h.at_ (3 * b))
  have h1 := fuseBit_mono (h.at_ (3 * b + 1))
  have h2 := fuseBit_mono (h.at_ (3 * b + 2))
  unfold cell at h0 h1 h2
  simp only [decide_eq_true_eq] at hb ⊢
  omega

theorem levelUp_spec (c : List Int) (nz : Bool) : ∀ f n, n ≤ levelUp c nz f n ∧ levelUp c nz f n ≤ n + f ∧ (∀ b, n ≤ b → b < levelUp c nz f n → bitOne c nz b = true) ∧ (levelUp c nz f n < n + f → bitOne c nz (levelUp c nz f n) = false)
  | 0, n => ⟨Nat.le_refl _, Nat.le_refl _, fun b h1 h2 => by unfold levelUp at h2; omega, fun h => by unfold levelUp at h; omega⟩
  | f + 1, n => by
    by_cases hb : bitOne c nz n = true
    · rw [levelUp_yes hb]
      obtain ⟨h1, h2, h3, h4⟩ := levelUp_spec c nz f (n + 1)
      refine ⟨by omega, by omega, fun b hb1 hb2 => ?_, fun h => h4 (by omega)⟩
      by_cases e : b = n
      · rw [e]; exact hb
      · exact h3 b (by omega) hb2
    · have hb' : bitOne c nz n = false := by simpa using hb
      rw [levelUp_no hb']
      exact ⟨Nat.le_refl _, by omega, fun b h1 h2 => by omega, fun _ => hb'⟩
theorem le_levelUp (c : List Int) (nz : Bool) (m : Nat) : ∀ f n, (∀ b, n ≤ b → b < m → bitOne c nz b = true) → m ≤ n + f → m ≤ levelUp c nz f n
  | 0, n, _, h => by unfold levelUp; omega
  | f + 1, n, hb, h => by
    by_cases hn : n < m
    · rw [levelUp_yes (hb n (Nat.le_refl _) hn)]
      exact le_levelUp c nz m f (n + 1) (fun b h1 h2 => hb b (by omega) h2) (by omega)
    · have := (levelUp_spec c nz (f + 1) n).1
      omega

end Go.Proofs.Ytmlekdmnpljcoaa
