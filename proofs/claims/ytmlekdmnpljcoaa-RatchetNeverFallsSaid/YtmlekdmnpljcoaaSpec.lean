/-
  The law's executor as a plain function: a step program on a bank of fuse cells.
-/
import Derived.Test.YtmlekdmnpljcoaaCells
namespace Go.Proofs.Ytmlekdmnpljcoaa
open Go.RowKit

structure RunR where
  cells : List Int
  out : Nat × Int
  done : Bool
  many : Nat
  bad : Bool
def fuelLoop (faults : List Int) : Nat → Prg (Nat × Int) → List Int → Nat → RunR
  | 0, _, cells, _ => ⟨cells, (0, 0), false, 0, true⟩
  | _ + 1, .ret out, cells, i => ⟨cells, out, true, i, false⟩
  | f + 1, .ask a k, cells, i =>
    let fault := faultAt faults i
    let x := cells.getD a.cell.toNat 0
    let cells' := if a.kind = 1 then cells else cells.set a.cell.toNat (pulsed x fault.1)
    let v := if a.kind = 1 then fuseBit x fault.2 else 0
    if fault.1 then ⟨cells', (0, 0), false, i + 1, false⟩ else fuelLoop faults f (k ⟨v, noBytes⟩) cells' (i + 1)
def sessionP (raise : Bool) (target : Int) (bits : Nat) : Prg (Nat × Int) := if raise then Prg.raise 0 bits (target % (bits + 1)) else Prg.level 0 bits
def execR (raise : Bool) (target : Int) (faults : List Int) (bits : Nat) (cells : List Int) : RunR := fuelLoop faults 400 (sessionP raise target bits) cells 0

/-- All accesses are to cells of bank 0 below n, and carry no bytes. -/
def Prg.In {α : Type} (n : Nat) : Prg α → Prop
  | .ret _ => True
  | .ask a k => (a.kind = 1 ∨ a.kind = 2) ∧ a.bank = 0 ∧ 0 ≤ a.cell ∧ a.cell < n ∧ a.bytes = noBytes ∧ ∀ r, Prg.In n (k r)
theorem Prg.In.bind {α β : Type} {n : Nat} {p : Prg α} {f : α → Prg β} (h : Prg.In n p) {R : α → Prop} (ha : Prg.All R p) (hf : ∀ a, R a → Prg.In n (f a)) : Prg.In n (p.bind f) := by
  induction p with
  | ret a => exact hf a ha
  | ask a k ih => exact ⟨h.1, h.2.1, h.2.2.1, h.2.2.2.1, h.2.2.2.2.1, fun r => ih r (h.2.2.2.2.2 r) (ha r)⟩

theorem Prg.In.bind' {α β : Type} {n : Nat} {p : Prg α} {f : α → Prg β} (h : Prg.In n p) (hf : ∀ a, Prg.In n (f a)) : Prg.In n (p.bind f) := h.bind (Prg.All.triv p) fun a _ => hf a
theorem fuse_in {n b : Nat} (k : Nat) (hb : 3 * b + k < n) : Prg.In n (Prg.fuse 0 (3 * (b : Int) + k)) := ⟨.inl rfl, rfl, by show (0 : Int) ≤ 3 * (b : Int) + k; omega, by show 3 * (b : Int) + k < (n : Int); omega, rfl, fun _ => trivial⟩
theorem pulse_in {n b : Nat} (k : Nat) (hb : 3 * b + k < n) : Prg.In n (Prg.pulse 0 (3 * (b : Int) + k)) := ⟨.inr rfl, rfl, by show (0 : Int) ≤ 3 * (b : Int) + k; omega, by show 3 * (b : Int) + k < (n : Int); omega, rfl, fun _ => trivial⟩
theorem read_in {n b : Nat} (hb : 3 * b + 2 < n) : Prg.In n (Prg.read 0 b) :=
  (fuse_in 0 (by omega)).bind' fun _ => (fuse_in 1 (by omega)).bind' fun _ => (fuse_in 2 (by omega)).bind' fun _ => trivial
theorem pulses_in {n b : Nat} (hb : 3 * b + 2 < n) : Prg.In n (Prg.pulses 0 b) :=
  (pulse_in 0 (by omega)).bind' fun _ => (pulse_in 1 (by omega)).bind' fun _ => (pulse_in 2 (by omega)).bind' fun _ => trivial
theorem up_in {n : Nat} : ∀ (f b : Nat), 3 * (b + f) ≤ n → Prg.In n (Prg.up 0 f b)
  | 0, _, _ => trivial
  | f + 1, b, h => (read_in (by omega)).bind' fun x => by
    cases x with
    | true => exact up_in f (b + 1) (by omega)
    | false => trivial
theorem up_le : ∀ (bank : Int) (f b : Nat), Prg.All (fun m => m ≤ b + f) (Prg.up bank f b)
  | _, 0, b => Nat.le_refl _
  | bank, f + 1, b => (Prg.All.triv (Prg.read bank b)).bind fun x _ => by
    cases x with
    | true => exact (up_le bank f (b + 1)).mono fun a h => by omega
    | false => exact (by omega : b ≤ b + (f + 1))
theorem down_in {n : Nat} : ∀ (r b : Nat), 3 * (b + r) ≤ n → Prg.In n (Prg.down 0 r b)
  | 0, _, _ => trivial
  | r + 1, b, h => (pulses_in (by omega)).bind' fun _ => down_in r (b + 1) (by omega)
theorem levelOf_in (bits : Nat) : Prg.In (3 * bits) (Prg.levelOf 0 bits) :=
  (up_in bits 0 (by omega)).bind (up_le 0 bits 0) fun m h => (down_in m 0 (by omega)).bind' fun _ => trivial
theorem levelOf_all (bank : Int) (bits : Nat) : Prg.All (fun m => m ≤ bits) (Prg.levelOf bank bits) :=
  (up_le bank bits 0).bind fun m h => (Prg.All.triv (Prg.down bank m 0)).bind fun _ _ => by show m ≤ bits; omega
theorem raiseFrom_in {n : Nat} : ∀ (f b : Nat), 3 * (b + f) ≤ n → Prg.In n (Prg.raiseFrom 0 f b)
  | 0, _, _ => trivial
  | f + 1, b, h => (pulses_in (by omega)).bind' fun _ => (read_in (by omega)).bind' fun x => by
    cases x with
    | true => exact raiseFrom_in f (b + 1) (by omega)
    | false => trivial
theorem raiseTo_in (bits target : Nat) (h : target ≤ bits) : Prg.In (3 * bits) (Prg.raiseTo 0 bits target) :=
  (levelOf_in bits).bind (levelOf_all 0 bits) fun m hm => by
    by_cases hmt : m ≤ target
    · exact raiseFrom_in _ _ (by omega)
    · rw [show target - m = 0 from by omega]
      trivial
theorem session_in (raise : Bool) (target : Int) (bits : Nat) : Prg.In (3 * bits) (sessionP raise target bits) := by
  unfold sessionP Prg.raise Prg.level
  split
  · split
    · rename_i h
      simp only [Bool.and_eq_true, decide_eq_true_eq] at h
      rw [Int.toNat_natCast]
      exact raiseTo_in bits _ (by omega)
    · trivial
  · split
    · rw [Int.toNat_natCast]
      exact (levelOf_in bits).bind' fun _ => trivial
    · trivial
theorem nextR_session (raise : Bool) (target : Int) (bits : Nat) (log : List Res) : nextR raise target bits log = (sessionP raise target bits).run (replay log) 0 := by
  unfold nextR sessionP raiseR levelR
  split <;> rfl

/-- p is what is left of p0 behind the results in log. -/
def Left (p0 p : Prg (Nat × Int)) (log : List Res) : Prop := ∀ tail, p0.run (replay (log ++ tail)) 0 = p.run (replay (log ++ tail)) log.length
theorem Left.start (p : Prg (Nat × Int)) : Left p p [] := fun _ => rfl
theorem Left.step {p0 : Prg (Nat × Int)} {a : Acc} {k : Res → Prg (Nat × Int)} {log : List Res} (h : Left p0 (.ask a k) log) (r : Res) : Left p0 (k r) (log ++ [r]) := fun tail => by
  rw [List.append_assoc, h, List.length_append]
  have : replay (log ++ ([r] ++ tail)) a log.length = .ok r (log.length + 1) := by
    unfold replay
    rw [List.getElem?_append_right (Nat.le_refl _), Nat.sub_self]
    rfl
  simp only [Prg.run, this, List.length_cons, List.length_nil, Nat.zero_add]
theorem Left.ret {p0 : Prg (Nat × Int)} {out : Nat × Int} {log : List Res} (h : Left p0 (.ret out) log) : p0.run (replay log) 0 = .ok out log.length := by
  have := h []
  rwa [List.append_nil] at this
theorem Left.ask {p0 : Prg (Nat × Int)} {a : Acc} {k : Res → Prg (Nat × Int)} {log : List Res} (h : Left p0 (.ask a k) log) : p0.run (replay log) 0 = .error a log.length := by
  have := h []
  rw [List.append_nil] at this
  rw [this]
  have : replay log a log.length = .error a log.length := by
    unfold replay
    rw [List.getElem?_eq_none (Nat.le_refl _)]
  simp only [Prg.run, this]

theorem san1 : (execR false 0 [] 3 [2,2,2,0,2,0,0,0,0]).done = true ∧ (execR false 0 [] 3 [2,2,2,0,2,0,0,0,0]).out = (1, 0) ∧ (execR false 0 [] 3 [2,2,2,0,2,0,0,0,0]).many = 9 := by decide
theorem san2 : (execR true 3 [] 3 [2,2,2,0,2,0,0,0,0]).done = true ∧ (execR true 3 [] 3 [2,2,2,0,2,0,0,0,0]).out = (3, 0) ∧ (execR true 3 [] 3 [2,2,2,0,2,0,0,0,0]).many = 21 := by decide
theorem san3 : (execR true 1 [] 1 [3,3,0]).done = true ∧ (execR true 1 [] 1 [3,3,0]).out = (0, 12) := by decide

end Go.Proofs.Ytmlekdmnpljcoaa
