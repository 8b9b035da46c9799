/-
  play.Do's four methods, at whatever function value 'do' is (DoEnv): each asks for one access.
-/
import Derived.Test.YtmlekdmnpljcoaaBase
import Derived.Test.YtmlekdmnpljcoaaProg
namespace Go.Proofs.Ytmlekdmnpljcoaa
open Go.RowKit

def Prg.fuse (a b : Int) : Prg Int := .ask ⟨1, a, b, noBytes⟩ fun r => .ret r.val
def Prg.pulse (a b : Int) : Prg Unit := .ask ⟨2, a, b, noBytes⟩ fun _ => .ret ()
def unitV : Unit → Value := fun _ => .tuple #[]
def intV : Int → Value := fun n => .int .i64 n
def boolV : Bool → Value := fun b => .bool b

theorem field_res0 (x y : Value) (w : World) : (Instr.field 79 (.agg #[x, y]) 0).run Try.prog w = .ok x w := by kernel_rfl
theorem field_res1 (x y : Value) (w : World) : (Instr.field 79 (.agg #[x, y]) 1).run Try.prog w = .ok y w := by kernel_rfl
attribute [local go_sem] field_res0 field_res1

section
variable {σ ε : Type} {F : FuncId} {caps : Array Value} {d : Acc → σ → EStateM.Result ε σ Res} {pan : ε → Value} {Inv : σ → (Nat → Prop) → World → Prop} {S : Nat → Prop}

theorem fuse_do (E : DoEnv Try.prog F caps d pan Inv S) (a b : Int) (s : σ) (X : Nat → Prop) (w : World) (h : Inv s X w) :
    Calls Try.prog 43 #[.func (.func F) #[] caps, .int .i64 a, .int .i64 b] w (StepPost Inv S X pan w intV ((Prg.fuse a b).run d s)) := by
  have hc := E.call
  have hs := hide (E.step ⟨1, a, b, noBytes⟩ s X w h)
  go_enter Try.func43, Try.ntmps43
  go_wp2_with fail
  refine (unhide hs).mono ?_
  intro e w' hp
  cases hr : d ⟨1, a, b, noBytes⟩ s with
  | ok r s' =>
    obtain ⟨rfl, h1, h2⟩ := hp.of_ok hr
    have H := hide (And.intro h1 h2)
    have R : Hid ((Prg.fuse a b).run d s = .ok r.val s') := hide (by simp only [Prg.fuse, Prg.run]; rw [hr])
    clear h h1 h2 hs hr hp hc E
    obtain ⟨rv, rb⟩ := r
    simp only [Res.v]
    go_wp2
    go_ret
    exact StepPost.ok (unhide R) rfl (unhide H).1 (unhide H).2
  | error er s' =>
    obtain ⟨rfl, h1, h2⟩ := hp.of_err hr
    have R : (Prg.fuse a b).run d s = .error er s' := by simp only [Prg.fuse, Prg.run]; rw [hr]
    exact ⟨rfl, StepPost.err R rfl h1 h2⟩

theorem pulse_do (E : DoEnv Try.prog F caps d pan Inv S) (a b : Int) (s : σ) (X : Nat → Prop) (w : World) (h : Inv s X w) :
    Calls Try.prog 45 #[.func (.func F) #[] caps, .int .i64 a, .int .i64 b] w (StepPost Inv S X pan w unitV ((Prg.pulse a b).run d s)) := by
  have hc := E.call
  have hs := hide (E.step ⟨2, a, b, noBytes⟩ s X w h)
  go_enter Try.func45, Try.ntmps45
  go_wp2_with fail
  refine (unhide hs).mono ?_
  intro e w' hp
  cases hr : d ⟨2, a, b, noBytes⟩ s with
  | ok r s' =>
    obtain ⟨rfl, h1, h2⟩ := hp.of_ok hr
    have H := hide (And.intro h1 h2)
    have R : Hid ((Prg.pulse a b).run d s = .ok () s') := hide (by simp only [Prg.pulse, Prg.run]; rw [hr])
    clear h h1 h2 hs hr hp hc E
    obtain ⟨rv, rb⟩ := r
    simp only [Res.v]
    go_wp2
    go_end0
    exact StepPost.ok (unhide R) rfl (unhide H).1 (unhide H).2
  | error er s' =>
    obtain ⟨rfl, h1, h2⟩ := hp.of_err hr
    have R : (Prg.pulse a b).run d s = .error er s' := by simp only [Prg.pulse, Prg.run]; rw [hr]
    exact ⟨rfl, StepPost.err R rfl h1 h2⟩
end

end Go.Proofs.Ytmlekdmnpljcoaa
