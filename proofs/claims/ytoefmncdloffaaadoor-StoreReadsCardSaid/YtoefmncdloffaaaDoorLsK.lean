
import Derived.Test.YtoefmncdloffaaaDoorSqP
import Derived.Test.YtoefmncdloffaaaDoorSqQ
namespace Go.Proofs.YtoefmncdloffaaaDoor.Pv
open Go.RowKit
def spChance : Spec := funSpec true fun xs => match xs with
  | [.w (.agg [.lit (.int .i64 r), .lit (.string c), .lit (.int .i64 cut), .lit (.int .i64 b)]), .w (.one (.lit (.int .i64 seq))), .w (.agg [.lit (.string oc), .lit (.int .i64 os), .lit (.int .i64 oe)])] =>
    some (i64P r ∧ i64P seq ∧ i64P os ∧ c.size ≤ 3000 ∧ oc.size ≤ 3000, pvB (chanceS ⟨r, c, cut, b⟩ seq ⟨oc, os, oe⟩))
  | _ => none
theorem chance_ok : SpecOk Tryd.prog ShaMem 43 spChance := by
  refine funSpec_ok (call_enters Tryd.func43 (by kernel_rfl) rfl) (fun xs p r hg hp => ?_)
  split at hg
  · rename_i r c cut b seq oc os oe
    cases hg
    exact chance_fun ⟨r, c, cut, b⟩ seq ⟨oc, os, oe⟩ hp.1 hp.2.1 hp.2.2.1 hp.2.2.2.1 hp.2.2.2.2
  · cases hg
def lsL6 : List (Nat × Spec) := (43, spChance) :: lsL4
theorem ls6_ok : ∀ p ∈ lsL6, SpecOk Tryd.prog ShaMem p.1 p.2 := by
  intro p hp
  simp only [lsL6, List.mem_cons] at hp
  rcases hp with rfl | hp
  · exact chance_ok
  · exact ls4_ok p (by simpa only [List.mem_cons] using hp)
theorem ls6M : Mach Tryd.prog ShaMem (find lsL6) := ⟨specs_of ls6_ok, mixed_⟩
structure ChkPre (f : Fl) (u : Upd) (g : Fl) (o : StO) (wh : Bool) (A : List Acc) : Prop where
  fine : Fine f u
  put : putF f u = (g, o, wh, A)
def chkArgs (f : Fl) (u : Upd) (g : Fl) (o : StO) (wh : Bool) (A : List Acc) : List PV := [flV f, .w (.agg (updPC u)), flV g, stoPV o, pvB wh, pv1 (.sl 4 A.length (accF A))]
end Go.Proofs.YtoefmncdloffaaaDoor.Pv
