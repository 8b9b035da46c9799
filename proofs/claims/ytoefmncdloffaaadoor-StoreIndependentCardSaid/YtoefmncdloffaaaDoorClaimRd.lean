/-
  The card of StoreIndependent: for every input the law returns true.
-/
import Derived.Test.YtoefmncdloffaaaDoorLsN
import Derived.Test.YtoefmncdloffaaaDoorLsLI
namespace Go.Proofs.YtoefmncdloffaaaDoor
open Go.ChangeShapes Go.WideShapes Go.ChangeAt Go.RowKit Go.Joins Go.Deep
open Go.ChangeMaps (open_string shut_string)
set_option linter.unusedVariables false
set_option maxRecDepth 100000 in
theorem storeIndependent_said {H : Type} {enc : TypeId × Value → H} (v0 : Value) (d0 : DataW H) (p0 : List MemPlace) (W : World) (base : Nat) (hM : ShaMem W)
    (hv0 : Value.okWide Tryd.prog W .any base 68 v0)
    (h0 : DataW.Trod enc Tryd.prog W 0 (fun _ => true) true 68 v0 d0 p0) :
    Calls Tryd.prog 9 #[v0] W fun e W' => e = .returned (.bool true) ∧ Ext W W' := by
  obtain ⟨l, hR, hl⟩ := Pv.open_upds hv0 h0
  exact (Pv.law_indep l hl).law hM ⟨hR, trivial⟩
theorem storeIndependent_met (os : Os) : laidMet Tryd.prog Rows.storeIndependentRow.laid ((laidWorld os).forCall (fun _ _ => 0) ⟨#[], #[.slice none 0 0], []⟩).memory :=
  laidMet_of_run' 8 (by kernel_rfl) (by kernel_rfl)
theorem storeIndependent_reads (os : Os) {H : Type} (enc : TypeId × Value → H) : ∃ places, DataW.whole enc Tryd.prog ((laidWorld os).forCall (fun _ _ => 0) ⟨#[], #[.slice none 0 0], []⟩).memory Tryd.f9.params.toList Rows.storeIndependentSpec.vars false (#[.slice none 0 0] : Array Value).toList 8 = some ([.nil], [], places) :=
  ⟨[], by kernel_rfl⟩
set_option maxRecDepth 100000 in
theorem storeIndependent_lifted (os : Os) (started : os.Started) (H : Type) (enc : TypeId × Value → H) (F : Stop.Interp) :
    ReturnsInHanded {} Tryd.checked os 9 .any ((OpenSpec.ofChange Rows.storeIndependentSpec).preRow enc Tryd.prog Tryd.f9 Rows.storeIndependentRow.domain false Rows.storeIndependentRow.laid) (((OpenSpec.ofChange Rows.storeIndependentSpec).at F).post enc Tryd.prog Tryd.f9 false true false false) := by
  obtain ⟨places, hx⟩ := storeIndependent_reads os enc
  refine returnsInHanded_of_row (C := Tryd.checked) (s := OpenSpec.ofChange Rows.storeIndependentSpec) own started (by kernel_rfl) Tryd.func9
    (witness_row_at (enc := enc) (C := Tryd.checked) false (laidWorld os) #[.slice none 0 0] rfl (by kernel_rfl) (by kernel_rfl) (by kernel_rfl)
      (OpenSpec.preRow_of_cond 8 hx (by kernel_rfl) (fun k hk => by cases hk) (by kernel_rfl) (storeIndependent_met os))) ?_
  intro W base args ds gs before hval0 hW _ _ _ hL _ _
  have hM := shaMem_of_laid hL
  have hval : ∀ (j : Nat) t v, Tryd.f9.params[j]? = some t → args[j]? = some v → Value.okWide Tryd.prog W .any base t v := hval0
  have hW' := hW
  obtain ⟨p, q, hA0, hV, rfl, hfz, hnd⟩ := hW
  have hA : DataW.TrodAll enc Tryd.prog W 0 (fun _ => true) true Tryd.f9.params.toList args.toList ds p := hA0
  rw [Tryd.params9] at hA hval
  obtain ⟨v0, vs0, d0, ds0, p0, q0, hargs, rfl, rfl, h0, r0⟩ := trodAll_cons hA
  obtain ⟨rfl, rfl, rfl⟩ := trodAll_nil r0
  obtain rfl : args = #[v0] := by cases args; simp_all
  obtain ⟨rfl, rfl⟩ := trodVars_none hV
  have k0 := h0
  have lt0 : ∀ x ∈ p0, x.block < W.heap.size := by obtain ⟨m, hm⟩ := k0; exact DataW.trod_lt m _ _ _ hm
  have hv0 := hval 0 _ v0 rfl rfl
  clear hA0 hval0
  refine (storeIndependent_said v0 d0 p0 W base hM hv0 h0).mono fun e W' ⟨he, bel⟩ => ?_
  subst he
  have bel := Ext.below bel
  exact ⟨_, rfl, _, _, _, [], _, [], hW', trodAll_mk1 (shut_bool Tryd.underlying4 _), (trodAll_cons_mk (Below.trod laidOut (by kernel_rfl) (of_decide_eq_true (by kernel_rfl)) k0 bel lt0) trodAll_mk0), rfl, bel.frame _, fun h => by cases h⟩
theorem storeIndependent_row : Rows.StoreIndependentSaid :=
  OpenClaim.holds_of_cond 9 Tryd.f9 rfl rfl rfl rfl rfl rfl rfl ⟨rfl, rfl, rfl, rfl, rfl⟩ rfl rfl rfl rfl rfl (by kernel_rfl) Tryd.func9 (by kernel_rfl)
    (of_decide_eq_true (by kernel_rfl)) (by unfold Func.isWrapper; first | (rw [if_pos (by decide +kernel)]; kernel_rfl) | (rw [if_neg (by decide +kernel)]; exact ⟨rfl, rfl⟩))
    (fun os started H enc _ F => by rw [OpenClaim.pre_eq_preRow]; exact storeIndependent_lifted os started H enc F)
theorem storeIndependent_plain (f : FuncId) (fn : Func) (hf : Tryd.pinned.checked.prog.funcNamed "bootchain/bootchainlaw10.StoreIndependent" = some f) (hfn : Tryd.pinned.checked.prog.funcs[f]? = some fn) :
    Rows.storeIndependentCard.stood.looks = Tryd.pinned.checked.prog.looks [] ∧ ∀ (j : Nat) t, fn.params[j]? = some t → Tryd.pinned.checked.prog.wantsStandIn t = false := by
  obtain rfl : f = 9 := Option.some.inj ((show Tryd.prog.funcNamed "bootchain/bootchainlaw10.StoreIndependent" = some 9 by kernel_rfl).symm.trans hf) |>.symm
  obtain rfl : fn = Tryd.f9 := (Option.some.inj (Tryd.func9.symm.trans hfn)).symm
  refine ⟨by kernel_rfl, fun j t ht => ?_⟩
  rw [Tryd.params9] at ht
  have hall : ∀ t ∈ (#[68] : Array TypeId), Tryd.prog.wantsStandIn t = false := by decide +kernel
  exact hall t (Array.mem_of_getElem? ht)
theorem storeIndependent_holds : Rows.StoreIndependentCardSaid :=
  Claim7.holds_tied_plain_at .later [] _ _ _ _ storeIndependent_row (fun _ h => by cases h) (by kernel_rfl) (fun _ h => by cases h) storeIndependent_row_tie rfl ⟨rfl, rfl⟩ (by kernel_rfl) rfl storeIndependent_plain (by kernel_rfl)
end Go.Proofs.YtoefmncdloffaaaDoor
