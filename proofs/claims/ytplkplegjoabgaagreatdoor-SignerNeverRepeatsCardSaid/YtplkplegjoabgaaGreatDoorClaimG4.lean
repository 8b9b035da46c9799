import Derived.Test.YtplkplegjoabgaaGreatDoorJzA
namespace Go.Proofs.YtplkplegjoabgaaGreatDoor
open Go.ChangeShapes Go.WideShapes Go.ChangeAt Go.RowKit Go.Joins Go.Deep
open Go.ChangeMaps (open_string shut_string)
set_option linter.unusedVariables false
set_option maxRecDepth 100000 in
theorem signerNeverRepeats_said {H : Type} {enc : TypeId × Value → H} (v0 : Value) (d0 : DataW H) (p0 : List MemPlace) (W : World) (base : Nat) (hM : ShaMem W)
    (hv0 : Value.okWide Tryz.prog W .any base 43 v0)
    (h0 : DataW.Trod enc Tryz.prog W 0 (fun _ => true) true 43 v0 d0 p0) :
    Calls Tryz.prog 4 #[v0] W fun e W' => e = .returned (.bool true) ∧ Ext W W' := by
  obtain ⟨cells, seed, ht, Rs, b1, hR⟩ := Pv.open_f4 hv0 h0
  exact (Pv.never_law cells seed ht Rs b1).law hM ⟨hR, trivial⟩
def signerNeverRepeats_wit0 : Value := .agg (([.slice none 0 0, .int .u8 0, .int .u8 0, .int .u8 0, .int .u8 0, .int .u8 0, .int .u8 0, .int .u8 0, .int .u8 0, .int .u8 0, .int .u8 0, .int .u8 0, .int .u8 0, .int .u8 0, .int .u8 0, .int .u8 0] : List Value) ++ ([.int .u8 0, .int .u8 0, .slice none 0 0] : List Value)).toArray
theorem signerNeverRepeats_met (os : Os) : laidMet Tryz.prog Rows.signerNeverRepeatsRow.laid ((laidWorld os).forCall (fun _ _ => 0) ⟨#[], #[signerNeverRepeats_wit0], []⟩).memory :=
  laidMet_of_run' 8 (by kernel_rfl) (by kernel_rfl)
theorem signerNeverRepeats_reads (os : Os) {H : Type} (enc : TypeId × Value → H) : ∃ places, DataW.whole enc Tryz.prog ((laidWorld os).forCall (fun _ _ => 0) ⟨#[], #[signerNeverRepeats_wit0], []⟩).memory Tryz.f4.params.toList Rows.signerNeverRepeatsSpec.vars false (#[signerNeverRepeats_wit0] : Array Value).toList 8 = some ([.agg [.nil, .agg [.lit (.int .u8 0), .lit (.int .u8 0), .lit (.int .u8 0), .lit (.int .u8 0), .lit (.int .u8 0), .lit (.int .u8 0), .lit (.int .u8 0), .lit (.int .u8 0), .lit (.int .u8 0), .lit (.int .u8 0), .lit (.int .u8 0), .lit (.int .u8 0), .lit (.int .u8 0), .lit (.int .u8 0), .lit (.int .u8 0), .lit (.int .u8 0)], .lit (.int .u8 0), .nil]], [], places) :=
  ⟨[], by kernel_rfl⟩
set_option maxRecDepth 100000 in
theorem signerNeverRepeats_lifted (os : Os) (started : os.Started) (H : Type) (enc : TypeId × Value → H) (F : Stop.Interp) :
    ReturnsInHanded {} Tryz.checked os 4 .any ((OpenSpec.ofChange Rows.signerNeverRepeatsSpec).preRow enc Tryz.prog Tryz.f4 Rows.signerNeverRepeatsRow.domain false Rows.signerNeverRepeatsRow.laid) (((OpenSpec.ofChange Rows.signerNeverRepeatsSpec).at F).post enc Tryz.prog Tryz.f4 false true false false) := by
  obtain ⟨places, hx⟩ := signerNeverRepeats_reads os enc
  refine returnsInHanded_of_row (C := Tryz.checked) (s := OpenSpec.ofChange Rows.signerNeverRepeatsSpec) own started (by kernel_rfl) Tryz.func4
    (witness_row_at (enc := enc) (C := Tryz.checked) false (laidWorld os) #[signerNeverRepeats_wit0] rfl (by kernel_rfl) (by kernel_rfl) (by kernel_rfl)
      (OpenSpec.preRow_of_cond 8 hx (by kernel_rfl) (fun k hk => by cases hk) (by kernel_rfl) (signerNeverRepeats_met os))) ?_
  intro W base args ds gs before hval0 hW _ _ _ hL _ _
  have hM := shaMem_of_laid hL
  have hval : ∀ (j : Nat) t v, Tryz.f4.params[j]? = some t → args[j]? = some v → Value.okWide Tryz.prog W .any base t v := hval0
  have hW' := hW
  obtain ⟨p, q, hA0, hV, rfl, hfz, hnd⟩ := hW
  have hA : DataW.TrodAll enc Tryz.prog W 0 (fun _ => true) true Tryz.f4.params.toList args.toList ds p := hA0
  rw [Tryz.params4] at hA hval
  obtain ⟨v0, vs0, d0, ds0, p0, q0, hargs, rfl, rfl, h0, r0⟩ := trodAll_cons hA
  obtain ⟨rfl, rfl, rfl⟩ := trodAll_nil r0
  obtain rfl : args = #[v0] := by cases args; simp_all
  obtain ⟨rfl, rfl⟩ := trodVars_none hV
  have k0 := h0
  have lt0 : ∀ x ∈ p0, x.block < W.heap.size := by obtain ⟨m, hm⟩ := k0; exact DataW.trod_lt m _ _ _ hm
  have hv0 := hval 0 _ v0 rfl rfl
  clear hA0 hval0
  refine (signerNeverRepeats_said v0 d0 p0 W base hM hv0 h0).mono fun e W' ⟨he, bel⟩ => ?_
  subst he
  have bel := Ext.below bel
  exact ⟨_, rfl, _, _, _, [], _, [], hW', trodAll_mk1 (shut_bool Tryz.underlying4 _), (trodAll_cons_mk (Below.trod laidOut (by kernel_rfl) (of_decide_eq_true (by kernel_rfl)) k0 bel lt0) trodAll_mk0), rfl, bel.frame _, fun h => by cases h⟩
theorem signerNeverRepeats_row : Rows.SignerNeverRepeatsSaid :=
  OpenClaim.holds_of_cond 4 Tryz.f4 rfl rfl rfl rfl rfl rfl rfl ⟨rfl, rfl, rfl, rfl, rfl⟩ rfl rfl rfl rfl rfl (by kernel_rfl) Tryz.func4 (by kernel_rfl)
    (of_decide_eq_true (by kernel_rfl)) (by unfold Func.isWrapper; first | (rw [if_pos (by decide +kernel)]; kernel_rfl) | (rw [if_neg (by decide +kernel)]; exact ⟨rfl, rfl⟩))
    (fun os started H enc _ F => by rw [OpenClaim.pre_eq_preRow]; exact signerNeverRepeats_lifted os started H enc F)
theorem signerNeverRepeats_plain (f : FuncId) (fn : Func) (hf : Tryz.pinned.checked.prog.funcNamed "bootchain/bootchainlaw26.SignerNeverRepeats" = some f) (hfn : Tryz.pinned.checked.prog.funcs[f]? = some fn) :
    Rows.signerNeverRepeatsCard.stood.looks = Tryz.pinned.checked.prog.looks [] ∧ ∀ (j : Nat) t, fn.params[j]? = some t → Tryz.pinned.checked.prog.wantsStandIn t = false := by
  obtain rfl : f = 4 := Option.some.inj ((show Tryz.prog.funcNamed "bootchain/bootchainlaw26.SignerNeverRepeats" = some 4 by kernel_rfl).symm.trans hf) |>.symm
  obtain rfl : fn = Tryz.f4 := (Option.some.inj (Tryz.func4.symm.trans hfn)).symm
  refine ⟨by kernel_rfl, fun j t ht => ?_⟩
  rw [Tryz.params4] at ht
  have hall : ∀ t ∈ (#[43] : Array TypeId), Tryz.prog.wantsStandIn t = false := by decide +kernel
  exact hall t (Array.mem_of_getElem? ht)
theorem signerNeverRepeats_holds : Rows.SignerNeverRepeatsCardSaid :=
  Claim7.holds_tied_plain_at .later [] _ _ _ _ signerNeverRepeats_row (fun _ h => by cases h) (by kernel_rfl) (fun _ h => by cases h) signerNeverRepeats_row_tie rfl ⟨rfl, rfl⟩ (by kernel_rfl) rfl signerNeverRepeats_plain (by kernel_rfl)
end Go.Proofs.YtplkplegjoabgaaGreatDoor
