/-
  The card of TreesigVerifiesOwn: every signature of a tree of height 0 to 4 verifies under its root, with a path of as many elements as the height and a chain of 68. No condition.
-/
import Derived.Test.YtjemfefkgfoikaaDoorLawT3
namespace Go.Proofs.YtjemfefkgfoikaaDoor
open Go.ChangeShapes Go.WideShapes Go.ChangeAt Go.RowKit Go.Joins Go.Deep
open Go.ChangeMaps (open_string shut_string)
set_option linter.unusedVariables false

set_option maxRecDepth 100000 in
theorem treesigVerifiesOwn_said {H : Type} {enc : TypeId × Value → H} (v0 : Value) (d0 : DataW H) (p0 : List MemPlace) (W : World) (base : Nat) (hM : ShaMem W)
    (hv0 : Value.okWide Tryd.prog W .any base 58 v0)
    (h0 : DataW.Trod enc Tryd.prog W 0 (fun _ => true) true 58 v0 d0 p0) :
    Calls Tryd.prog 11 #[v0] W fun e W' => e = .returned (.bool true) ∧ Ext W W' := by
  obtain ⟨seed, h, i, msg, rfl, hs, hb1, hb2, hm⟩ := open_in3 hv0 h0
  exact lawT3_any seed msg h i W hM hs hm hb1 hb2

def treesigVerifiesOwn_wit0 : Value := .agg (([.int .u8 0, .int .u8 0, .int .u8 0, .int .u8 0, .int .u8 0, .int .u8 0, .int .u8 0, .int .u8 0, .int .u8 0, .int .u8 0, .int .u8 0, .int .u8 0, .int .u8 0, .int .u8 0, .int .u8 0, .int .u8 0] : List Value) ++ ([.int .u8 0, .int .u8 0, .int .u8 0, .int .u8 0, .int .u8 0, .int .u8 0, .int .u8 0, .int .u8 0, .int .u8 0, .int .u8 0, .int .u8 0, .int .u8 0, .int .u8 0, .int .u8 0, .int .u8 0, .int .u8 0] : List Value) ++ ([.int .u8 0, .int .u8 0] : List Value)).toArray
theorem treesigVerifiesOwn_met (os : Os) : laidMet Tryd.prog Rows.treesigVerifiesOwnRow.laid ((laidWorld os).forCall (fun _ _ => 0) ⟨#[], #[treesigVerifiesOwn_wit0], []⟩).memory :=
  laidMet_of_run' 8 (by kernel_rfl) (by kernel_rfl)
theorem treesigVerifiesOwn_reads (os : Os) {H : Type} (enc : TypeId × Value → H) : ∃ places, DataW.whole enc Tryd.prog ((laidWorld os).forCall (fun _ _ => 0) ⟨#[], #[treesigVerifiesOwn_wit0], []⟩).memory Tryd.f11.params.toList Rows.treesigVerifiesOwnSpec.vars false (#[treesigVerifiesOwn_wit0] : Array Value).toList 8 = some ([.agg [.agg [.lit (.int .u8 0), .lit (.int .u8 0), .lit (.int .u8 0), .lit (.int .u8 0), .lit (.int .u8 0), .lit (.int .u8 0), .lit (.int .u8 0), .lit (.int .u8 0), .lit (.int .u8 0), .lit (.int .u8 0), .lit (.int .u8 0), .lit (.int .u8 0), .lit (.int .u8 0), .lit (.int .u8 0), .lit (.int .u8 0), .lit (.int .u8 0)], .lit (.int .u8 0), .lit (.int .u8 0), .agg [.lit (.int .u8 0), .lit (.int .u8 0), .lit (.int .u8 0), .lit (.int .u8 0), .lit (.int .u8 0), .lit (.int .u8 0), .lit (.int .u8 0), .lit (.int .u8 0), .lit (.int .u8 0), .lit (.int .u8 0), .lit (.int .u8 0), .lit (.int .u8 0), .lit (.int .u8 0), .lit (.int .u8 0), .lit (.int .u8 0), .lit (.int .u8 0)]]], [], places) :=
  ⟨[], by kernel_rfl⟩
set_option maxRecDepth 100000 in
theorem treesigVerifiesOwn_lifted (os : Os) (started : os.Started) (H : Type) (enc : TypeId × Value → H) (F : Stop.Interp) :
    ReturnsInHanded {} Tryd.checked os 11 .any ((OpenSpec.ofChange Rows.treesigVerifiesOwnSpec).preRow enc Tryd.prog Tryd.f11 Rows.treesigVerifiesOwnRow.domain false Rows.treesigVerifiesOwnRow.laid) (((OpenSpec.ofChange Rows.treesigVerifiesOwnSpec).at F).post enc Tryd.prog Tryd.f11 false true false false) := by
  obtain ⟨places, hx⟩ := treesigVerifiesOwn_reads os enc
  refine returnsInHanded_of_row (C := Tryd.checked) (s := OpenSpec.ofChange Rows.treesigVerifiesOwnSpec) own started (by kernel_rfl) Tryd.func11
    (witness_row_at (enc := enc) (C := Tryd.checked) false (laidWorld os) #[treesigVerifiesOwn_wit0] rfl (by kernel_rfl) (by kernel_rfl) (by kernel_rfl)
      (OpenSpec.preRow_of_cond 8 hx (by kernel_rfl) (fun k hk => by cases hk) (by kernel_rfl) (treesigVerifiesOwn_met os))) ?_
  intro W base args ds gs before hval0 hW _ _ _ hL _ _
  have hM := shaMem_of_laid hL
  have hval : ∀ (j : Nat) t v, Tryd.f11.params[j]? = some t → args[j]? = some v → Value.okWide Tryd.prog W .any base t v := hval0
  have hW' := hW
  obtain ⟨p, q, hA0, hV, rfl, hfz, hnd⟩ := hW
  have hA : DataW.TrodAll enc Tryd.prog W 0 (fun _ => true) true Tryd.f11.params.toList args.toList ds p := hA0
  rw [Tryd.params11] at hA hval
  obtain ⟨v0, vs0, d0, ds0, p0, q0, hargs, rfl, rfl, h0, r0⟩ := trodAll_cons hA
  obtain ⟨rfl, rfl, rfl⟩ := trodAll_nil r0
  obtain rfl : args = #[v0] := by cases args; simp_all
  obtain ⟨rfl, rfl⟩ := trodVars_none hV
  have k0 := h0
  have lt0 : ∀ x ∈ p0, x.block < W.heap.size := by obtain ⟨m, hm⟩ := k0; exact DataW.trod_lt m _ _ _ hm
  have hv0 := hval 0 _ v0 rfl rfl
  clear hA0 hval0
  refine (treesigVerifiesOwn_said v0 d0 p0 W base hM hv0 h0).mono fun e W' ⟨he, bel⟩ => ?_
  subst he
  have bel := Ext.below bel
  exact ⟨_, rfl, _, _, _, [], _, [], hW', trodAll_mk1 (shut_bool Tryd.underlying4 _), (trodAll_cons_mk (Below.trod laidOut (by kernel_rfl) (of_decide_eq_true (by kernel_rfl)) k0 bel lt0) trodAll_mk0), rfl, bel.frame _, fun h => by cases h⟩

theorem treesigVerifiesOwn_row : Rows.TreesigVerifiesOwnSaid :=
  OpenClaim.holds_of_cond 11 Tryd.f11 rfl rfl rfl rfl rfl rfl rfl ⟨rfl, rfl, rfl, rfl, rfl⟩ rfl rfl rfl rfl rfl (by kernel_rfl) Tryd.func11 (by kernel_rfl)
    (of_decide_eq_true (by kernel_rfl)) (by unfold Func.isWrapper; first | (rw [if_pos (by decide +kernel)]; kernel_rfl) | (rw [if_neg (by decide +kernel)]; exact ⟨rfl, rfl⟩))
    (fun os started H enc _ F => by rw [OpenClaim.pre_eq_preRow]; exact treesigVerifiesOwn_lifted os started H enc F)
theorem treesigVerifiesOwn_plain (f : FuncId) (fn : Func) (hf : Tryd.pinned.checked.prog.funcNamed "bootchain/bootchainlaw05.TreesigVerifiesOwn" = some f) (hfn : Tryd.pinned.checked.prog.funcs[f]? = some fn) :
    false = Tryd.pinned.checked.prog.looks [] ∧ ∀ (j : Nat) t, fn.params[j]? = some t → Tryd.pinned.checked.prog.wantsStandIn t = false := by
  obtain rfl : f = 11 := Option.some.inj ((show Tryd.prog.funcNamed "bootchain/bootchainlaw05.TreesigVerifiesOwn" = some 11 by kernel_rfl).symm.trans hf) |>.symm
  obtain rfl : fn = Tryd.f11 := (Option.some.inj (Tryd.func11.symm.trans hfn)).symm
  refine ⟨by kernel_rfl, fun j t ht => ?_⟩
  rw [Tryd.params11] at ht
  have hall : ∀ t ∈ (#[58] : Array TypeId), Tryd.prog.wantsStandIn t = false := by decide +kernel
  exact hall t (Array.mem_of_getElem? ht)
/-- The statement. -/
theorem treesigVerifiesOwn_holds : Rows.TreesigVerifiesOwnCardSaid :=
  Claim7.holds_tied_plain_at .later [] _ _ _ _ treesigVerifiesOwn_row (fun _ h => by cases h) (by kernel_rfl) (fun _ h => by cases h) treesigVerifiesOwn_row_tie rfl ⟨rfl, rfl⟩ (by kernel_rfl) rfl treesigVerifiesOwn_plain (by kernel_rfl)

end Go.Proofs.YtjemfefkgfoikaaDoor
