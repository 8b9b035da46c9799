/-
  The card of TreesigBindsKey: whenever a signature verifies, the key recovered from it and its path lead up to the root. No condition.
-/
import Derived.Test.YtjemfefkgfoikaaDoorLawT5Y
namespace Go.Proofs.YtjemfefkgfoikaaDoor
open Go.ChangeShapes Go.WideShapes Go.ChangeAt Go.RowKit Go.Joins Go.Deep
open Go.ChangeMaps (open_string shut_string)
set_option linter.unusedVariables false

set_option maxRecDepth 100000 in
theorem treesigBindsKey_said {H : Type} {enc : TypeId × Value → H} (v0 : Value) (d0 : DataW H) (p0 : List MemPlace) (W : World) (base : Nat) (hM : ShaMem W)
    (hv0 : Value.okWide Tryd.prog W .any base 65 v0)
    (h0 : DataW.Trod enc Tryd.prog W 0 (fun _ => true) true 65 v0 d0 p0) :
    Calls Tryd.prog 13 #[v0] W fun e W' => e = .returned (.bool true) ∧ Ext W W' := by
  obtain ⟨root, h, msg, si, sc, sp, cl, pl, rfl, hr, _, hm, ⟨_, _, h1, h2⟩⟩ := open_in5 hv0 h0
  by_cases hs : smallB cl pl = true
  · obtain ⟨b, hV, _, hb⟩ := vers_agree root msg h si cl pl sc sp W hM hr hm h1 h2 (by have := small_le hs; omega)
    cases b
    · exact lawT5_no root msg h si sc sp cl pl W hM hr hm h1 h2 (.inr ⟨hs, hV⟩)
    · obtain ⟨ho, _, k, j, rfl, rfl, hj, hc, hver⟩ := hb rfl
      exact lawT5_yes root msg k j sc sp cl pl W hM hr hm h1 h2 hs (by obtain ⟨_, h4⟩ := ho; omega) hj hc hver hV
  · exact lawT5_no root msg h si sc sp cl pl W hM hr hm h1 h2 (.inl (by simpa using hs))

def treesigBindsKey_wit0 : Value := .agg (([.int .u8 0, .int .u8 0, .int .u8 0, .int .u8 0, .int .u8 0, .int .u8 0, .int .u8 0, .int .u8 0, .int .u8 0, .int .u8 0, .int .u8 0, .int .u8 0, .int .u8 0, .int .u8 0, .int .u8 0, .int .u8 0] : List Value) ++ ([.int .i64 0, .int .u8 0, .int .u8 0, .int .u8 0, .int .u8 0, .int .u8 0, .int .u8 0, .int .u8 0, .int .u8 0, .int .u8 0, .int .u8 0, .int .u8 0, .int .u8 0, .int .u8 0, .int .u8 0, .int .u8 0] : List Value) ++ ([.int .u8 0, .int .i64 0, .slice none 0 0, .slice none 0 0] : List Value)).toArray
theorem treesigBindsKey_met (os : Os) : laidMet Tryd.prog Rows.treesigBindsKeyRow.laid ((laidWorld os).forCall (fun _ _ => 0) ⟨#[], #[treesigBindsKey_wit0], []⟩).memory :=
  laidMet_of_run' 8 (by kernel_rfl) (by kernel_rfl)
theorem treesigBindsKey_reads (os : Os) {H : Type} (enc : TypeId × Value → H) : ∃ places, DataW.whole enc Tryd.prog ((laidWorld os).forCall (fun _ _ => 0) ⟨#[], #[treesigBindsKey_wit0], []⟩).memory Tryd.f13.params.toList Rows.treesigBindsKeySpec.vars false (#[treesigBindsKey_wit0] : Array Value).toList 8 = some ([.agg [.agg [.lit (.int .u8 0), .lit (.int .u8 0), .lit (.int .u8 0), .lit (.int .u8 0), .lit (.int .u8 0), .lit (.int .u8 0), .lit (.int .u8 0), .lit (.int .u8 0), .lit (.int .u8 0), .lit (.int .u8 0), .lit (.int .u8 0), .lit (.int .u8 0), .lit (.int .u8 0), .lit (.int .u8 0), .lit (.int .u8 0), .lit (.int .u8 0)], .lit (.int .i64 0), .agg [.lit (.int .u8 0), .lit (.int .u8 0), .lit (.int .u8 0), .lit (.int .u8 0), .lit (.int .u8 0), .lit (.int .u8 0), .lit (.int .u8 0), .lit (.int .u8 0), .lit (.int .u8 0), .lit (.int .u8 0), .lit (.int .u8 0), .lit (.int .u8 0), .lit (.int .u8 0), .lit (.int .u8 0), .lit (.int .u8 0), .lit (.int .u8 0)], .agg [.lit (.int .i64 0), .nil, .nil]]], [], places) :=
  ⟨[], by kernel_rfl⟩
set_option maxRecDepth 100000 in
theorem treesigBindsKey_lifted (os : Os) (started : os.Started) (H : Type) (enc : TypeId × Value → H) (F : Stop.Interp) :
    ReturnsInHanded {} Tryd.checked os 13 .any ((OpenSpec.ofChange Rows.treesigBindsKeySpec).preRow enc Tryd.prog Tryd.f13 Rows.treesigBindsKeyRow.domain false Rows.treesigBindsKeyRow.laid) (((OpenSpec.ofChange Rows.treesigBindsKeySpec).at F).post enc Tryd.prog Tryd.f13 false true false false) := by
  obtain ⟨places, hx⟩ := treesigBindsKey_reads os enc
  refine returnsInHanded_of_row (C := Tryd.checked) (s := OpenSpec.ofChange Rows.treesigBindsKeySpec) own started (by kernel_rfl) Tryd.func13
    (witness_row_at (enc := enc) (C := Tryd.checked) false (laidWorld os) #[treesigBindsKey_wit0] rfl (by kernel_rfl) (by kernel_rfl) (by kernel_rfl)
      (OpenSpec.preRow_of_cond 8 hx (by kernel_rfl) (fun k hk => by cases hk) (by kernel_rfl) (treesigBindsKey_met os))) ?_
  intro W base args ds gs before hval0 hW _ _ _ hL _ _
  have hM := shaMem_of_laid hL
  have hval : ∀ (j : Nat) t v, Tryd.f13.params[j]? = some t → args[j]? = some v → Value.okWide Tryd.prog W .any base t v := hval0
  have hW' := hW
  obtain ⟨p, q, hA0, hV, rfl, hfz, hnd⟩ := hW
  have hA : DataW.TrodAll enc Tryd.prog W 0 (fun _ => true) true Tryd.f13.params.toList args.toList ds p := hA0
  rw [Tryd.params13] at hA hval
  obtain ⟨v0, vs0, d0, ds0, p0, q0, hargs, rfl, rfl, h0, r0⟩ := trodAll_cons hA
  obtain ⟨rfl, rfl, rfl⟩ := trodAll_nil r0
  obtain rfl : args = #[v0] := by cases args; simp_all
  obtain ⟨rfl, rfl⟩ := trodVars_none hV
  have k0 := h0
  have lt0 : ∀ x ∈ p0, x.block < W.heap.size := by obtain ⟨m, hm⟩ := k0; exact DataW.trod_lt m _ _ _ hm
  have hv0 := hval 0 _ v0 rfl rfl
  clear hA0 hval0
  refine (treesigBindsKey_said v0 d0 p0 W base hM hv0 h0).mono fun e W' ⟨he, bel⟩ => ?_
  subst he
  have bel := Ext.below bel
  exact ⟨_, rfl, _, _, _, [], _, [], hW', trodAll_mk1 (shut_bool Tryd.underlying4 _), (trodAll_cons_mk (Below.trod laidOut (by kernel_rfl) (of_decide_eq_true (by kernel_rfl)) k0 bel lt0) trodAll_mk0), rfl, bel.frame _, fun h => by cases h⟩

theorem treesigBindsKey_row : Rows.TreesigBindsKeySaid :=
  OpenClaim.holds_of_cond 13 Tryd.f13 rfl rfl rfl rfl rfl rfl rfl ⟨rfl, rfl, rfl, rfl, rfl⟩ rfl rfl rfl rfl rfl (by kernel_rfl) Tryd.func13 (by kernel_rfl)
    (of_decide_eq_true (by kernel_rfl)) (by unfold Func.isWrapper; first | (rw [if_pos (by decide +kernel)]; kernel_rfl) | (rw [if_neg (by decide +kernel)]; exact ⟨rfl, rfl⟩))
    (fun os started H enc _ F => by rw [OpenClaim.pre_eq_preRow]; exact treesigBindsKey_lifted os started H enc F)
theorem treesigBindsKey_plain (f : FuncId) (fn : Func) (hf : Tryd.pinned.checked.prog.funcNamed "bootchain/bootchainlaw05.TreesigBindsKey" = some f) (hfn : Tryd.pinned.checked.prog.funcs[f]? = some fn) :
    false = Tryd.pinned.checked.prog.looks [] ∧ ∀ (j : Nat) t, fn.params[j]? = some t → Tryd.pinned.checked.prog.wantsStandIn t = false := by
  obtain rfl : f = 13 := Option.some.inj ((show Tryd.prog.funcNamed "bootchain/bootchainlaw05.TreesigBindsKey" = some 13 by kernel_rfl).symm.trans hf) |>.symm
  obtain rfl : fn = Tryd.f13 := (Option.some.inj (Tryd.func13.symm.trans hfn)).symm
  refine ⟨by kernel_rfl, fun j t ht => ?_⟩
  rw [Tryd.params13] at ht
  have hall : ∀ t ∈ (#[65] : Array TypeId), Tryd.prog.wantsStandIn t = false := by decide +kernel
  exact hall t (Array.mem_of_getElem? ht)
/-- The statement. -/
theorem treesigBindsKey_holds : Rows.TreesigBindsKeyCardSaid :=
  Claim7.holds_tied_plain_at .later [] _ _ _ _ treesigBindsKey_row (fun _ h => by cases h) (by kernel_rfl) (fun _ h => by cases h) treesigBindsKey_row_tie rfl ⟨rfl, rfl⟩ (by kernel_rfl) rfl treesigBindsKey_plain (by kernel_rfl)

end Go.Proofs.YtjemfefkgfoikaaDoor
