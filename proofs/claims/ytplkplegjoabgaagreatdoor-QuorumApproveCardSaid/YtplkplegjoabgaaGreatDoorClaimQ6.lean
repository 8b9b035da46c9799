/-
  The card of QuorumApprove: for every input the law returns true.
-/
import Derived.Test.YtplkplegjoabgaaGreatDoorQzN
import Derived.Test.YtplkplegjoabgaaGreatDoorQuR4
namespace Go.Proofs.YtplkplegjoabgaaGreatDoor
open Go.ChangeShapes Go.WideShapes Go.ChangeAt Go.RowKit Go.Joins Go.Deep
open Go.ChangeMaps (open_string shut_string)
set_option linter.unusedVariables false

set_option maxRecDepth 100000 in
theorem quorumApprove_said {H : Type} {enc : TypeId × Value → H} (v0 v1 v2 : Value) (d0 d1 d2 : DataW H) (p0 p1 p2 : List MemPlace) (W : World) (base : Nat) (hM : ShaMem W)
    (hv0 : Value.okWide Tryz.prog W .any base 70 v0) (hv1 : Value.okWide Tryz.prog W .any base 75 v1) (hv2 : Value.okWide Tryz.prog W .any base 77 v2)
    (h0 : DataW.Trod enc Tryz.prog W 0 (fun _ => true) true 70 v0 d0 p0) (h1 : DataW.Trod enc Tryz.prog W 0 (fun _ => true) true 75 v1 d1 p1) (h2 : DataW.Trod enc Tryz.prog W 0 (fun _ => true) true 77 v2 d2 p2) :
    Calls Tryz.prog 7 #[v0, v1, v2] W fun e W' => e = .returned (.bool true) ∧ Ext W W' := by
  obtain ⟨s, hs, hR⟩ := Pv.open_ks hv0 h0
  obtain ⟨m, L, T, hm, hB⟩ := Pv.open_bun hv1 h1
  obtain ⟨n, l, hn, hN⟩ := Pv.open_rot hv2 h2
  exact (Pv.qappr_law s m n hs hm hn L l T).law hM ⟨hR, hB, hN, trivial⟩

def quorumApprove_wit0 : Value := .agg (([.int .i64 0, .int .i64 0, .int .i64 0, .slice none 0 0] : List Value)).toArray
def quorumApprove_wit1 : Value := .agg (([.int .i64 0, .int .i64 0, .int .i64 0, .slice none 0 0, .slice none 0 0, .slice none 0 0] : List Value)).toArray
def quorumApprove_wit2 : Value := .agg (([.int .i64 0, .int .i64 0, .int .i64 0, .slice none 0 0, .slice none 0 0] : List Value)).toArray
theorem quorumApprove_met (os : Os) : laidMet Tryz.prog Rows.quorumApproveRow.laid ((laidWorld os).forCall (fun _ _ => 0) ⟨#[], #[quorumApprove_wit0, quorumApprove_wit1, quorumApprove_wit2], []⟩).memory :=
  laidMet_of_run' 8 (by kernel_rfl) (by kernel_rfl)
theorem quorumApprove_reads (os : Os) {H : Type} (enc : TypeId × Value → H) : ∃ places, DataW.whole enc Tryz.prog ((laidWorld os).forCall (fun _ _ => 0) ⟨#[], #[quorumApprove_wit0, quorumApprove_wit1, quorumApprove_wit2], []⟩).memory Tryz.f7.params.toList Rows.quorumApproveSpec.vars false (#[quorumApprove_wit0, quorumApprove_wit1, quorumApprove_wit2] : Array Value).toList 8 = some ([.agg [.lit (.int .i64 0), .lit (.int .i64 0), .lit (.int .i64 0), .nil], .agg [.agg [.lit (.int .i64 0), .lit (.int .i64 0), .lit (.int .i64 0), .nil], .nil, .nil], .agg [.agg [.lit (.int .i64 0), .lit (.int .i64 0), .lit (.int .i64 0), .nil], .nil]], [], places) :=
  ⟨[], by kernel_rfl⟩
set_option maxRecDepth 100000 in
theorem quorumApprove_lifted (os : Os) (started : os.Started) (H : Type) (enc : TypeId × Value → H) (F : Stop.Interp) :
    ReturnsInHanded {} Tryz.checked os 7 .any ((OpenSpec.ofChange Rows.quorumApproveSpec).preRow enc Tryz.prog Tryz.f7 Rows.quorumApproveRow.domain false Rows.quorumApproveRow.laid) (((OpenSpec.ofChange Rows.quorumApproveSpec).at F).post enc Tryz.prog Tryz.f7 false true false false) := by
  obtain ⟨places, hx⟩ := quorumApprove_reads os enc
  refine returnsInHanded_of_row (C := Tryz.checked) (s := OpenSpec.ofChange Rows.quorumApproveSpec) own started (by kernel_rfl) Tryz.func7
    (witness_row_at (enc := enc) (C := Tryz.checked) false (laidWorld os) #[quorumApprove_wit0, quorumApprove_wit1, quorumApprove_wit2] rfl (by kernel_rfl) (by kernel_rfl) (by kernel_rfl)
      (OpenSpec.preRow_of_cond 8 hx (by kernel_rfl) (fun k hk => by cases hk) (by kernel_rfl) (quorumApprove_met os))) ?_
  intro W base args ds gs before hval0 hW _ _ _ hL _ _
  have hM := shaMem_of_laid hL
  have hval : ∀ (j : Nat) t v, Tryz.f7.params[j]? = some t → args[j]? = some v → Value.okWide Tryz.prog W .any base t v := hval0
  have hW' := hW
  obtain ⟨p, q, hA0, hV, rfl, hfz, hnd⟩ := hW
  have hA : DataW.TrodAll enc Tryz.prog W 0 (fun _ => true) true Tryz.f7.params.toList args.toList ds p := hA0
  rw [Tryz.params7] at hA hval
  obtain ⟨v0, vs0, d0, ds0, p0, q0, hargs, rfl, rfl, h0, r0⟩ := trodAll_cons hA
  obtain ⟨v1, vs1, d1, ds1, p1, q1, rfl, rfl, rfl, h1, r1⟩ := trodAll_cons r0
  obtain ⟨v2, vs2, d2, ds2, p2, q2, rfl, rfl, rfl, h2, r2⟩ := trodAll_cons r1
  obtain ⟨rfl, rfl, rfl⟩ := trodAll_nil r2
  obtain rfl : args = #[v0, v1, v2] := by cases args; simp_all
  obtain ⟨rfl, rfl⟩ := trodVars_none hV
  have k0 := h0
  have lt0 : ∀ x ∈ p0, x.block < W.heap.size := by obtain ⟨m, hm⟩ := k0; exact DataW.trod_lt m _ _ _ hm
  have hv0 := hval 0 _ v0 rfl rfl
  have k1 := h1
  have lt1 : ∀ x ∈ p1, x.block < W.heap.size := by obtain ⟨m, hm⟩ := k1; exact DataW.trod_lt m _ _ _ hm
  have hv1 := hval 1 _ v1 rfl rfl
  have k2 := h2
  have lt2 : ∀ x ∈ p2, x.block < W.heap.size := by obtain ⟨m, hm⟩ := k2; exact DataW.trod_lt m _ _ _ hm
  have hv2 := hval 2 _ v2 rfl rfl
  clear hA0 hval0
  refine (quorumApprove_said v0 v1 v2 d0 d1 d2 p0 p1 p2 W base hM hv0 hv1 hv2 h0 h1 h2).mono fun e W' ⟨he, bel⟩ => ?_
  subst he
  have bel := Ext.below bel
  exact ⟨_, rfl, _, _, _, [], _, [], hW', trodAll_mk1 (shut_bool Tryz.underlying4 _), (trodAll_cons_mk (Below.trod laidOut (by kernel_rfl) (of_decide_eq_true (by kernel_rfl)) k0 bel lt0) (trodAll_cons_mk (Below.trod laidOut (by kernel_rfl) (of_decide_eq_true (by kernel_rfl)) k1 bel lt1) (trodAll_cons_mk (Below.trod laidOut (by kernel_rfl) (of_decide_eq_true (by kernel_rfl)) k2 bel lt2) trodAll_mk0))), rfl, bel.frame _, fun h => by cases h⟩

theorem quorumApprove_row : Rows.QuorumApproveSaid :=
  OpenClaim.holds_of_cond 7 Tryz.f7 rfl rfl rfl rfl rfl rfl rfl ⟨rfl, rfl, rfl, rfl, rfl⟩ rfl rfl rfl rfl rfl (by kernel_rfl) Tryz.func7 (by kernel_rfl)
    (of_decide_eq_true (by kernel_rfl)) (by unfold Func.isWrapper; first | (rw [if_pos (by decide +kernel)]; kernel_rfl) | (rw [if_neg (by decide +kernel)]; exact ⟨rfl, rfl⟩))
    (fun os started H enc _ F => by rw [OpenClaim.pre_eq_preRow]; exact quorumApprove_lifted os started H enc F)
theorem quorumApprove_plain (f : FuncId) (fn : Func) (hf : Tryz.pinned.checked.prog.funcNamed "bootchain/bootchainlaw24.QuorumApprove" = some f) (hfn : Tryz.pinned.checked.prog.funcs[f]? = some fn) :
    Rows.quorumApproveCard.stood.looks = Tryz.pinned.checked.prog.looks [] ∧ ∀ (j : Nat) t, fn.params[j]? = some t → Tryz.pinned.checked.prog.wantsStandIn t = false := by
  obtain rfl : f = 7 := Option.some.inj ((show Tryz.prog.funcNamed "bootchain/bootchainlaw24.QuorumApprove" = some 7 by kernel_rfl).symm.trans hf) |>.symm
  obtain rfl : fn = Tryz.f7 := (Option.some.inj (Tryz.func7.symm.trans hfn)).symm
  refine ⟨by kernel_rfl, fun j t ht => ?_⟩
  rw [Tryz.params7] at ht
  have hall : ∀ t ∈ (#[70, 75, 77] : Array TypeId), Tryz.prog.wantsStandIn t = false := by decide +kernel
  exact hall t (Array.mem_of_getElem? ht)
/-- The statement. -/
theorem quorumApprove_holds : Rows.QuorumApproveCardSaid :=
  Claim7.holds_tied_plain_at .later [] _ _ _ _ quorumApprove_row (fun _ h => by cases h) (by kernel_rfl) (fun _ h => by cases h) quorumApprove_row_tie rfl ⟨rfl, rfl⟩ (by kernel_rfl) rfl quorumApprove_plain (by kernel_rfl)

end Go.Proofs.YtplkplegjoabgaaGreatDoor
