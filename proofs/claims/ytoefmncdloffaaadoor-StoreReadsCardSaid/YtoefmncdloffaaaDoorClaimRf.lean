/-
  The card of StoreReads: for every input the law returns true.
-/
import Derived.Test.YtoefmncdloffaaaDoorLsN
import Derived.Test.YtoefmncdloffaaaDoorLsM
namespace Go.Proofs.YtoefmncdloffaaaDoor
open Go.ChangeShapes Go.WideShapes Go.ChangeAt Go.RowKit Go.Joins Go.Deep
open Go.ChangeMaps (open_string shut_string)
set_option linter.unusedVariables false
namespace Pv
section
variable {H : Type} {enc : TypeId × Value → H} {w : World} {base : Nat} {spare : Nat → Bool} {held : Bool}
theorem trod_u8r {fuel : Nat} {cs : List Value} {x : DataW H × List MemPlace} (h : DataW.trod enc Tryd.prog w base spare held fuel 29 cs = some x) : ∃ (v : Value) (l : List UInt8), cs = [v] ∧ R (argX w) (.sl 1 l.length (byF l)) [v] := by
  obtain ⟨v, l, rfl, hr⟩ := trod_bytes Tryd.underlying29 Tryd.underlying5 (by kernel_rfl) h
  refine ⟨v, l, rfl, ?_⟩
  have e : l.map u8v = l.flatMap fun b => [u8v b] := by
    clear hr
    induction l with
    | nil => rfl
    | cons a l ih => rw [List.map_cons, List.flatMap_cons, ih]; rfl
  rw [e] at hr
  refine rsl_of (g := fun b : UInt8 => [u8v b]) (by omega) (fun b hb => rfl) hr (fun C i hi => ?_)
  unfold byF
  rw [List.getD_eq_getElem?_getD, List.getElem?_eq_getElem hi]
  exact .cons (.lit rfl) .nil
end
section
variable {H : Type} {enc : TypeId × Value → H} {v : Value} {d : DataW H} {p : List MemPlace} {W : World} {base : Nat}
set_option maxRecDepth 100000 in
theorem open_u8r (hv : Value.okWide Tryd.prog W .any base 5 v) (h : DataW.Trod enc Tryd.prog W 0 (fun _ => true) true 5 v d p) : ∃ z : Int, 0 ≤ z ∧ z ≤ 255 ∧ v = .int .u8 z := by
  obtain ⟨z, rfl, _, _, hz⟩ := open_int Tryd.underlying5 hv h
  have hb : 0 ≤ z ∧ z ≤ 255 := by
    simp [Lit.wf, IntKind.min, IntKind.max, IntKind.signed, IntKind.bits] at hz
    omega
  exact ⟨z, hb.1, hb.2, rfl⟩
set_option maxRecDepth 100000 in
theorem open_byr (hv : Value.okWide Tryd.prog W .any base 29 v) (h : DataW.Trod enc Tryd.prog W 0 (fun _ => true) true 29 v d p) : ∃ l : List UInt8, RV (argX W) (pv1 (.sl 1 l.length (byF l))) v := by
  obtain ⟨A2, len2, cap2, rfl⟩ := okWide_slice Tryd.underlying29 hv
  obtain ⟨m2, h⟩ := h
  obtain ⟨v, l, hl, hp⟩ := trod_u8r h
  simp [Value.cells] at hl
  subst hl
  exact ⟨l, .w (.one hp)⟩
end
end Pv
set_option maxRecDepth 100000 in
theorem storeReads_said {H : Type} {enc : TypeId × Value → H} (v0 v1 v2 v3 : Value) (d0 d1 d2 d3 : DataW H) (p0 p1 p2 p3 : List MemPlace) (W : World) (base : Nat) (hM : ShaMem W)
    (hv0 : Value.okWide Tryd.prog W .any base 68 v0) (hv1 : Value.okWide Tryd.prog W .any base 5 v1) (hv2 : Value.okWide Tryd.prog W .any base 5 v2) (hv3 : Value.okWide Tryd.prog W .any base 29 v3)
    (h0 : DataW.Trod enc Tryd.prog W 0 (fun _ => true) true 68 v0 d0 p0) (h1 : DataW.Trod enc Tryd.prog W 0 (fun _ => true) true 5 v1 d1 p1) (h2 : DataW.Trod enc Tryd.prog W 0 (fun _ => true) true 5 v2 d2 p2) (h3 : DataW.Trod enc Tryd.prog W 0 (fun _ => true) true 29 v3 d3 p3) :
    Calls Tryd.prog 11 #[v0, v1, v2, v3] W fun e W' => e = .returned (.bool true) ∧ Ext W W' := by
  obtain ⟨l, hR, hl⟩ := Pv.open_upds hv0 h0
  obtain ⟨r, hr0, hr1, rfl⟩ := Pv.open_u8r hv1 h1
  obtain ⟨s, hs0, hs1, rfl⟩ := Pv.open_u8r hv2 h2
  obtain ⟨b, hB⟩ := Pv.open_byr hv3 h3
  exact (Pv.law_reads l hl r s hr0 hr1 hs0 hs1 b).law hM ⟨hR, .w (.one (.lit rfl)), .w (.one (.lit rfl)), hB, trivial⟩
theorem storeReads_met (os : Os) : laidMet Tryd.prog Rows.storeReadsRow.laid ((laidWorld os).forCall (fun _ _ => 0) ⟨#[], #[.slice none 0 0, .int .u8 0, .int .u8 0, .slice none 0 0], []⟩).memory :=
  laidMet_of_run' 8 (by kernel_rfl) (by kernel_rfl)
theorem storeReads_reads (os : Os) {H : Type} (enc : TypeId × Value → H) : ∃ places, DataW.whole enc Tryd.prog ((laidWorld os).forCall (fun _ _ => 0) ⟨#[], #[.slice none 0 0, .int .u8 0, .int .u8 0, .slice none 0 0], []⟩).memory Tryd.f11.params.toList Rows.storeReadsSpec.vars false (#[.slice none 0 0, .int .u8 0, .int .u8 0, .slice none 0 0] : Array Value).toList 8 = some ([.nil, .lit (.int .u8 0), .lit (.int .u8 0), .nil], [], places) :=
  ⟨[], by kernel_rfl⟩
set_option maxRecDepth 100000 in
theorem storeReads_lifted (os : Os) (started : os.Started) (H : Type) (enc : TypeId × Value → H) (F : Stop.Interp) :
    ReturnsInHanded {} Tryd.checked os 11 .any ((OpenSpec.ofChange Rows.storeReadsSpec).preRow enc Tryd.prog Tryd.f11 Rows.storeReadsRow.domain false Rows.storeReadsRow.laid) (((OpenSpec.ofChange Rows.storeReadsSpec).at F).post enc Tryd.prog Tryd.f11 false true false false) := by
  obtain ⟨places, hx⟩ := storeReads_reads os enc
  refine returnsInHanded_of_row (C := Tryd.checked) (s := OpenSpec.ofChange Rows.storeReadsSpec) own started (by kernel_rfl) Tryd.func11
    (witness_row_at (enc := enc) (C := Tryd.checked) false (laidWorld os) #[.slice none 0 0, .int .u8 0, .int .u8 0, .slice none 0 0] rfl (by kernel_rfl) (by kernel_rfl) (by kernel_rfl)
      (OpenSpec.preRow_of_cond 8 hx (by kernel_rfl) (fun k hk => by cases hk) (by kernel_rfl) (storeReads_met os))) ?_
  intro W base args ds gs before hval0 hW _ _ _ hL _ _
  have hM := shaMem_of_laid hL
  have hval : ∀ (j : Nat) t v, Tryd.f11.params[j]? = some t → args[j]? = some v → Value.okWide Tryd.prog W .any base t v := hval0
  have hW' := hW
  obtain ⟨p, q, hA0, hV, rfl, hfz, hnd⟩ := hW
  have hA : DataW.TrodAll enc Tryd.prog W 0 (fun _ => true) true Tryd.f11.params.toList args.toList ds p := hA0
  rw [Tryd.params11] at hA hval
  obtain ⟨v0, vs0, d0, ds0, p0, q0, hargs, rfl, rfl, h0, r0⟩ := trodAll_cons hA
  obtain ⟨v1, vs1, d1, ds1, p1, q1, rfl, rfl, rfl, h1, r1⟩ := trodAll_cons r0
  obtain ⟨v2, vs2, d2, ds2, p2, q2, rfl, rfl, rfl, h2, r2⟩ := trodAll_cons r1
  obtain ⟨v3, vs3, d3, ds3, p3, q3, rfl, rfl, rfl, h3, r3⟩ := trodAll_cons r2
  obtain ⟨rfl, rfl, rfl⟩ := trodAll_nil r3
  obtain rfl : args = #[v0, v1, v2, v3] := by cases args; simp_all
  obtain ⟨rfl, rfl⟩ := trodVars_none hV
  have k0 := h0
  have lt0 : ∀ x ∈ p0, x.block < W.heap.size := by obtain ⟨m, hm⟩ := k0; exact DataW.trod_lt m _ _ _ hm
  have hv0 := hval 0 _ v0 rfl rfl
  have k1 := h1
  have lt1 : ∀ x ∈ p1, x.block < W.heap.size := by obtain ⟨m, hm⟩ := k1; exact DataW.trod_lt m _ _ _ hm
  have hv1 := hval 1 _ v1 rfl rfl
  have k2 := h2
  have lt2 : ∀ x ∈ p2, x.block < W.heap.size := by obtain ⟨m, hm⟩ := k2; exact DataW.trod_lt m _ _ _ hm
  have hv2 := hval 2 _ v2 rfl rfl
  have k3 := h3
  have lt3 : ∀ x ∈ p3, x.block < W.heap.size := by obtain ⟨m, hm⟩ := k3; exact DataW.trod_lt m _ _ _ hm
  have hv3 := hval 3 _ v3 rfl rfl
  clear hA0 hval0
  refine (storeReads_said v0 v1 v2 v3 d0 d1 d2 d3 p0 p1 p2 p3 W base hM hv0 hv1 hv2 hv3 h0 h1 h2 h3).mono fun e W' ⟨he, bel⟩ => ?_
  subst he
  have bel := Ext.below bel
  exact ⟨_, rfl, _, _, _, [], _, [], hW', trodAll_mk1 (shut_bool Tryd.underlying4 _), (trodAll_cons_mk (Below.trod laidOut (by kernel_rfl) (of_decide_eq_true (by kernel_rfl)) k0 bel lt0) (trodAll_cons_mk (Below.trod laidOut (by kernel_rfl) (of_decide_eq_true (by kernel_rfl)) k1 bel lt1) (trodAll_cons_mk (Below.trod laidOut (by kernel_rfl) (of_decide_eq_true (by kernel_rfl)) k2 bel lt2) (trodAll_cons_mk (Below.trod laidOut (by kernel_rfl) (of_decide_eq_true (by kernel_rfl)) k3 bel lt3) trodAll_mk0)))), rfl, bel.frame _, fun h => by cases h⟩
theorem storeReads_row : Rows.StoreReadsSaid :=
  OpenClaim.holds_of_cond 11 Tryd.f11 rfl rfl rfl rfl rfl rfl rfl ⟨rfl, rfl, rfl, rfl, rfl⟩ rfl rfl rfl rfl rfl (by kernel_rfl) Tryd.func11 (by kernel_rfl)
    (of_decide_eq_true (by kernel_rfl)) (by unfold Func.isWrapper; first | (rw [if_pos (by decide +kernel)]; kernel_rfl) | (rw [if_neg (by decide +kernel)]; exact ⟨rfl, rfl⟩))
    (fun os started H enc _ F => by rw [OpenClaim.pre_eq_preRow]; exact storeReads_lifted os started H enc F)
theorem storeReads_plain (f : FuncId) (fn : Func) (hf : Tryd.pinned.checked.prog.funcNamed "bootchain/bootchainlaw10.StoreReads" = some f) (hfn : Tryd.pinned.checked.prog.funcs[f]? = some fn) :
    Rows.storeReadsCard.stood.looks = Tryd.pinned.checked.prog.looks [] ∧ ∀ (j : Nat) t, fn.params[j]? = some t → Tryd.pinned.checked.prog.wantsStandIn t = false := by
  obtain rfl : f = 11 := Option.some.inj ((show Tryd.prog.funcNamed "bootchain/bootchainlaw10.StoreReads" = some 11 by kernel_rfl).symm.trans hf) |>.symm
  obtain rfl : fn = Tryd.f11 := (Option.some.inj (Tryd.func11.symm.trans hfn)).symm
  refine ⟨by kernel_rfl, fun j t ht => ?_⟩
  rw [Tryd.params11] at ht
  have hall : ∀ t ∈ (#[68, 5, 5, 29] : Array TypeId), Tryd.prog.wantsStandIn t = false := by decide +kernel
  exact hall t (Array.mem_of_getElem? ht)
theorem storeReads_holds : Rows.StoreReadsCardSaid :=
  Claim7.holds_tied_plain_at .later [] _ _ _ _ storeReads_row (fun _ h => by cases h) (by kernel_rfl) (fun _ h => by cases h) storeReads_row_tie rfl ⟨rfl, rfl⟩ (by kernel_rfl) rfl storeReads_plain (by kernel_rfl)
end Go.Proofs.YtoefmncdloffaaaDoor
