/-
 The card of SignerRunMatchesSpec: for every input the law returns true.
-/
import Derived.Test.YtihghljfmlbfhaaGreatDoorRzS
import Derived.Test.YtihghljfmlbfhaaGreatDoorRzL
namespace Go.Proofs.YtihghljfmlbfhaaGreatDoor
open Go.ChangeShapes Go.WideShapes Go.ChangeAt Go.RowKit Go.Joins Go.Deep
open Go.ChangeMaps (open_string shut_string)
set_option linter.unusedVariables false
namespace Pv
section
variable {H : Type} {enc : TypeId × Value → H} {w : World} {base : Nat} {spare : Nat → Bool} {held : Bool}
theorem aKq {fuel : Nat} {cs : List Value} {x : DataW H × List MemPlace} (h : DataW.trod enc Tryz.prog w base spare held fuel 40 cs = some x) : ∃ (v : Value) (l : List UInt8), cs = [v] ∧ R (argX w) (.sl 1 l.length (byF l)) [v] := by
 obtain ⟨v, l, rfl, hr⟩ := aMz Tryz.underlying40 Tryz.underlying5 (by kernel_rfl) h
 refine ⟨v, l, rfl, ?_⟩
 have e : l.map u8v = l.flatMap fun b => [u8v b] := by
  clear hr
  induction l with
  | nil => rfl
  | cons a l ih => rw [List.map_cons, List.flatMap_cons, ih]; rfl
 rw [e] at hr
 refine rsl_of (g := fun b : UInt8 => [u8v b]) (by omega) (fun b hb => rfl) hr (fun C i hi => ?_)
 unfold byF
 rw [zG, zH hi]
 exact .cons (.lit rfl) .nil
end
section
variable {H : Type} {enc : TypeId × Value → H} {v : Value} {d : DataW H} {p : List MemPlace} {W : World} {base : Nat}
set_option maxRecDepth 100000 in
theorem open_f5 (hv : Value.okWide Tryz.prog W .any base 42 v) (h : DataW.Trod enc Tryz.prog W 0 (fun _ => true) true 42 v d p) :
  ∃ (cells seed m F : List UInt8) (hh : Int), i64P hh ∧ RV (argX W) (.w (.agg [.sl 1 cells.length (byF cells), .bs 16 seed, .lit (.int .i64 hh), .bs 16 m, .sl 1 F.length (byF F)])) v := by
 obtain ⟨cs, rfl, hfl, hf⟩ := aOi (ns := [1, 16, 1, 16, 1]) Tryz.underlying42 (by kernel_rfl) (by kernel_rfl) hv h
 obtain ⟨m0, y0, t0⟩ := hf 0 _ rfl
 obtain ⟨m1, y1, t1⟩ := hf 1 _ rfl
 obtain ⟨m2, y2, t2⟩ := hf 2 _ rfl
 obtain ⟨m3, y3, t3⟩ := hf 3 _ rfl
 obtain ⟨m4, y4, t4⟩ := hf 4 _ rfl
 have hcs : cs = (splitBy [1, 16, 1, 16, 1] cs).getD 0 [] ++ ((splitBy [1, 16, 1, 16, 1] cs).getD 1 [] ++ ((splitBy [1, 16, 1, 16, 1] cs).getD 2 [] ++ ((splitBy [1, 16, 1, 16, 1] cs).getD 3 [] ++ ((splitBy [1, 16, 1, 16, 1] cs).getD 4 [] ++ [])))) := hfl.symm
 obtain ⟨v0, l0, e0, r0⟩ := aKq t0
 obtain ⟨l1, hl1, e1⟩ := uM Tryz.underlying23 Tryz.underlying5 (by kernel_rfl) (by kernel_rfl) t1
 obtain ⟨z2, e2, _, hw2⟩ := DataW.trod_int Tryz.underlying3 t2
 obtain ⟨l3, hl3, e3⟩ := uM Tryz.underlying23 Tryz.underlying5 (by kernel_rfl) (by kernel_rfl) t3
 obtain ⟨v4, l4, e4, r4⟩ := aKq t4
 rw [e0, e1, e2, e3, e4] at hcs
 refine ⟨l0, l1, l3, l4, z2, int_in8 hw2, ?_⟩
 rw [hcs]
 exact .w (.agg (.cons (xs := [_]) r0 (.cons (xs := l1.map u8v) (.bs hl1) (.cons (xs := [_]) (.lit rfl) (.cons (xs := l3.map u8v) (.bs hl3) (.cons (xs := [_]) r4 .nil))))))
end
end Pv
set_option maxRecDepth 100000 in
theorem nS {H : Type} {enc : TypeId × Value → H} (v0 : Value) (d0 : DataW H) (p0 : List MemPlace) (W : World) (base : Nat) (hM : ShaMem W)
  (hv0 : Value.okWide Tryz.prog W .any base 42 v0)
  (h0 : DataW.Trod enc Tryz.prog W 0 (fun _ => true) true 42 v0 d0 p0) :
  Calls Tryz.prog 4 #[v0] W fun e W' => e = .returned (.bool true) ∧ Ext W W' := by
 obtain ⟨cells, seed, m, F, hh, hi, hR⟩ := Pv.open_f5 hv0 h0
 exact (Pv.srun_law cells seed m F hh hi).law hM ⟨hR, trivial⟩
def fB : Value := .agg (([.slice none 0 0, .int .u8 0, .int .u8 0, .int .u8 0, .int .u8 0, .int .u8 0, .int .u8 0, .int .u8 0, .int .u8 0, .int .u8 0, .int .u8 0, .int .u8 0, .int .u8 0, .int .u8 0, .int .u8 0, .int .u8 0] : List Value) ++ ([.int .u8 0, .int .i64 0, .int .u8 0, .int .u8 0, .int .u8 0, .int .u8 0, .int .u8 0, .int .u8 0, .int .u8 0, .int .u8 0, .int .u8 0, .int .u8 0, .int .u8 0, .int .u8 0, .int .u8 0, .int .u8 0] : List Value) ++ ([.int .u8 0, .int .u8 0, .slice none 0 0] : List Value)).toArray
theorem oG (os : Os) : laidMet Tryz.prog Rows.signerRunMatchesSpecRow.laid ((laidWorld os).forCall (fun _ _ => 0) ⟨#[], #[fB], []⟩).memory :=
 laidMet_of_run' 8 (by kernel_rfl) (by kernel_rfl)
theorem mO (os : Os) {H : Type} (enc : TypeId × Value → H) : ∃ places, DataW.whole enc Tryz.prog ((laidWorld os).forCall (fun _ _ => 0) ⟨#[], #[fB], []⟩).memory Tryz.f4.params.toList Rows.signerRunMatchesSpecSpec.vars false (#[fB] : Array Value).toList 8 = some ([.agg [.nil, .agg [.lit (.int .u8 0), .lit (.int .u8 0), .lit (.int .u8 0), .lit (.int .u8 0), .lit (.int .u8 0), .lit (.int .u8 0), .lit (.int .u8 0), .lit (.int .u8 0), .lit (.int .u8 0), .lit (.int .u8 0), .lit (.int .u8 0), .lit (.int .u8 0), .lit (.int .u8 0), .lit (.int .u8 0), .lit (.int .u8 0), .lit (.int .u8 0)], .lit (.int .i64 0), .agg [.lit (.int .u8 0), .lit (.int .u8 0), .lit (.int .u8 0), .lit (.int .u8 0), .lit (.int .u8 0), .lit (.int .u8 0), .lit (.int .u8 0), .lit (.int .u8 0), .lit (.int .u8 0), .lit (.int .u8 0), .lit (.int .u8 0), .lit (.int .u8 0), .lit (.int .u8 0), .lit (.int .u8 0), .lit (.int .u8 0), .lit (.int .u8 0)], .nil]], [], places) :=
 ⟨[], by kernel_rfl⟩
set_option maxRecDepth 100000 in
theorem lV (os : Os) (started : os.Started) (H : Type) (enc : TypeId × Value → H) (F : Stop.Interp) :
  ReturnsInHanded {} Tryz.checked os 4 .any ((OpenSpec.ofChange Rows.signerRunMatchesSpecSpec).preRow enc Tryz.prog Tryz.f4 Rows.signerRunMatchesSpecRow.domain false Rows.signerRunMatchesSpecRow.laid) (((OpenSpec.ofChange Rows.signerRunMatchesSpecSpec).at F).post enc Tryz.prog Tryz.f4 false true false false) := by
 obtain ⟨places, hx⟩ := mO os enc
 refine returnsInHanded_of_row (C := Tryz.checked) (s := OpenSpec.ofChange Rows.signerRunMatchesSpecSpec) own started (by kernel_rfl) Tryz.func4
  (witness_row_at (enc := enc) (C := Tryz.checked) false (laidWorld os) #[fB] rfl (by kernel_rfl) (by kernel_rfl) (by kernel_rfl)
   (OpenSpec.preRow_of_cond 8 hx (by kernel_rfl) (fun k hk => by cases hk) (by kernel_rfl) (oG os))) ?_
 intro W base args ds gs before hval0 hW _ _ _ hL _ _
 have hM := aAv hL
 have hval : ∀ (j : Nat) t v, Tryz.f4.params[j]? = some t → args[j]? = some v → Value.okWide Tryz.prog W .any base t v := hval0
 have hW' := hW
 obtain ⟨p, q, hA0, hV, rfl, hfz, hnd⟩ := hW
 have hA : DataW.TrodAll enc Tryz.prog W 0 (fun _ => true) true Tryz.f4.params.toList args.toList ds p := hA0
 rw [Tryz.params4] at hA hval
 obtain ⟨v0, vs0, d0, ds0, p0, q0, hargs, rfl, rfl, h0, r0⟩ := trodAll_cons hA
 obtain ⟨rfl, rfl, rfl⟩ := trodAll_nil r0
 obtain rfl : args = #[v0] := by cases args; simp_all
 obtain ⟨rfl, rfl⟩ := trodVars_none hV
 have k0 := h0
 have lt0 : ∀ x ∈ p0, x.block < W.heap.size := by obtain ⟨m, hm⟩ := k0; exact DataW.trod_lt m _ _ _ hm
 have hv0 := hval 0 _ v0 rfl rfl
 clear hA0 hval0
 refine (nS v0 d0 p0 W base hM hv0 h0).mono fun e W' ⟨he, bel⟩ => ?_
 subst he
 have bel := Ext.below bel
 exact ⟨_, rfl, _, _, _, [], _, [], hW', trodAll_mk1 (shut_bool Tryz.underlying4 _), (trodAll_cons_mk (Below.trod laidOut (by kernel_rfl) (of_decide_eq_true (by kernel_rfl)) k0 bel lt0) trodAll_mk0), rfl, bel.frame _, fun h => by cases h⟩
theorem oD : Rows.SignerRunMatchesSpecSaid :=
 OpenClaim.holds_of_cond 4 Tryz.f4 rfl rfl rfl rfl rfl rfl rfl ⟨rfl, rfl, rfl, rfl, rfl⟩ rfl rfl rfl rfl rfl (by kernel_rfl) Tryz.func4 (by kernel_rfl)
  (of_decide_eq_true (by kernel_rfl)) (by unfold Func.isWrapper; first | (rw [if_pos (by decide +kernel)]; kernel_rfl) | (rw [if_neg (by decide +kernel)]; exact ⟨rfl, rfl⟩))
  (fun os started H enc _ F => by rw [OpenClaim.pre_eq_preRow]; exact lV os started H enc F)
theorem mP (f : FuncId) (fn : Func) (hf : Tryz.pinned.checked.prog.funcNamed "bootchain/bootchainlaw26.SignerRunMatchesSpec" = some f) (hfn : Tryz.pinned.checked.prog.funcs[f]? = some fn) :
  Rows.signerRunMatchesSpecCard.stood.looks = Tryz.pinned.checked.prog.looks [] ∧ ∀ (j : Nat) t, fn.params[j]? = some t → Tryz.pinned.checked.prog.wantsStandIn t = false := by
 obtain rfl : f = 4 := Option.some.inj ((show Tryz.prog.funcNamed "bootchain/bootchainlaw26.SignerRunMatchesSpec" = some 4 by kernel_rfl).symm.trans hf) |>.symm
 obtain rfl : fn = Tryz.f4 := (Option.some.inj (Tryz.func4.symm.trans hfn)).symm
 refine ⟨by kernel_rfl, fun j t ht => ?_⟩
 rw [Tryz.params4] at ht
 have hall : ∀ t ∈ (#[42] : Array TypeId), Tryz.prog.wantsStandIn t = false := by decide +kernel
 exact hall t (Array.mem_of_getElem? ht)
theorem signerRunMatchesSpec_holds : Rows.SignerRunMatchesSpecCardSaid :=
 Claim7.holds_tied_plain_at .later [] _ _ _ _ oD (fun _ h => by cases h) (by kernel_rfl) (fun _ h => by cases h) signerRunMatchesSpec_row_tie rfl ⟨rfl, rfl⟩ (by kernel_rfl) rfl mP (by kernel_rfl)
end Go.Proofs.YtihghljfmlbfhaaGreatDoor

