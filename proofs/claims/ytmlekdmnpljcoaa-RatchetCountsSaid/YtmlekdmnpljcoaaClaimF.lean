/-
  How many accesses Level and Raise make without faults: the law RatchetCounts returns true at every input. No condition.
-/
import Derived.Test.YtmlekdmnpljcoaaLawF
import Derived.Test.YtmlekdmnpljcoaaOpen
namespace Go.Proofs.Ytmlekdmnpljcoaa
open Go.ChangeShapes Go.WideShapes Go.ChangeAt Go.RowKit Go.Joins Go.Deep
open Go.ChangeMaps (open_string shut_string)
set_option linter.unusedVariables false

theorem ratchetCounts_said {H : Type} {enc : TypeId × Value → H} (v0 v1 : Value) (d0 d1 : DataW H) (p0 p1 : List MemPlace) (W : World) (base : Nat) (hv0 : Value.okWide Try.prog W .any base 35 v0) (hv1 : Value.okWide Try.prog W .any base 5 v1)
    (h0 : DataW.Trod enc Try.prog W 0 (fun _ => true) true 35 v0 d0 p0) (h1 : DataW.Trod enc Try.prog W 0 (fun _ => true) true 5 v1 d1 p1) :
    Calls Try.prog 8 #[v0, v1] W fun e W' => e = .returned (.bool true) ∧ Ext W W' := by
  obtain ⟨A0, len0, cap0, rfl⟩ := okWide_slice Try.underlying35 hv0
  obtain ⟨m0, h0⟩ := h0
  obtain ⟨v, l, hl, hr, hz⟩ := trod_reads_ints Try.underlying35 Try.underlying5 (by kernel_rfl) h0
  simp [Value.cells] at hl
  subst hl
  obtain ⟨t, rfl, _, _, ht⟩ := open_int Try.underlying5 hv1 h1
  exact counts_any l _ t W hr (fun z hz' => wf_u8 (hz z hz')) (wf_u8 ht)

set_option maxRecDepth 100000 in
theorem ratchetCounts_lifted (os : Os) (started : os.Started) (H : Type) (enc : TypeId × Value → H) :
    ReturnsInHanded {} Try.checked os 8 .any (Rows.ratchetCountsSpec.pre6 enc Try.prog Try.f8 Rows.ratchetCountsRow.domain false) (Rows.ratchetCountsSpec.post enc Try.prog Try.f8 false true false false) := by
  refine returnsInHanded_of_change (C := Try.checked) own started (by kernel_rfl) Try.func8
    (ChangeSpec.witness6 (enc := enc) (C := Try.checked) false ⟨#[], #[.slice none 0 0, .int .u8 0], []⟩ 8 (by kernel_rfl) (by kernel_rfl) (by kernel_rfl) (by kernel_rfl)) ?_
  intro W base args ds gs before hval0 hW hcnd _
  have hval : ∀ (j : Nat) t v, Try.f8.params[j]? = some t → args[j]? = some v → Value.okWide Try.prog W .any base t v := hval0
  have hW' := hW
  obtain ⟨p, q, hA0, hV, rfl, hfz, hnd⟩ := hW
  have hA : DataW.TrodAll enc Try.prog W 0 (fun _ => true) true Try.f8.params.toList args.toList ds p := hA0
  rw [Try.params8] at hA hval
  obtain ⟨v0, vs0, d0, ds0, p0, q0, hargs, rfl, rfl, h0, r0⟩ := trodAll_cons hA
  obtain ⟨v1, vs1, d1, ds1, p1, q1, rfl, rfl, rfl, h1, r1⟩ := trodAll_cons r0
  obtain ⟨rfl, rfl, rfl⟩ := trodAll_nil r1
  obtain rfl : args = #[v0, v1] := by cases args; simp_all
  obtain ⟨rfl, rfl⟩ := trodVars_none hV
  have k0 := h0
  have lt0 : ∀ x ∈ p0, x.block < W.heap.size := by obtain ⟨m, hm⟩ := k0; exact DataW.trod_lt m _ _ _ hm
  have hv0 := hval 0 _ v0 rfl rfl
  have k1 := h1
  have lt1 : ∀ x ∈ p1, x.block < W.heap.size := by obtain ⟨m, hm⟩ := k1; exact DataW.trod_lt m _ _ _ hm
  have hv1 := hval 1 _ v1 rfl rfl
  clear hA0 hval0
  refine (ratchetCounts_said v0 v1 d0 d1 p0 p1 W base hv0 hv1 h0 h1).mono fun e W' ⟨he, bel⟩ => ?_
  subst he
  have bel := Ext.below bel
  exact ⟨_, rfl, _, _, _, [], _, [], hW', trodAll_mk1 (shut_bool Try.underlying4 _), (trodAll_cons_mk (Below.trod laidOut (by kernel_rfl) (of_decide_eq_true (by kernel_rfl)) k0 bel lt0) (trodAll_cons_mk (Below.trod laidOut (by kernel_rfl) (of_decide_eq_true (by kernel_rfl)) k1 bel lt1) trodAll_mk0)), rfl, bel.frame _, fun h => by cases h⟩

/-- The statement. -/
theorem ratchetCounts_holds : Rows.RatchetCountsSaid :=
  OpenClaim.holds_of_wide 8 Try.f8 rfl rfl rfl rfl rfl rfl rfl ⟨rfl, rfl, rfl, rfl, rfl⟩ rfl rfl rfl rfl rfl (by kernel_rfl) Try.func8 (by kernel_rfl)
    (of_decide_eq_true (by kernel_rfl)) (by unfold Func.isWrapper; first | (rw [if_pos (by decide +kernel)]; kernel_rfl) | (rw [if_neg (by decide +kernel)]; exact ⟨rfl, rfl⟩))
    (fun os started H enc _ => ratchetCounts_lifted os started H enc)

end Go.Proofs.Ytmlekdmnpljcoaa
