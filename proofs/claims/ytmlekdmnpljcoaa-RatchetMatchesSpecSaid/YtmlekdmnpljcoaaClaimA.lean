/-
  For every bank, number of bits and target and every log of at most 200 results, ratchet.Level and ratchet.Raise return what the reference returns: the law RatchetMatchesSpec returns true at every input. No condition.
-/
import Derived.Test.YtmlekdmnpljcoaaLawA
import Derived.Test.YtmlekdmnpljcoaaOpen
namespace Go.Proofs.Ytmlekdmnpljcoaa
open Go.ChangeShapes Go.WideShapes Go.ChangeAt Go.RowKit Go.Joins Go.Deep
open Go.ChangeMaps (open_string shut_string)
set_option linter.unusedVariables false

theorem ratchetMatchesSpec_said {H : Type} {enc : TypeId × Value → H} (v0 : Value) (d0 : DataW H) (p0 : List MemPlace) (W : World) (base : Nat) (hv0 : Value.okWide Try.prog W .any base 24 v0)
    (h0 : DataW.Trod enc Try.prog W 0 (fun _ => true) true 24 v0 d0 p0) :
    Calls Try.prog 3 #[v0] W fun e W' => e = .returned (.bool true) ∧ Ext W W' := by
  obtain ⟨x0, x1, x2, x3, y0, y1, y2, y3, n, rfl, _, _, g0, g1, g2, g3⟩ := open_agg4 Try.underlying24 (by kernel_rfl) (by kernel_rfl) hv0 h0
  obtain ⟨a, ha, _, _⟩ := DataW.trod_int Try.underlying3 g0
  obtain ⟨b, hb, _, _⟩ := DataW.trod_int Try.underlying3 g1
  obtain ⟨c, hc, _, _⟩ := DataW.trod_int Try.underlying3 g2
  obtain ⟨lv, log, hl, hr⟩ := trod_reads_res Try.underlying22 Try.underlying79 (by kernel_rfl) (by kernel_rfl) Try.underlying3 Try.underlying9 g3
  cases ha
  cases hb
  cases hc
  cases hl
  exact matches_any a b c _ log W hr

set_option maxRecDepth 100000 in
theorem ratchetMatchesSpec_lifted (os : Os) (started : os.Started) (H : Type) (enc : TypeId × Value → H) :
    ReturnsInHanded {} Try.checked os 3 .any (Rows.ratchetMatchesSpecSpec.pre6 enc Try.prog Try.f3 Rows.ratchetMatchesSpecRow.domain false) (Rows.ratchetMatchesSpecSpec.post enc Try.prog Try.f3 false true false false) := by
  refine returnsInHanded_of_change (C := Try.checked) own started (by kernel_rfl) Try.func3
    (ChangeSpec.witness6 (enc := enc) (C := Try.checked) false ⟨#[], #[.agg #[.int .i64 0, .int .i64 0, .int .i64 0, .slice none 0 0]], []⟩ 8 (by kernel_rfl) (by kernel_rfl) (by kernel_rfl) (by kernel_rfl)) ?_
  intro W base args ds gs before hval0 hW hcnd _
  have hval : ∀ (j : Nat) t v, Try.f3.params[j]? = some t → args[j]? = some v → Value.okWide Try.prog W .any base t v := hval0
  have hW' := hW
  obtain ⟨p, q, hA0, hV, rfl, hfz, hnd⟩ := hW
  have hA : DataW.TrodAll enc Try.prog W 0 (fun _ => true) true Try.f3.params.toList args.toList ds p := hA0
  rw [Try.params3] at hA hval
  obtain ⟨v0, vs0, d0, ds0, p0, q0, hargs, rfl, rfl, h0, r0⟩ := trodAll_cons hA
  obtain ⟨rfl, rfl, rfl⟩ := trodAll_nil r0
  obtain rfl : args = #[v0] := by cases args; simp_all
  obtain ⟨rfl, rfl⟩ := trodVars_none hV
  have k0 := h0
  have lt0 : ∀ x ∈ p0, x.block < W.heap.size := by obtain ⟨m, hm⟩ := k0; exact DataW.trod_lt m _ _ _ hm
  have hv0 := hval 0 _ v0 rfl rfl
  clear hA0 hval0
  refine (ratchetMatchesSpec_said v0 d0 p0 W base hv0 h0).mono fun e W' ⟨he, bel⟩ => ?_
  subst he
  have bel := Ext.below bel
  exact ⟨_, rfl, _, _, _, [], _, [], hW', trodAll_mk1 (shut_bool Try.underlying4 _), (trodAll_cons_mk (Below.trod laidOut (by kernel_rfl) (of_decide_eq_true (by kernel_rfl)) k0 bel lt0) trodAll_mk0), rfl, bel.frame _, fun h => by cases h⟩

/-- The statement. -/
theorem ratchetMatchesSpec_holds : Rows.RatchetMatchesSpecSaid :=
  OpenClaim.holds_of_wide 3 Try.f3 rfl rfl rfl rfl rfl rfl rfl ⟨rfl, rfl, rfl, rfl, rfl⟩ rfl rfl rfl rfl rfl (by kernel_rfl) Try.func3 (by kernel_rfl)
    (of_decide_eq_true (by kernel_rfl)) (by unfold Func.isWrapper; first | (rw [if_pos (by decide +kernel)]; kernel_rfl) | (rw [if_neg (by decide +kernel)]; exact ⟨rfl, rfl⟩))
    (fun os started H enc _ => ratchetMatchesSpec_lifted os started H enc)

end Go.Proofs.Ytmlekdmnpljcoaa
