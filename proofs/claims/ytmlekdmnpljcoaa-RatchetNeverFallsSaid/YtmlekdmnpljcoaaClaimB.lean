/-
  For every bank of sound cells and every sequence of at most eight sessions with power cuts and noisy reads the level never falls: the law RatchetNeverFalls returns true at every input. No condition.
-/
import Derived.Test.YtmlekdmnpljcoaaLawB
import Derived.Test.YtmlekdmnpljcoaaOpen
namespace Go.Proofs.Ytmlekdmnpljcoaa
open Go.ChangeShapes Go.WideShapes Go.ChangeAt Go.RowKit Go.Joins Go.Deep
open Go.ChangeMaps (open_string shut_string)
set_option linter.unusedVariables false

/-- A slice of sessions. -/
theorem trod_reads_ses {H : Type} {enc : TypeId × Value → H} {P : Program} {w : World} {base : Nat} {spare : Nat → Bool} {held : Bool} {t e q : TypeId} {f0 f1 f2 : Field} {fuel : Nat} {cs : List Value} {x : DataW H × List MemPlace} (ht : P.underlying t = some (.slice e)) (he : P.underlying e = some (.struct #[f0, f1, f2])) (hone : oneCellFields P #[f0, f1, f2] = true) (hk : P.cellsOf e = 3)
    (h0 : P.underlying f0.type = some .bool) (h1 : P.underlying f1.type = some (.int .u8)) (h2 : P.underlying f2.type = some (.slice q)) (hq : P.underlying q = some (.int .u8)) (hq1 : P.cellsOf q = 1) (h : DataW.trod enc P w base spare held fuel t cs = some x) :
    ∃ (v : Value) (l : List Ses), cs = [v] ∧ Reads w 3 v l.length (sesCells l) ∧ ∀ s ∈ l, s.Ok w := by
  obtain ⟨v, n, E, m, Y, rfl, hr, hE⟩ := trod_reads ht hk (by omega) h
  obtain ⟨l, rfl, h2, h3⟩ := reads_list (R := fun s => Ses.Ok w s) Ses.cells fun i hi => by
    obtain ⟨hl, hx⟩ := hE i hi
    obtain ⟨xs, n', hx', hy, hlen, hyl, hf⟩ := DataW.trod_struct he hx
    obtain ⟨o0, k0⟩ := hone_of hone 0 f0 rfl
    obtain ⟨o1, k1⟩ := hone_of hone 1 f1 rfl
    obtain ⟨o2, k2⟩ := hone_of hone 2 f2 rfl
    match hE' : E i, hl with
    | [c0, c1, c2], _ =>
      rw [hE'] at hf
      have g0 := hf 0 f0 rfl
      have g1 := hf 1 f1 rfl
      have g2 := hf 2 f2 rfl
      rw [o0, k0] at g0
      rw [o1, k1] at g1
      rw [o2, k2] at g2
      match xs, hyl with
      | [y0, y1, y2], _ =>
        obtain ⟨r, hr0, _⟩ := DataW.trod_bool h0 (by simpa using g0)
        obtain ⟨t, ht, _, hw⟩ := DataW.trod_int h1 (by simpa using g1)
        obtain ⟨fl, F, hfv, hfr, hfz⟩ := trod_reads_ints h2 hq hq1 (show DataW.trod enc P w base spare held n' f2.type [c2] = some y2 by simpa using g2)
        cases hr0
        cases ht
        cases hfv
        exact ⟨⟨r, t, _, F⟩, hE', wf_u8 hw, hfr, fun z hz' => wf_u8 (hfz z hz')⟩
  rw [h2] at hr
  exact ⟨v, l, rfl, hr, h3⟩

theorem ratchetNeverFalls_said {H : Type} {enc : TypeId × Value → H} (v0 v1 : Value) (d0 d1 : DataW H) (p0 p1 : List MemPlace) (W : World) (base : Nat) (hv0 : Value.okWide Try.prog W .any base 35 v0) (hv1 : Value.okWide Try.prog W .any base 36 v1)
    (h0 : DataW.Trod enc Try.prog W 0 (fun _ => true) true 35 v0 d0 p0) (h1 : DataW.Trod enc Try.prog W 0 (fun _ => true) true 36 v1 d1 p1) :
    Calls Try.prog 4 #[v0, v1] W fun e W' => e = .returned (.bool true) ∧ Ext W W' := by
  obtain ⟨A0, len0, cap0, rfl⟩ := okWide_slice Try.underlying35 hv0
  obtain ⟨m0, h0⟩ := h0
  obtain ⟨v, l, hl, hr, hz⟩ := trod_reads_ints Try.underlying35 Try.underlying5 (by kernel_rfl) h0
  simp [Value.cells] at hl
  subst hl
  obtain ⟨A1, len1, cap1, rfl⟩ := okWide_slice Try.underlying36 hv1
  obtain ⟨m1, h1⟩ := h1
  obtain ⟨sv, L, hL, hS, ho⟩ := trod_reads_ses Try.underlying36 Try.underlying47 (by kernel_rfl) (by kernel_rfl) Try.underlying4 Try.underlying5 Try.underlying35 Try.underlying5 (by kernel_rfl) h1
  simp [Value.cells] at hL
  subst hL
  exact falls_any l _ L _ W hr (fun z hz' => wf_u8 (hz z hz')) hS ho

set_option maxRecDepth 100000 in
theorem ratchetNeverFalls_lifted (os : Os) (started : os.Started) (H : Type) (enc : TypeId × Value → H) :
    ReturnsInHanded {} Try.checked os 4 .any (Rows.ratchetNeverFallsSpec.pre6 enc Try.prog Try.f4 Rows.ratchetNeverFallsRow.domain false) (Rows.ratchetNeverFallsSpec.post enc Try.prog Try.f4 false true false false) := by
  refine returnsInHanded_of_change (C := Try.checked) own started (by kernel_rfl) Try.func4
    (ChangeSpec.witness6 (enc := enc) (C := Try.checked) false ⟨#[], #[.slice none 0 0, .slice none 0 0], []⟩ 8 (by kernel_rfl) (by kernel_rfl) (by kernel_rfl) (by kernel_rfl)) ?_
  intro W base args ds gs before hval0 hW hcnd _
  have hval : ∀ (j : Nat) t v, Try.f4.params[j]? = some t → args[j]? = some v → Value.okWide Try.prog W .any base t v := hval0
  have hW' := hW
  obtain ⟨p, q, hA0, hV, rfl, hfz, hnd⟩ := hW
  have hA : DataW.TrodAll enc Try.prog W 0 (fun _ => true) true Try.f4.params.toList args.toList ds p := hA0
  rw [Try.params4] at hA hval
  obtain ⟨v0, vs0, d0, ds0, p0, q0, hargs, rfl, rfl, h0, r0⟩ := trodAll_cons hA
  obtain ⟨v1, vs1, d1, ds1, p1, q1, rfl, rfl, rfl, h1, r1⟩ := trodAll_cons r0
  obtain ⟨rfl, rfl, rfl⟩ := trodAll_nil r1
  obtain rfl : args = #[v0, v1] := by cases args; simp_all
  obtain ⟨rfl, rfl⟩ := trodVars_none hV
  have k0 := h0
  have lt0 : ∀ x ∈ p0, x.block < W.heap.size := by obtain ⟨m, hm⟩ := k0; exact DataW.trod_lt m _ _ _ hm
  have hv0 := hval 0 _ v0 rfl rfl
  have k1 := h1
  have lt1 : ∀ x ∈ p1, x.block < W.heap.size := by obtain ⟨m, hm⟩ := k1; exact DataW.trod_lt m _ _ _ hm
  have hv1 := hval 1 _ v1 rfl rfl
  clear hA0 hval0
  refine (ratchetNeverFalls_said v0 v1 d0 d1 p0 p1 W base hv0 hv1 h0 h1).mono fun e W' ⟨he, bel⟩ => ?_
  subst he
  have bel := Ext.below bel
  exact ⟨_, rfl, _, _, _, [], _, [], hW', trodAll_mk1 (shut_bool Try.underlying4 _), (trodAll_cons_mk (Below.trod laidOut (by kernel_rfl) (of_decide_eq_true (by kernel_rfl)) k0 bel lt0) (trodAll_cons_mk (Below.trod laidOut (by kernel_rfl) (of_decide_eq_true (by kernel_rfl)) k1 bel lt1) trodAll_mk0)), rfl, bel.frame _, fun h => by cases h⟩

/-- The statement. -/
theorem ratchetNeverFalls_holds : Rows.RatchetNeverFallsSaid :=
  OpenClaim.holds_of_wide 4 Try.f4 rfl rfl rfl rfl rfl rfl rfl ⟨rfl, rfl, rfl, rfl, rfl⟩ rfl rfl rfl rfl rfl (by kernel_rfl) Try.func4 (by kernel_rfl)
    (of_decide_eq_true (by kernel_rfl)) (by unfold Func.isWrapper; first | (rw [if_pos (by decide +kernel)]; kernel_rfl) | (rw [if_neg (by decide +kernel)]; exact ⟨rfl, rfl⟩))
    (fun os started H enc _ => ratchetNeverFalls_lifted os started H enc)

end Go.Proofs.Ytmlekdmnpljcoaa
