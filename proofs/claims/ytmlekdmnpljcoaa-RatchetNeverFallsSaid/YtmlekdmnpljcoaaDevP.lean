/-
  bootchainref09.Do: a fuse pulse, on whatever device.
-/
import Derived.Test.YtmlekdmnpljcoaaDev
namespace Go.Proofs.Ytmlekdmnpljcoaa
open Go.RowKit

set_option maxRecDepth 100000 in
set_option maxHeartbeats 2000000 in
theorem dev_pulse (H : Array Value) (fv : Value) (hH : H.size = 18) (hH1 : H.all (·.oneCell') = true) (hH0 : H[0]? = some fv) (banks : List (List Int)) (bank cell : Nat) (cut noise : Bool) (fb : Int) (w : World) (h : FusesIn w fv banks) (hb : bank < banks.length) (hc : cell < banks[bank].length)
    (hn : banks.length ≤ 1000) (hn2 : ∀ l ∈ banks, l.length ≤ 100000) :
    Calls Try.prog 30 #[.agg H, .agg #[.int .i64 2, .int .i64 (bank : Int), .int .i64 (cell : Int), .string { data := #[] }], .agg #[.bool cut, .int .i64 fb, .bool noise]] w fun e w' =>
      ∃ fv', e = .returned (.tuple #[.agg (H.setIfInBounds 0 fv'), .agg #[.int .i64 0, .string { data := #[] }], .int .i64 0]) ∧ FusesNew w.heap.size w' fv' (banks.set bank (banks[bank].set cell (pulsed banks[bank][cell] cut))) ∧ Ext w w' := by
  have HF := hide h
  obtain ⟨_, ⟨_, A, c, rfl, _⟩, _⟩ := h.ex
  clear h
  have HH := hide (And.intro hH hH1)
  clear hH hH1
  go_enter Try.func30, Try.ntmps30
  go_wp2_with (first
    | ((with_reducible show wpList _ _ _ (_ :: _) _ _)
       (refine wpList_loadB (ty := 65) (t := 65) (x := .tmp 3) rfl rfl hw_wide rfl ?_ (unhide HH).1 ?_)
       · exact ((((Blk.new w _ _).alloc _).alloc _).alloc _).alloc _)
    | ((with_reducible show wpList _ _ _ (_ :: _) _ _)
       refine wpList_storeB (ty := 65) (t := 65) (old := hw0) (x := .tmp 9) (y := .tmp 20) rfl rfl hw_wide rfl rfl ?_ ?_ (unhide HH).1 (unhide HH).2 ?_
       · exact Blk.new' _ _ _ (by simp)
       · rfl
       intro wa hb9 hca hsa
       have hD := hide (do_start w H 2 bank cell { data := #[] } cut fb noise wa hb9 hca)
       have a0 := (unhide hD).2.b4.cells4
       have b0 := (unhide hD).2.b5.cells3
       have c0 := ((unhide hD).2.b3.cell 0).trans hH0
       have hsz : wa.heap.size = w.heap.size + 6 := by rw [hsa]; simp
       clear hb9 hca hsa)
    | (go_at_call 48; fail))
  refine (fuse_pulse _ banks bank cell cut _ ((unhide HF).ext ?_) hb hc hn hn2).mono ?_
  · have := (unhide hD).1
    repeat' (first | (with_reducible exact Chg.refl _ _) | (with_reducible exact Ext.refl _) | (with_reducible assumption) | (with_reducible refine Chg.alloc ?_ _) | (with_reducible refine Chg.drew ?_) | (with_reducible refine Chg.drewN ?_ _) | (with_reducible refine Chg.setCell ?_ ?_ _) | (with_reducible refine Ext.alloc ?_ _) | (with_reducible refine Ext.drew ?_) | (with_reducible refine Ext.drewN ?_ _) | (with_reducible refine Ext.setCell ?_ ?_ _) | (simp; done) | (simp; omega) | omega)
  rintro e w2 ⟨fv', rfl, hF', hE⟩
  have hF' : FusesNew (w.heap.size + 6 + 1) w2 fv' (banks.set bank (banks[bank].set cell (pulsed banks[bank][cell] cut))) := by
    rw [show w.heap.size + 6 + 1 = (wa.alloc (.cells #[.int .i64 0, .string { data := #[] }] 79)).heap.size from by simp [hsz]]
    exact hF'
  obtain ⟨_, ⟨_, A', c', rfl, _⟩, _⟩ := hF'.fuses.ex
  rw [List.length_set] at hF'
  have HF' := hide hF'
  clear hF'
  have hD2 := hide (And.intro ((unhide hD).1.trans ((Chg.alloc (Ext.refl _) _ : Ext wa (wa.alloc (.cells #[.int .i64 0, .string { data := #[] }] 79))).trans hE)) ((unhide hD).2.ext ((Chg.alloc (Ext.refl _) _ : Ext wa (wa.alloc (.cells #[.int .i64 0, .string { data := #[] }] 79))).trans hE)))
  have hR := (Blk.new' wa 79 #[.int .i64 0, .string { data := #[] }] (g := w.heap.size + 1 + 1 + 1 + 1 + 1 + 1) (by omega)).ext hE
  have r0 := hR.cells2
  have HR := hide hR
  have b1 := (unhide hD2).2.b5.cells3
  have hsz2 : w.heap.size + 6 < w2.heap.size := (unhide HR).lt
  clear hE a0 b0 c0 hD hR HF
  have k9 := ((unhide hD2).2.b9.cell 0).trans hH0
  have f9 : w2.frozen? ⟨w.heap.size + 1 + 1 + 1 + 1 + 1, 0, none⟩ = false := by
    rw [(unhide hD2).2.b9.frozen]
  have hs5 : w.heap.size + 1 + 1 + 1 + 1 + 1 < w2.heap.size := by omega
  cases cut with
  | true =>
    go_wp2
    generalize hW : World.alloc _ _ = wz
    have zb : Blk wz (w.heap.size + 6) 79 #[.int .i64 0, .string { data := #[] }] := by
      subst hW
      exact (((unhide HR).far (by simp) _).set_ 0 _ |>.set_ 1 _).alloc _
    have ze : Ext w wz := by
      have := (unhide hD2).1
      subst hW
      repeat' (first | (with_reducible exact Chg.refl _ _) | (with_reducible exact Ext.refl _) | (with_reducible assumption) | (with_reducible refine Chg.alloc ?_ _) | (with_reducible refine Chg.drew ?_) | (with_reducible refine Chg.drewN ?_ _) | (with_reducible refine Chg.setCell ?_ ?_ _) | (with_reducible refine Ext.alloc ?_ _) | (with_reducible refine Ext.drew ?_) | (with_reducible refine Ext.drewN ?_ _) | (with_reducible refine Ext.setCell ?_ ?_ _) | (simp; done) | (simp; omega) | omega)
    have z9 : Blk wz (w.heap.size + 1 + 1 + 1 + 1 + 1) 65 (H.setIfInBounds 0 (.slice A' banks.length c')) := by
      subst hW
      have z9a := (unhide hD2).2.b9.set_ 0 (.slice A' banks.length c')
      repeat' (first | (with_reducible exact z9a) | (with_reducible refine Blk.alloc ?_ _) | (with_reducible refine Blk.far ?_ (by simp) _))
    have zf : FusesNew (w.heap.size + 6 + 1) wz (.slice A' banks.length c') (banks.set bank (banks[bank].set cell (pulsed banks[bank][cell] true))) := (unhide HF').chg (S := fun k => w.heap.size ≤ k ∧ k < w.heap.size + 7) (by
      subst hW
      repeat' (first | (with_reducible exact Chg.refl _ _) | (with_reducible exact Ext.refl _) | (with_reducible assumption) | (with_reducible refine Chg.alloc ?_ _) | (with_reducible refine Chg.drew ?_) | (with_reducible refine Chg.drewN ?_ _) | (with_reducible refine Chg.setCell ?_ ?_ _) | (with_reducible refine Ext.alloc ?_ _) | (with_reducible refine Ext.drew ?_) | (with_reducible refine Ext.drewN ?_ _) | (with_reducible refine Ext.setCell ?_ ?_ _) | (simp; done) | (simp; omega) | omega)
      ) (fun k h1 h2 => by omega)
    have zt : Blk wz (w.heap.size + 1 + 1 + 1 + 1) 79 #[.int .i64 0, .string { data := #[] }] := by
      subst hW
      have z9a := (unhide hD2).2.b7
      repeat' (first | (with_reducible exact z9a) | (with_reducible refine Blk.alloc ?_ _) | (with_reducible refine Blk.far ?_ (by simp) _))
    obtain ⟨zold, zo, zs⟩ := (unhide hD2).2.b6
    have zo : Blk wz (w.heap.size + 1 + 1 + 1) 65 zold := by
      subst hW
      repeat' (first | (with_reducible exact zo) | (with_reducible refine Blk.alloc ?_ _) | (with_reducible refine Blk.far ?_ (by simp) _))
    clear hW b1 HR hD2
    obtain ⟨hN0, hA0⟩ := unhide HH
    have hN : (H.setIfInBounds 0 (.slice A' banks.length c')).size = 18 := by simpa using hN0
    have hA : (H.setIfInBounds 0 (.slice A' banks.length c')).all (·.oneCell') = true := by
      rw [Array.all_eq_true'] at hA0 ⊢
      intro v hv
      rcases Array.mem_or_eq_of_mem_setIfInBounds hv with h1 | rfl
      · exact hA0 _ h1
      · rfl
    clear HH hN0 hA0 HF'
    refine ret_two (by kernel_rfl) hw_wide result_wide z9 zb zo zt hN rfl zs rfl hA (by simp; exact ⟨rfl, rfl⟩) ⟨by omega, by omega, by omega, by omega, by omega⟩ rfl rfl rfl rfl (by simp) (by simp) (by simp) (by simp) (by simp) (by simp) (by simp) (by simp) fun w' hc hz z3 z4 => ?_
    clear z9 zb zo zt
    obtain ⟨m0, m1, mf, ml⟩ := z4.cells2
    have hE : Ext w w' := ze.trans' hc (fun _ _ h => h) (fun i hi e => by omega)
    have hF3 : FusesNew w.heap.size w' (.slice A' banks.length c') (banks.set bank (banks[bank].set cell (pulsed banks[bank][cell] true))) := by
      obtain ⟨B', bvs, h1, h2, h3⟩ := zf.chg hc (fun k h1 h2 => by omega)
      exact ⟨B', bvs, by omega, h2, h3⟩
    have HE := hide (And.intro hF3 hE)
    have HN := hide (And.intro hN hA)
    have Z3 := hide z3
    clear hN hA z3 hE hc hz ze hF3 zf
    dsimp only [Exit.then]
    dsimp only [Act.put, Act.eval]
    go_wp2
    exact bodyPost_ret (results_two hw_wide result_wide rfl (unhide Z3) z4 (unhide HN).1 rfl rfl rfl) rfl ⟨_, rfl, unhide HE⟩
  | false =>
    go_wp2
    generalize hW : World.alloc _ _ = wz
    have zb : Blk wz (w.heap.size + 6) 79 #[.int .i64 0, .string { data := #[] }] := by
      subst hW
      exact ((unhide HR).far (by simp) _).alloc _
    have ze : Ext w wz := by
      have := (unhide hD2).1
      subst hW
      repeat' (first | (with_reducible exact Chg.refl _ _) | (with_reducible exact Ext.refl _) | (with_reducible assumption) | (with_reducible refine Chg.alloc ?_ _) | (with_reducible refine Chg.drew ?_) | (with_reducible refine Chg.drewN ?_ _) | (with_reducible refine Chg.setCell ?_ ?_ _) | (with_reducible refine Ext.alloc ?_ _) | (with_reducible refine Ext.drew ?_) | (with_reducible refine Ext.drewN ?_ _) | (with_reducible refine Ext.setCell ?_ ?_ _) | (simp; done) | (simp; omega) | omega)
    have z9 : Blk wz (w.heap.size + 1 + 1 + 1 + 1 + 1) 65 (H.setIfInBounds 0 (.slice A' banks.length c')) := by
      subst hW
      have z9a := (unhide hD2).2.b9.set_ 0 (.slice A' banks.length c')
      repeat' (first | (with_reducible exact z9a) | (with_reducible refine Blk.alloc ?_ _) | (with_reducible refine Blk.far ?_ (by simp) _))
    have zf : FusesNew (w.heap.size + 6 + 1) wz (.slice A' banks.length c') (banks.set bank (banks[bank].set cell (pulsed banks[bank][cell] false))) := (unhide HF').chg (S := fun k => w.heap.size ≤ k ∧ k < w.heap.size + 7) (by
      subst hW
      repeat' (first | (with_reducible exact Chg.refl _ _) | (with_reducible exact Ext.refl _) | (with_reducible assumption) | (with_reducible refine Chg.alloc ?_ _) | (with_reducible refine Chg.drew ?_) | (with_reducible refine Chg.drewN ?_ _) | (with_reducible refine Chg.setCell ?_ ?_ _) | (with_reducible refine Ext.alloc ?_ _) | (with_reducible refine Ext.drew ?_) | (with_reducible refine Ext.drewN ?_ _) | (with_reducible refine Ext.setCell ?_ ?_ _) | (simp; done) | (simp; omega) | omega)
      ) (fun k h1 h2 => by omega)
    have zt : Blk wz (w.heap.size + 1 + 1 + 1 + 1) 79 #[.int .i64 0, .string { data := #[] }] := by
      subst hW
      have z9a := (unhide hD2).2.b7
      repeat' (first | (with_reducible exact z9a) | (with_reducible refine Blk.alloc ?_ _) | (with_reducible refine Blk.far ?_ (by simp) _))
    obtain ⟨zold, zo, zs⟩ := (unhide hD2).2.b6
    have zo : Blk wz (w.heap.size + 1 + 1 + 1) 65 zold := by
      subst hW
      repeat' (first | (with_reducible exact zo) | (with_reducible refine Blk.alloc ?_ _) | (with_reducible refine Blk.far ?_ (by simp) _))
    clear hW b1 HR hD2
    obtain ⟨hN0, hA0⟩ := unhide HH
    have hN : (H.setIfInBounds 0 (.slice A' banks.length c')).size = 18 := by simpa using hN0
    have hA : (H.setIfInBounds 0 (.slice A' banks.length c')).all (·.oneCell') = true := by
      rw [Array.all_eq_true'] at hA0 ⊢
      intro v hv
      rcases Array.mem_or_eq_of_mem_setIfInBounds hv with h1 | rfl
      · exact hA0 _ h1
      · rfl
    clear HH hN0 hA0 HF'
    refine ret_two (by kernel_rfl) hw_wide result_wide z9 zb zo zt hN rfl zs rfl hA (by simp; exact ⟨rfl, rfl⟩) ⟨by omega, by omega, by omega, by omega, by omega⟩ rfl rfl rfl rfl (by simp) (by simp) (by simp) (by simp) (by simp) (by simp) (by simp) (by simp) fun w' hc hz z3 z4 => ?_
    clear z9 zb zo zt
    obtain ⟨m0, m1, mf, ml⟩ := z4.cells2
    have hE : Ext w w' := ze.trans' hc (fun _ _ h => h) (fun i hi e => by omega)
    have hF3 : FusesNew w.heap.size w' (.slice A' banks.length c') (banks.set bank (banks[bank].set cell (pulsed banks[bank][cell] false))) := by
      obtain ⟨B', bvs, h1, h2, h3⟩ := zf.chg hc (fun k h1 h2 => by omega)
      exact ⟨B', bvs, by omega, h2, h3⟩
    have HE := hide (And.intro hF3 hE)
    have HN := hide (And.intro hN hA)
    have Z3 := hide z3
    clear hN hA z3 hE hc hz ze hF3 zf
    dsimp only [Exit.then]
    dsimp only [Act.put, Act.eval]
    go_wp2
    exact bodyPost_ret (results_two hw_wide result_wide rfl (unhide Z3) z4 (unhide HN).1 rfl rfl rfl) rfl ⟨_, rfl, unhide HE⟩

end Go.Proofs.Ytmlekdmnpljcoaa
