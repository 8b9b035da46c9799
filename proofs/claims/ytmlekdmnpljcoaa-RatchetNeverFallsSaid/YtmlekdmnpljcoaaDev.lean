/-
  bootchainref09.Do: a fuse read and a fuse pulse, on whatever device.
-/
import Derived.Test.YtmlekdmnpljcoaaFuse
import Derived.Test.YtmlekdmnpljcoaaRet
namespace Go.Proofs.Ytmlekdmnpljcoaa
open Go.RowKit

theorem hw_wide : Wide Try.prog 65 18 := ⟨⟨_, Try.underlying65, rfl⟩, by kernel_rfl⟩

theorem result_wide : Wide Try.prog 79 2 := ⟨⟨_, Try.underlying79, rfl⟩, by kernel_rfl⟩

def hw0 : Array Value := #[.slice none 0 0, .slice none 0 0, .int .u8 0, .int .u8 0, .int .u8 0, .int .u8 0, .int .u8 0, .int .u8 0, .int .u8 0, .int .u8 0, .int .u8 0, .int .u8 0, .int .u8 0, .int .u8 0, .int .u8 0, .int .u8 0, .int .u8 0, .int .u8 0]

/-- The facts about the five variables of Do, behind the copy of its argument. -/
structure DoVars (h : Nat) (H : Array Value) (kd bk cl : Int) (bs : ByteArray) (cut : Bool) (fb : Int) (noise : Bool) (w : World) : Prop where
  b3 : Blk w h 65 H
  b4 : Blk w (h + 1) 27 #[.int .i64 kd, .int .i64 bk, .int .i64 cl, .string bs]
  b5 : Blk w (h + 1 + 1) 76 #[.bool cut, .int .i64 fb, .bool noise]
  b6 : ∃ old, Blk w (h + 1 + 1 + 1) 65 old ∧ old.size = 18
  b7 : Blk w (h + 1 + 1 + 1 + 1) 79 #[.int .i64 0, .string { data := #[] }]
  b9 : Blk w (h + 1 + 1 + 1 + 1 + 1) 65 H
theorem DoVars.ext {h : Nat} {H : Array Value} {kd bk cl : Int} {bs : ByteArray} {cut : Bool} {fb : Int} {noise : Bool} {w w' : World} (d : DoVars h H kd bk cl bs cut fb noise w) (e : Ext w w') : DoVars h H kd bk cl bs cut fb noise w' := by
  obtain ⟨old, h6, hs⟩ := d.b6
  exact ⟨d.b3.ext e, d.b4.ext e, d.b5.ext e, ⟨old, h6.ext e, hs⟩, d.b7.ext e, d.b9.ext e⟩

theorem do_start (w : World) (H : Array Value) (kd bk cl : Int) (bs : ByteArray) (cut : Bool) (fb : Int) (noise : Bool) (wa : World) (hb9 : Blk wa (w.heap.size + 1 + 1 + 1 + 1 + 1) 65 H)
    (hc : Chg (fun k => k = w.heap.size + 1 + 1 + 1 + 1 + 1) ((((((w.alloc (.cells H 65)).alloc (.cells #[.int .i64 kd, .int .i64 bk, .int .i64 cl, .string bs] 27)).alloc (.cells #[.bool cut, .int .i64 fb, .bool noise] 76)).alloc (.cells hw0 65)).alloc (.cells #[.int .i64 0, .string { data := #[] }] 79)).alloc (.cells hw0 65)) wa) :
    Ext w wa ∧ DoVars w.heap.size H kd bk cl bs cut fb noise wa := by
  refine ⟨Chg.trans' (S := Non) (T := fun k => k = w.heap.size + 1 + 1 + 1 + 1 + 1) ?_ hc (fun _ _ h => h) (fun i hi e => by omega), ?_⟩
  · repeat' (first | (with_reducible exact Chg.refl _ _) | (with_reducible exact Ext.refl _) | (with_reducible assumption) | (with_reducible refine Chg.alloc ?_ _) | (with_reducible refine Chg.drew ?_) | (with_reducible refine Chg.drewN ?_ _) | (with_reducible refine Chg.setCell ?_ ?_ _) | (with_reducible refine Ext.alloc ?_ _) | (with_reducible refine Ext.drew ?_) | (with_reducible refine Ext.drewN ?_ _) | (with_reducible refine Ext.setCell ?_ ?_ _) | (simp; done) | (simp; omega) | omega)
  · refine ⟨?_, ?_, ?_, ⟨hw0, ?_, rfl⟩, ?_, hb9⟩
    · exact ((((((Blk.new w _ _).alloc _).alloc _).alloc _).alloc _).alloc _).chg hc (by omega)
    · exact (((((Blk.new' _ _ _ (by simp)).alloc _).alloc _).alloc _).alloc _).chg hc (by omega)
    · exact ((((Blk.new' _ _ _ (by simp)).alloc _).alloc _).alloc _).chg hc (by omega)
    · exact (((Blk.new' _ _ _ (by simp)).alloc _).alloc _).chg hc (by omega)
    · exact ((Blk.new' _ _ _ (by simp)).alloc _).chg hc (by omega)

set_option maxRecDepth 100000 in
set_option maxHeartbeats 400000 in
theorem dev_read (H : Array Value) (fv : Value) (hH : H.size = 18) (hH1 : H.all (·.oneCell') = true) (hH0 : H[0]? = some fv) (banks : List (List Int)) (bank cell : Nat) (cut noise : Bool) (fb : Int) (w : World) (h : FusesIn w fv banks) (hb : bank < banks.length) (hc : cell < banks[bank].length) :
    Calls Try.prog 30 #[.agg H, .agg #[.int .i64 1, .int .i64 (bank : Int), .int .i64 (cell : Int), .string { data := #[] }], .agg #[.bool cut, .int .i64 fb, .bool noise]] w fun e w' =>
      e = .returned (.tuple #[.agg H, .agg #[.int .i64 (if cut then 0 else fuseBit banks[bank][cell] noise), .string { data := #[] }], .int .i64 0]) ∧ Ext w w' := by
  have HF := hide h
  obtain ⟨_, ⟨_, A, c, rfl, _⟩, _⟩ := h.ex
  clear h
  have HH := hide (And.intro hH hH1)
  clear hH hH1
  go_enter Try.func30, Try.ntmps30
  go_wp2_with (first
    | ((with_reducible show wpList _ _ _ (_ :: _) _ _)
       (refine wpList_loadB (ty := 65) (t := 65) (x := .tmp 3) rfl rfl hw_wide rfl ?_ (unhide HH).1 ?_)
       · exact ((((Blk.new w _ _).alloc _).alloc _).alloc _).alloc _)
    | ((with_reducible show wpList _ _ _ (_ :: _) _ _)
       refine wpList_storeB (ty := 65) (t := 65) (old := hw0) (x := .tmp 9) (y := .tmp 20) rfl rfl hw_wide rfl rfl ?_ ?_ (unhide HH).1 (unhide HH).2 ?_
       · exact Blk.new' _ _ _ (by simp)
       · rfl
       intro wa hb9 hca hsa
       have hD := hide (do_start w H 1 bank cell { data := #[] } cut fb noise wa hb9 hca)
       have a0 := (unhide hD).2.b4.cells4
       have b0 := (unhide hD).2.b5.cells3
       have c0 := ((unhide hD).2.b3.cell 0).trans hH0
       have hsz : wa.heap.size = w.heap.size + 6 := by rw [hsa]; simp
       clear hb9 hca hsa)
    | (go_at_call 48; fail))
  refine (fuse_read _ banks bank cell noise _ ((unhide HF).ext ?_) hb hc).mono ?_
  · have := (unhide hD).1
    repeat' (first | (with_reducible exact Chg.refl _ _) | (with_reducible exact Ext.refl _) | (with_reducible assumption) | (with_reducible refine Chg.alloc ?_ _) | (with_reducible refine Chg.drew ?_) | (with_reducible refine Chg.drewN ?_ _) | (with_reducible refine Chg.setCell ?_ ?_ _) | (with_reducible refine Ext.alloc ?_ _) | (with_reducible refine Ext.drew ?_) | (with_reducible refine Ext.drewN ?_ _) | (with_reducible refine Ext.setCell ?_ ?_ _) | (simp; done) | (simp; omega) | omega)
  rintro e w2 ⟨rfl, hE⟩
  generalize hxx : fuseBit banks[bank][cell] noise = x at *
  have HX := hide hxx
  clear hxx
  have hD2 := hide (And.intro ((unhide hD).1.trans ((Chg.alloc (Ext.refl _) _ : Ext wa (wa.alloc (.cells #[.int .i64 0, .string { data := #[] }] 79))).trans hE)) ((unhide hD).2.ext ((Chg.alloc (Ext.refl _) _ : Ext wa (wa.alloc (.cells #[.int .i64 0, .string { data := #[] }] 79))).trans hE)))
  have hR := (Blk.new' wa 79 #[.int .i64 0, .string { data := #[] }] (g := w.heap.size + 1 + 1 + 1 + 1 + 1 + 1) (by omega)).ext hE
  have r0 := hR.cells2
  have HR := hide hR
  have b1 := (unhide hD2).2.b5.cells3
  clear hE a0 b0 c0 hD hR HF
  cases cut with
  | true =>
    go_wp2
    generalize hW : World.setCell _ _ _ = wz
    have zb : Blk wz (w.heap.size + 6) 79 #[.int .i64 0, .string { data := #[] }] := by
      subst hW
      exact (((unhide HR).set_ 0 _).set_ 0 _).set_ 1 _
    have ze : Ext w wz := by
      have := (unhide hD2).1
      subst hW
      repeat' (first | (with_reducible exact Chg.refl _ _) | (with_reducible exact Ext.refl _) | (with_reducible assumption) | (with_reducible refine Chg.alloc ?_ _) | (with_reducible refine Chg.drew ?_) | (with_reducible refine Chg.drewN ?_ _) | (with_reducible refine Chg.setCell ?_ ?_ _) | (with_reducible refine Ext.alloc ?_ _) | (with_reducible refine Ext.drew ?_) | (with_reducible refine Ext.drewN ?_ _) | (with_reducible refine Ext.setCell ?_ ?_ _) | (simp; done) | (simp; omega) | omega)
    have z9 : Blk wz (w.heap.size + 1 + 1 + 1 + 1 + 1) 65 H := by
      subst hW
      exact (((unhide hD2).2.b9.far (by simp) _).far (by simp) _).far (by simp) _
    have zt : Blk wz (w.heap.size + 1 + 1 + 1 + 1) 79 #[.int .i64 0, .string { data := #[] }] := by
      subst hW
      exact (((unhide hD2).2.b7.far (by simp) _).far (by simp) _).far (by simp) _
    obtain ⟨zold, zo, zs⟩ := (unhide hD2).2.b6
    have zo : Blk wz (w.heap.size + 1 + 1 + 1) 65 zold := by
      subst hW
      exact ((zo.far (by simp) _).far (by simp) _).far (by simp) _
    clear hW r0 b1 HR hD2
    obtain ⟨hN, hA⟩ := unhide HH
    clear HH
    refine ret_two (by kernel_rfl) hw_wide result_wide z9 zb zo zt hN rfl zs rfl hA (by simp; exact ⟨rfl, rfl⟩) ⟨by omega, by omega, by omega, by omega, by omega⟩ rfl rfl rfl rfl (by simp) (by simp) (by simp) (by simp) (by simp) (by simp) (by simp) (by simp) fun w' hc hz z3 z4 => ?_
    clear z9 zb zo zt
    obtain ⟨m0, m1, mf, ml⟩ := z4.cells2
    have hE : Ext w w' := ze.trans' hc (fun _ _ h => h) (fun i hi e => by omega)
    have HE := hide hE
    have HN := hide (And.intro hN hA)
    have Z3 := hide z3
    clear hN hA z3 hE hc hz ze
    dsimp only [Exit.then]
    dsimp only [Act.put, Act.eval]
    go_wp2
    have hx := unhide HX
    subst hx
    exact bodyPost_ret (results_two hw_wide result_wide rfl (unhide Z3) z4 (unhide HN).1 rfl rfl rfl) rfl ⟨rfl, unhide HE⟩
  | false =>
    go_wp2
    generalize hW : World.setCell _ _ _ = wz
    have zb : Blk wz (w.heap.size + 6) 79 #[.int .i64 x, .string { data := #[] }] := by
      subst hW
      exact (unhide HR).set_ 0 _
    have ze : Ext w wz := by
      have := (unhide hD2).1
      subst hW
      repeat' (first | (with_reducible exact Chg.refl _ _) | (with_reducible exact Ext.refl _) | (with_reducible assumption) | (with_reducible refine Chg.alloc ?_ _) | (with_reducible refine Chg.drew ?_) | (with_reducible refine Chg.drewN ?_ _) | (with_reducible refine Chg.setCell ?_ ?_ _) | (with_reducible refine Ext.alloc ?_ _) | (with_reducible refine Ext.drew ?_) | (with_reducible refine Ext.drewN ?_ _) | (with_reducible refine Ext.setCell ?_ ?_ _) | (simp; done) | (simp; omega) | omega)
    have z9 : Blk wz (w.heap.size + 1 + 1 + 1 + 1 + 1) 65 H := by
      subst hW
      exact (unhide hD2).2.b9.far (by simp) _
    have zt : Blk wz (w.heap.size + 1 + 1 + 1 + 1) 79 #[.int .i64 0, .string { data := #[] }] := by
      subst hW
      exact (unhide hD2).2.b7.far (by simp) _
    obtain ⟨zold, zo, zs⟩ := (unhide hD2).2.b6
    have zo : Blk wz (w.heap.size + 1 + 1 + 1) 65 zold := by
      subst hW
      exact zo.far (by simp) _
    clear hW r0 b1 HR hD2
    obtain ⟨hN, hA⟩ := unhide HH
    clear HH
    refine ret_two (by kernel_rfl) hw_wide result_wide z9 zb zo zt hN rfl zs rfl hA (by simp; exact ⟨rfl, rfl⟩) ⟨by omega, by omega, by omega, by omega, by omega⟩ rfl rfl rfl rfl (by simp) (by simp) (by simp) (by simp) (by simp) (by simp) (by simp) (by simp) fun w' hc hz z3 z4 => ?_
    clear z9 zb zo zt
    obtain ⟨m0, m1, mf, ml⟩ := z4.cells2
    have hE : Ext w w' := ze.trans' hc (fun _ _ h => h) (fun i hi e => by omega)
    have HE := hide hE
    have HN := hide (And.intro hN hA)
    have Z3 := hide z3
    clear hN hA z3 hE hc hz ze
    dsimp only [Exit.then]
    dsimp only [Act.put, Act.eval]
    go_wp2
    have hx := unhide HX
    subst hx
    exact bodyPost_ret (results_two hw_wide result_wide rfl (unhide Z3) z4 (unhide HN).1 rfl rfl rfl) rfl ⟨rfl, unhide HE⟩

end Go.Proofs.Ytmlekdmnpljcoaa
