/-
  bootchainlaw11.sanity returns true.
-/
import Derived.Test.YtmlekdmnpljcoaaExec
namespace Go.Proofs.Ytmlekdmnpljcoaa
open Go.RowKit

def runL (fv : Value) (l e : Int) (d : Bool) (m : Int) (b : Bool) : Value := .agg #[fv, .int .i64 l, .int .i64 e, .bool d, .int .i64 m, .bool b]
theorem san1v (fv : Value) : runV fv (execR false 0 [] 3 [2,2,2,0,2,0,0,0,0]) = .agg #[fv, .int .i64 1, .int .i64 0, .bool true, .int .i64 9, .bool false] := by
  have h : (execR false 0 [] 3 [2,2,2,0,2,0,0,0,0]).bad = false := by decide
  unfold runV; rw [san1.1, san1.2.1, san1.2.2, h]; rfl
theorem san2v (fv : Value) : runV fv (execR true 3 [] 3 [2,2,2,0,2,0,0,0,0]) = .agg #[fv, .int .i64 3, .int .i64 0, .bool true, .int .i64 21, .bool false] := by
  have h : (execR true 3 [] 3 [2,2,2,0,2,0,0,0,0]).bad = false := by decide
  unfold runV; rw [san2.1, san2.2.1, san2.2.2, h]; rfl
theorem san3v (fv : Value) : ∃ m : Int, runV fv (execR true 1 [] 1 [3,3,0]) = .agg #[fv, .int .i64 0, .int .i64 12, .bool true, .int .i64 m, .bool false] := by
  have h : (execR true 1 [] 1 [3,3,0]).bad = false := by decide
  refine ⟨(execR true 1 [] 1 [3,3,0]).many, ?_⟩
  unfold runV; rw [san3.1, san3.2, h]; rfl
theorem cells_s1 : cellsOf [2,2,2,0,2,0,0,0,0] false = [2,2,2,0,2,0,0,0,0] := by decide
theorem cells_s2 : cellsOf [3,3,0] false = [3,3,0] := by decide

theorem Reads.new' (w : World) (cs : Array Value) (e : TypeId) (size n c g : Nat) (xs : List Value) (hg : g = w.heap.size) (hx : xs.length = n * size) (hc : n ≤ c) (hm : c ≤ maxLen) (ht : cs.toList.take xs.length = xs) :
    Reads (w.alloc (.cells cs e)) size (.slice (some ⟨g, 0, none⟩) n c) n xs := by
  subst hg
  exact Reads.new w cs e size n c xs hx hc hm ht

set_option maxRecDepth 100000 in
set_option maxHeartbeats 4000000 in
theorem sanity_any (w : World) : Calls Try.prog 9 #[] w fun e w' => e = .returned (.bool true) ∧ Ext w w' := by
  go_enter Try.func9, Try.ntmps9
  go_wp2_with fail
  refine (cells_any [2,2,2,0,2,0,0,0,0] _ false _ (Reads.new _ _ _ 1 9 9 _ rfl (by omega) (by unfold maxLen; omega) rfl) (by simp [isU8])).mono ?_
  rintro e w1 ⟨fv, he, hF, hE⟩
  rw [cells_s1] at hF
  have hF := hF.fuses
  obtain ⟨_, ⟨_, A, c, rfl, _⟩, _⟩ := hF.ex
  replace he : e = .returned (.tuple #[.agg #[.slice A 1 c], .int .i64 3]) := he
  subst he
  have H1 := hide (And.intro hF (((Ext.refl w).alloc _).trans hE))
  clear hF hE
  go_wp2_with fail
  refine (execute_any false 0 (.slice none 0 0) [] _ [2,2,2,0,2,0,0,0,0] 3 _ ((unhide H1).1.ext ((Ext.refl _).alloc _)) (Reads.nil _ _) (by simp) ⟨by omega, by omega⟩ (by omega) rfl).mono ?_
  rintro e w2 ⟨fv', he, hF, hE⟩
  obtain ⟨_, ⟨_, A2, c2, rfl, _⟩, _⟩ := hF.ex
  rw [san1v] at he
  subst he
  have H2 := hide (And.intro ((unhide H1).1.ext (((Ext.refl _).alloc _).trans hE)) (And.intro ((unhide H1).2.trans (((Ext.refl _).alloc _).trans hE)) ((Blk.new w1 40 #[.slice A 1 c]).ext hE)))
  obtain ⟨b0, bf, bl⟩ := (unhide H2).2.2.cells1
  clear hF hE H1
  go_wp2_with fail
  refine (execute_any true 3 (.slice none 0 0) [] _ [2,2,2,0,2,0,0,0,0] 3 _ ((unhide H2).1.ext ((Ext.refl _).alloc _)) (Reads.nil _ _) (by simp) ⟨by omega, by omega⟩ (by omega) rfl).mono ?_
  rintro e w3 ⟨fv', he, hF, hE⟩
  obtain ⟨_, ⟨_, A3, c3, rfl, _⟩, _⟩ := hF.ex
  rw [san2v] at he
  subst he
  have H3 := hide (And.intro ((unhide H2).2.1.trans (((Ext.refl _).alloc _).trans hE)) ((Blk.new w2 44 #[.slice A2 1 c2, .int .i64 1, .int .i64 0, .bool true, .int .i64 9, .bool false]).ext hE))
  clear hF hE H2 b0 bf bl
  go_wp2_with fail
  refine (cells_any [3,3,0] _ false _ (Reads.new' _ _ _ 1 3 3 _ _ (by simp) rfl (by omega) (by unfold maxLen; omega) rfl) (by simp [isU8])).mono ?_
  rintro e w4 ⟨fv, he, hF, hE⟩
  rw [cells_s2] at hF
  have hF := hF.fuses
  obtain ⟨_, ⟨_, A4, c4, rfl, _⟩, _⟩ := hF.ex
  replace he : e = .returned (.tuple #[.agg #[.slice A4 1 c4], .int .i64 1]) := he
  subst he
  have H4 := hide (And.intro hF (And.intro ((unhide H3).1.trans ((((Ext.refl _).alloc _).alloc _).trans hE)) (And.intro ((unhide H3).2.ext ((((Ext.refl _).alloc _).alloc _).trans hE)) (((Blk.new w3 44 #[.slice A3 1 c3, .int .i64 3, .int .i64 0, .bool true, .int .i64 21, .bool false]).alloc _).ext hE))))
  clear hF hE H3
  go_wp2_with fail
  refine (execute_any true 1 (.slice none 0 0) [] _ [3,3,0] 1 _ ((unhide H4).1.ext ((Ext.refl _).alloc _)) (Reads.nil _ _) (by simp) ⟨by omega, by omega⟩ (by omega) rfl).mono ?_
  rintro e w5 ⟨fv', he, hF, hE⟩
  obtain ⟨_, ⟨_, A5, c5, rfl, _⟩, _⟩ := hF.ex
  obtain ⟨m, hm⟩ := san3v (.slice A5 [(execR true 1 [] 1 [3,3,0]).cells].length c5)
  rw [hm] at he
  subst he
  have H5 := hide (And.intro ((unhide H4).2.1.trans (((Ext.refl _).alloc _).trans hE)) (And.intro ((unhide H4).2.2.1.ext (((Ext.refl _).alloc _).trans hE)) ((unhide H4).2.2.2.ext (((Ext.refl _).alloc _).trans hE))))
  clear hF hE H4 hm
  go_wp2_with fail
  refine (level_any 4 1 _ [] _ (Reads.nil _ _)).mono ?_
  rintro e w6 ⟨he, hE⟩
  replace he : e = .returned (.tuple #[.agg #[.int .i64 0, .int .i64 0, .int .i64 0, .string noBytes], .agg #[.int .i64 0, .int .i64 1], .bool true]) := he
  subst he
  obtain ⟨⟨p0, p1, p2, p3, p4, p5⟩, pf, pl⟩ := ((unhide H5).2.1.ext (((Ext.refl _).alloc _).trans hE)).cells6
  obtain ⟨⟨q0, q1, q2, q3, q4, q5⟩, qf, ql⟩ := ((unhide H5).2.2.ext (((Ext.refl _).alloc _).trans hE)).cells6
  obtain ⟨⟨r0, r1, r2, r3, r4, r5⟩, rf, rl⟩ := ((Blk.new w5 44 #[.slice A5 1 c5, .int .i64 0, .int .i64 12, .bool true, .int .i64 m, .bool false]).ext hE).cells6
  have H6 := hide ((unhide H5).1.trans (((Ext.refl _).alloc _).trans hE))
  clear hE H5
  go_wp2
  go_ret
  exact ⟨rfl, ((unhide H6).alloc _).alloc _⟩

end Go.Proofs.Ytmlekdmnpljcoaa
