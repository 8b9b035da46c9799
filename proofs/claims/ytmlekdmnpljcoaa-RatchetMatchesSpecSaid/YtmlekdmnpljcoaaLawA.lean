/-
  The law RatchetMatchesSpec, walked.
-/
import Derived.Test.YtmlekdmnpljcoaaSan
import Derived.Test.YtmlekdmnpljcoaaRefA
import Derived.Test.YtmlekdmnpljcoaaRefB
namespace Go.Proofs.Ytmlekdmnpljcoaa
open Go.RowKit

set_option maxRecDepth 100000 in
set_option maxHeartbeats 4000000 in
theorem matches_any (bank bits target : Int) (lv : Value) (log : List Res) (w : World) (hl : Reads w 2 lv log.length (logCells log)) :
    Calls Try.prog 3 #[.agg #[.int .i64 bank, .int .i64 bits, .int .i64 target, lv]] w fun e w' => e = .returned (.bool true) ∧ Ext w w' := by
  have HL := hide hl
  have hm := hl.len_le
  unfold maxLen at hm
  obtain ⟨_, B, c, rfl, _, _, _⟩ := hl
  obtain ⟨ak, ab, ac, ax, p1, p2, d, hv⟩ := ranV_parts (levelR bank bits log)
  obtain ⟨bk, bb, bc, bx, q1, q2, d2, hv2⟩ := ranV_parts (raiseR bank bits target log)
  have HV := hide hv
  have HV2 := hide hv2
  clear hv hv2
  by_cases hlen : 200 < log.length
  · have h1 : (200 : Int) < (log.length : Int) := by omega
    go_enter Try.func3, Try.ntmps3
    go_wp2_with fail
    refine (sanity_any _).mono ?_
    rintro e w1 ⟨rfl, hE⟩
    have H1 := hide (((Ext.refl w).alloc _).trans hE)
    clear hE
    go_wp2
    go_ret
    exact ⟨rfl, unhide H1⟩
  · have h1 : ¬ (200 : Int) < (log.length : Int) := by omega
    go_enter Try.func3, Try.ntmps3
    go_wp2_with fail
    refine (sanity_any _).mono ?_
    rintro e w1 ⟨rfl, hE⟩
    have H1 := hide (((Ext.refl w).alloc _).trans hE)
    clear hE
    go_wp2_with fail
    refine (level_any bank bits _ log _ ((unhide HL).ext (unhide H1))).mono ?_
    rintro e w2 ⟨he, hE⟩
    rw [unhide HV] at he
    subst he
    have H2 := hide ((unhide H1).trans hE)
    clear hE H1
    go_wp2_with fail
    refine (ref_level bank bits _ log _ ((unhide HL).ext (((unhide H2).alloc _).alloc _))).mono ?_
    rintro e w3 ⟨he, hE⟩
    rw [unhide HV] at he
    subst he
    have hA := (Blk.new w2 27 #[.int .i64 ak, .int .i64 ab, .int .i64 ac, .string ax])
    have H3 := hide (And.intro (((unhide H2).alloc _).alloc _ |>.trans hE) (And.intro ((hA.alloc _).ext hE) ((Blk.new' (w2.alloc _) 30 #[.int .i64 p1, .int .i64 p2] (g := w2.heap.size + 1) (by simp)).ext hE)))
    clear hE H2 hA
    go_wp2_with fail
    refine (raise_any bank bits target _ log _ ((unhide HL).ext (((unhide H3).1.alloc _).alloc _))).mono ?_
    rintro e w4 ⟨he, hE⟩
    rw [unhide HV2] at he
    subst he
    have hA := (Blk.new w3 27 #[.int .i64 ak, .int .i64 ab, .int .i64 ac, .string ax])
    have hE' := ((Ext.refl w3).alloc _).alloc _ |>.trans hE
    have H4 := hide (And.intro ((unhide H3).1.trans hE') (And.intro ((unhide H3).2.1.ext hE') (And.intro ((unhide H3).2.2.ext hE') (And.intro ((hA.alloc _).ext hE) ((Blk.new' (w3.alloc _) 30 #[.int .i64 p1, .int .i64 p2] (g := w3.heap.size + 1) (by simp)).ext hE)))))
    clear hE hE' H3 hA
    go_wp2_with fail
    refine (ref_raise bank bits target _ log _ ((unhide HL).ext (((unhide H4).1.alloc _).alloc _))).mono ?_
    rintro e w5 ⟨he, hE⟩
    rw [unhide HV2] at he
    subst he
    have hA := (Blk.new w4 27 #[.int .i64 bk, .int .i64 bb, .int .i64 bc, .string bx])
    have hE' := ((Ext.refl w4).alloc _).alloc _ |>.trans hE
    have H5 := hide ((unhide H4).1.trans hE')
    obtain ⟨b0, b1, b2, b3, fb, lb⟩ := ((unhide H4).2.1.ext hE').cells4
    obtain ⟨c0, c1, fc, lc⟩ := ((unhide H4).2.2.1.ext hE').cells2
    obtain ⟨d0, d1, d2', d3, fd, ld⟩ := ((unhide H4).2.2.2.1.ext hE').cells4
    obtain ⟨e0, e1, fe, le⟩ := ((unhide H4).2.2.2.2.ext hE').cells2
    obtain ⟨f0, f1, f2, f3, ff, lf⟩ := ((hA.alloc _).ext hE).cells4
    obtain ⟨g0, g1, fg, lg⟩ := ((Blk.new' (w4.alloc _) 30 #[.int .i64 q1, .int .i64 q2] (g := w4.heap.size + 1) (by simp)).ext hE).cells2
    have l1 : w2.heap.size < w5.heap.size := by omega
    have l2 : w3.heap.size < w5.heap.size := by omega
    have l3 : w4.heap.size < w5.heap.size := by omega
    clear hE hE' H4 hA
    go_wp2
    go_ret
    exact ⟨rfl, ((unhide H5).alloc _).alloc _⟩

end Go.Proofs.Ytmlekdmnpljcoaa
