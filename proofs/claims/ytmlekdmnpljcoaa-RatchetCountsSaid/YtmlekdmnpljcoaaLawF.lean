/-
  The law RatchetCounts, walked.
-/
import Derived.Test.YtmlekdmnpljcoaaLawC
namespace Go.Proofs.Ytmlekdmnpljcoaa
open Go.RowKit

theorem count_facts (c0 : List Int) (t : Int) (bits : Nat) (hb : bits ≤ 16) (hl : c0.length = 3 * bits) :
    (execR false 0 [] bits c0).done = true ∧ ((execR false 0 [] bits c0).many = 6 * (execR false 0 [] bits c0).out.1 + (if (execR false 0 [] bits c0).out.1 < bits then 3 else 0)) ∧ (execR false 0 [] bits c0).out.1 ≤ bits ∧
    (execR true t [] bits c0).done = true ∧ ((execR true t [] bits c0).out.2 = 0 ∨ (execR true t [] bits c0).out.2 = 12) ∧
    ((execR true t [] bits c0).out.2 = 0 → (execR true t [] bits c0).many = 6 * (execR false 0 [] bits c0).out.1 + (if (execR false 0 [] bits c0).out.1 < bits then 3 else 0) + 6 * (tgt t bits - (execR false 0 [] bits c0).out.1)) := by
  obtain ⟨a1, a2, a3⟩ := level0 0 bits c0 hb hl
  obtain ⟨b1, b2, b3⟩ := raise0 t bits c0 hb hl
  refine ⟨a1, by rw [a3, a2], ?_, b1, b2, fun h => by rw [a2]; exact (b3 h).2⟩
  rw [a2, level_bits c0 false bits hl]
  have := (levelUp_spec c0 false bits 0).2.1
  show levelUp c0 false bits 0 ≤ bits
  omega

set_option maxRecDepth 100000 in
set_option maxHeartbeats 4000000 in
theorem counts_any (l : List Int) (lv : Value) (t : Int) (w : World) (hl : Reads w 1 lv l.length (l.map (Value.int .u8))) (h8 : ∀ x ∈ l, isU8 x) (ht : isU8 t) :
    Calls Try.prog 8 #[lv, .int .u8 t] w fun e w' => e = .returned (.bool true) ∧ Ext w w' := by
  have HL := hide hl
  have hm := hl.len_le
  unfold maxLen at hm
  obtain ⟨_, B, c, rfl, _, _, _⟩ := hl
  have H8 := hide (And.intro h8 ht)
  obtain ⟨ht0, ht1⟩ := ht
  clear h8
  by_cases hlen : 48 < l.length
  · have h1 : (48 : Int) < (l.length : Int) := by omega
    go_enter Try.func8, Try.ntmps8
    go_wp2_with fail
    refine (sanity_any _).mono ?_
    rintro e w1 ⟨rfl, hE⟩
    have H1 := hide hE
    clear hE
    go_wp2
    go_ret
    exact ⟨rfl, unhide H1⟩
  · have h1 : ¬ (48 : Int) < (l.length : Int) := by omega
    have HC := hide (And.intro (cellsOf_length l false) (cellsOf_val l false))
    have HR := hide (count_facts (cellsOf l false) t (bitsOf l) (bitsOf_le l) (cellsOf_length l false))
    have hn := bitsOf_le l
    have htg := tgt_le t (bitsOf l)
    go_enter Try.func8, Try.ntmps8
    go_wp2_with fail
    refine (sanity_any _).mono ?_
    rintro e w1 ⟨rfl, hE⟩
    have H1 := hide hE
    clear hE
    go_wp2_with fail
    refine (cells_any l _ false _ ((unhide HL).ext (unhide H1)) (unhide H8).1).mono ?_
    rintro e w2 ⟨fv, rfl, hF, hE⟩
    have hF := hF.fuses
    obtain ⟨_, ⟨_, A2, c2, rfl, _⟩, _⟩ := hF.ex
    have H2 := hide (And.intro hF ((unhide H1).trans hE))
    clear hF hE H1
    obtain ⟨ht5, ht6⟩ := htg
    have HT := hide ht6
    clear ht6
    generalize bitsOf l = n at *
    generalize cellsOf l false = c0 at *
    generalize hg : tgt t n = g at *
    clear hg
    go_wp2_with fail
    refine (exec_gen false 0 _ [] _ c0 n _ ((unhide H2).1.ext ((Ext.refl _).alloc _)) (Reads.nil _ _) (by simp) ⟨by omega, by omega⟩ hn (unhide HC).1).mono ?_
    rintro e w3 ⟨A3, c3, he, hF, hE⟩
    rw [(unhide HR).1] at he
    have HQ := hide (unhide HR).2
    generalize hv0 : execR false 0 [] n c0 = R1 at *
    generalize hv1 : R1.out.1 = m1 at *
    generalize hv2 : R1.many = m2 at *
    generalize hv3 : R1.bad = m3 at *
    generalize hv4 : R1.out.2 = m4 at *
    subst he
    have H3 := hide (And.intro ((unhide H2).1.ext (((Ext.refl _).alloc _).trans hE)) (And.intro ((unhide H2).2.trans (((Ext.refl _).alloc _).trans hE)) ((Blk.new w2 40 #[.slice A2 1 c2]).ext hE)))
    obtain ⟨b0, bf, bl⟩ := (unhide H3).2.2.cells1
    clear hF hE H2 hv0 hv1 hv2 hv3 hv4 HR
    have hm1 := (unhide HQ).2.1
    have i1 : IntKind.i64.wrap (6 * (m1 : Int)) = 6 * (m1 : Int) := IntWalk.i64_in _ (by omega)
    have i2 : IntKind.i64.wrap (6 * (m1 : Int) + 3) = 6 * (m1 : Int) + 3 := IntWalk.i64_in _ (by omega)
    have e1 : IntKind.i64.wrap ((n : Int) + 1) = (n : Int) + 1 := IntWalk.i64_in _ (by omega)
    have e2 : IntKind.i64.wrap t = t := IntWalk.i64_in _ (by omega)
    have e3 : (0 : Int) ≤ (n : Int) + 1 := by omega
    have e4 : t % ((n : Int) + 1) = (g : Int) := unhide HT
    have e5 : IntKind.i64.wrap ((g : Int) - (m1 : Int)) = (g : Int) - (m1 : Int) := IntWalk.i64_in _ (by omega)
    by_cases hlt : m1 < n
    · have hlt' : (m1 : Int) < (n : Int) := by omega
      go_wp2_with fail
      refine (exec_gen true t _ [] _ c0 n _ ((unhide H3).1.ext ((Ext.refl _).alloc _)) (Reads.nil _ _) (by simp) (unhide H8).2 hn (unhide HC).1).mono ?_
      rintro e w4 ⟨A4, c4, he, hF, hE⟩
      rw [(unhide HQ).2.2.1] at he
      have HP := hide (unhide HQ).2.2.2
      have hm2 := (unhide HQ).1
      rw [if_pos hlt] at hm2
      try rw [Nat.add_zero] at hm2
      generalize hv0 : execR true t [] n c0 = R2 at *
      generalize hv2 : R2.many = k2 at *
      generalize hv3 : R2.bad = k3 at *
      generalize hv4 : R2.out.2 = k4 at *
      generalize hv5 : R2.out.1 = k1 at *
      subst he
      subst hm2
      have H4 := hide ((unhide H3).2.1.trans (((Ext.refl _).alloc _).trans hE))
      obtain ⟨⟨p0, p1, p2, p3, p4, p5⟩, pf, pl⟩ := ((Blk.new w3 44 #[.slice A3 1 c3, .int .i64 (m1 : Int), .int .i64 m4, .bool true, .int .i64 (((6 * m1 + 3 : Nat)) : Int), .bool m3]).ext hE).cells6
      clear hF hE H3 hv0 hv2 hv3 hv4 hv5 b0 bf bl HQ
      have hk := (unhide HP).1
      by_cases hgm : m1 < g
      · have hg1 : (0 : Int) < (g : Int) - (m1 : Int) := by omega
        have hg2 : ¬ ((g : Int) - (m1 : Int)) < 0 := by omega
        have e6 : IntKind.i64.wrap (6 * ((g : Int) - (m1 : Int))) = 6 * ((g : Int) - (m1 : Int)) := IntWalk.i64_in _ (by omega)
        rcases hk with rfl | rfl
        · have hk2 := (unhide HP).2 rfl
          rw [if_pos hlt] at hk2
          try rw [Nat.add_zero] at hk2
          clear HP
          subst hk2
          go_wp2
          go_quiet (fail)
          go_wp2
          all_goals
            go_ret
            exact ⟨ret_bool (by first | rfl | (simp; omega)), (unhide H4).trans (((Ext.refl _).alloc _).drewN _)⟩
        · clear HP
          go_wp2
          go_quiet (fail)
          go_wp2
          all_goals
            go_ret
            exact ⟨ret_bool (by first | rfl | (simp; omega)), (unhide H4).trans (((Ext.refl _).alloc _).drewN _)⟩
      · have hg1 : ¬ (0 : Int) < (g : Int) - (m1 : Int) := by omega
        have hg2 : ((g : Int) - (m1 : Int)) ≤ 0 := by omega
        rcases hk with rfl | rfl
        · have hk2 := (unhide HP).2 rfl
          rw [if_pos hlt, show g - m1 = 0 from by omega, Nat.mul_zero, Nat.add_zero] at hk2
          try rw [Nat.add_zero] at hk2
          clear HP
          subst hk2
          go_wp2
          go_quiet (fail)
          go_wp2
          all_goals
            go_ret
            exact ⟨ret_bool (by first | rfl | (simp; omega)), (unhide H4).trans (((Ext.refl _).alloc _).drewN _)⟩
        · clear HP
          go_wp2
          go_quiet (fail)
          go_wp2
          all_goals
            go_ret
            exact ⟨ret_bool (by first | rfl | (simp; omega)), (unhide H4).trans (((Ext.refl _).alloc _).drewN _)⟩
    · have hlt' : ¬ (m1 : Int) < (n : Int) := by omega
      go_wp2_with fail
      refine (exec_gen true t _ [] _ c0 n _ ((unhide H3).1.ext ((Ext.refl _).alloc _)) (Reads.nil _ _) (by simp) (unhide H8).2 hn (unhide HC).1).mono ?_
      rintro e w4 ⟨A4, c4, he, hF, hE⟩
      rw [(unhide HQ).2.2.1] at he
      have HP := hide (unhide HQ).2.2.2
      have hm2 := (unhide HQ).1
      rw [if_neg hlt] at hm2
      try rw [Nat.add_zero] at hm2
      generalize hv0 : execR true t [] n c0 = R2 at *
      generalize hv2 : R2.many = k2 at *
      generalize hv3 : R2.bad = k3 at *
      generalize hv4 : R2.out.2 = k4 at *
      generalize hv5 : R2.out.1 = k1 at *
      subst he
      subst hm2
      have H4 := hide ((unhide H3).2.1.trans (((Ext.refl _).alloc _).trans hE))
      obtain ⟨⟨p0, p1, p2, p3, p4, p5⟩, pf, pl⟩ := ((Blk.new w3 44 #[.slice A3 1 c3, .int .i64 (m1 : Int), .int .i64 m4, .bool true, .int .i64 (((6 * m1 : Nat)) : Int), .bool m3]).ext hE).cells6
      clear hF hE H3 hv0 hv2 hv3 hv4 hv5 b0 bf bl HQ
      have hk := (unhide HP).1
      have hgm : ¬ m1 < g := by omega
      have hg1 : ¬ (0 : Int) < (g : Int) - (m1 : Int) := by omega
      have hg2 : ((g : Int) - (m1 : Int)) ≤ 0 := by omega
      rcases hk with rfl | rfl
      · have hk2 := (unhide HP).2 rfl
        rw [if_neg hlt, show g - m1 = 0 from by omega, Nat.mul_zero, Nat.add_zero] at hk2
        try rw [Nat.add_zero] at hk2
        clear HP
        subst hk2
        go_wp2
        go_quiet (fail)
        go_wp2
        all_goals
          go_ret
          exact ⟨ret_bool (by first | rfl | (simp; omega)), (unhide H4).trans (((Ext.refl _).alloc _).drewN _)⟩
      · clear HP
        go_wp2
        go_quiet (fail)
        go_wp2
        all_goals
          go_ret
          exact ⟨ret_bool (by first | rfl | (simp; omega)), (unhide H4).trans (((Ext.refl _).alloc _).drewN _)⟩

end Go.Proofs.Ytmlekdmnpljcoaa
