/-
  The law RatchetRaiseReaches, walked.
-/
import Derived.Test.YtmlekdmnpljcoaaSan
import Derived.Test.YtmlekdmnpljcoaaRatSum
import Derived.Outline
namespace Go.Proofs.Ytmlekdmnpljcoaa
open Go.RowKit

theorem cellsOf_length (l : List Int) (s : Bool) : (cellsOf l s).length = 3 * bitsOf l := by simp [cellsOf]
theorem cell_cellsOf (l : List Int) (s : Bool) (j : Nat) : cell (cellsOf l s) j = if j < 3 * bitsOf l then cellOf l s j else 0 := by
  unfold cell cellsOf
  rw [List.getD_eq_getElem?_getD, List.getElem?_map]
  by_cases h : j < 3 * bitsOf l
  · rw [if_pos h, List.getElem?_range h]; rfl
  · rw [if_neg h, List.getElem?_eq_none (by simpa using h)]; rfl
theorem cellsOf_val (l : List Int) (s : Bool) : Val (cellsOf l s) := fun j => by
  rw [cell_cellsOf]
  split
  · unfold cellOf
    split <;> omega
  · omega
theorem bitsOf_le (l : List Int) : bitsOf l ≤ 16 := by unfold bitsOf; omega
theorem cellsOf_sound (l : List Int) (b : Nat) (hb : b < bitsOf l) : stuckC (cellsOf l true) b ≤ 1 := by
  unfold stuckC
  rw [cell_cellsOf, cell_cellsOf, cell_cellsOf, if_pos (show 3 * b < 3 * bitsOf l by omega), if_pos (show 3 * b + 1 < 3 * bitsOf l by omega), if_pos (show 3 * b + 2 < 3 * bitsOf l by omega)]
  unfold cellOf
  rw [show 3 * b / 3 = b from by omega, show (3 * b + 1) / 3 = b from by omega, show (3 * b + 2) / 3 = b from by omega]
  by_cases h : 1 < stuckN l b 3
  · simp [h]
  · simp only [h, and_false, if_false]
    unfold stuckN stuckN stuckN stuckN at h
    simp only [Nat.add_zero] at h
    omega

/-- execute, with what comes out written out. -/
theorem exec_gen (raise : Bool) (target : Int) (fl : Value) (faults : List Int) (fv : Value) (cells : List Int) (bits : Nat) (w : World) (hf : FusesIn w fv [cells]) (hfl : Reads w 1 fl faults.length (faults.map (Value.int .u8))) (h8 : ∀ x ∈ faults, isU8 x)
    (ht : isU8 target) (hb : bits ≤ 16) (hc : cells.length = 3 * bits) :
    Calls Try.prog 16 #[.agg #[fv], .agg #[.bool raise, .int .u8 target, fl], .int .i64 bits] w fun e w' =>
      ∃ A c, e = .returned (.agg #[.slice A 1 c, .int .i64 ((execR raise target faults bits cells).out.1 : Int), .int .i64 (execR raise target faults bits cells).out.2, .bool (execR raise target faults bits cells).done, .int .i64 ((execR raise target faults bits cells).many : Int), .bool (execR raise target faults bits cells).bad]) ∧
        FusesIn w' (.slice A 1 c) [(execR raise target faults bits cells).cells] ∧ Ext w w' := by
  refine (execute_any raise target fl faults fv cells bits w hf hfl h8 ht hb hc).mono ?_
  rintro e w' ⟨fv', he, hF, hE⟩
  obtain ⟨_, ⟨_, A, c, rfl, _⟩, _⟩ := hF.ex
  exact ⟨A, c, he, hF, hE⟩

/-- What the law's three sessions come to. -/
theorem reach_facts (c0 : List Int) (t : Int) (bits : Nat) (hb : bits ≤ 16) (hl : c0.length = 3 * bits) (hv : Val c0) (hs : ∀ b, b < bits → stuckC c0 b ≤ 1) :
    (execR false 0 [] bits c0).done = true ∧ (execR false 0 [] bits c0).out.2 = 0 ∧ (execR true t [] bits c0).done = true ∧ (execR true t [] bits c0).out.2 = 0 ∧ (execR true t [] bits c0).out.1 = max (execR false 0 [] bits c0).out.1 (tgt t bits) ∧
    (execR true t [] bits c0).cells.length = 3 * bits ∧ (execR false 0 [] bits (execR true t [] bits c0).cells).done = true ∧ (execR true t [] bits c0).out.1 ≤ (execR false 0 [] bits (execR true t [] bits c0).cells).out.1 ∧
    (execR true t [] bits c0).out.1 ≤ levelOfCells (execR true t [] bits c0).cells false ∧ (execR false 0 [] bits c0).out.1 ≤ 16 := by
  obtain ⟨a1, a2, a3⟩ := level0 0 bits c0 hb hl
  obtain ⟨b1, b2, b3⟩ := raise0 t bits c0 hb hl
  obtain ⟨_, h | h⟩ := execR_cases [] true t bits c0 hb hl hv
  · obtain ⟨_, hp⟩ := h
    have hlen : (execR true t [] bits c0).cells.length = 3 * bits := by rw [hp.evo.len]; exact hl
    obtain ⟨c1, c2, c3⟩ := level0 0 bits (execR true t [] bits c0).cells hb hlen
    have hE : (execR true t [] bits c0).out.2 = 0 := by
      rcases hp.ok with ⟨e, _⟩ | ⟨_, _, e2, e3⟩
      · exact e
      · have := hs _ e2; omega
    have hL : (execR true t [] bits c0).out.1 ≤ levelOfCells (execR true t [] bits c0).cells false := by
      rcases hp.ok with ⟨_, _, _, _, e⟩ | ⟨_, e, _⟩
      · exact e
      · omega
    have h16 : levelOfCells c0 false ≤ 16 := by
      rw [level_bits c0 false bits hl]
      have := (levelUp_spec c0 false bits 0).2.1
      omega
    refine ⟨a1, by rw [a2], b1, hE, by rw [a2]; exact (b3 hE).1, hlen, c1, by rw [c2]; exact hL, hL, by rw [a2]; exact h16⟩
  · rw [b1] at h; exact absurd h.1 (by simp)

set_option maxRecDepth 100000 in
set_option maxHeartbeats 4000000 in
theorem reaches_any (l : List Int) (lv : Value) (t : Int) (w : World) (hl : Reads w 1 lv l.length (l.map (Value.int .u8))) (h8 : ∀ x ∈ l, isU8 x) (ht : isU8 t) :
    Calls Try.prog 5 #[lv, .int .u8 t] w fun e w' => e = .returned (.bool true) ∧ Ext w w' := by
  have HL := hide hl
  have hm := hl.len_le
  unfold maxLen at hm
  obtain ⟨_, B, c, rfl, _, _, _⟩ := hl
  have H8 := hide (And.intro h8 ht)
  obtain ⟨ht0, ht1⟩ := ht
  clear h8
  by_cases hlen : 48 < l.length
  · have h1 : (48 : Int) < (l.length : Int) := by omega
    go_enter Try.func5, Try.ntmps5
    go_wp2_with fail
    refine (sanity_any _).mono ?_
    rintro e w1 ⟨rfl, hE⟩
    have H1 := hide hE
    clear hE
    go_wp2
    go_ret
    exact ⟨rfl, unhide H1⟩
  · have h1 : ¬ (48 : Int) < (l.length : Int) := by omega
    have HC := hide (And.intro (cellsOf_length l true) (cellsOf_val l true))
    have HR := hide (reach_facts (cellsOf l true) t (bitsOf l) (bitsOf_le l) (cellsOf_length l true) (cellsOf_val l true) (fun b hb => cellsOf_sound l b hb))
    have hn := bitsOf_le l
    have htg := tgt_le t (bitsOf l)
    go_enter Try.func5, Try.ntmps5
    go_wp2_with fail
    refine (sanity_any _).mono ?_
    rintro e w1 ⟨rfl, hE⟩
    have H1 := hide hE
    clear hE
    go_wp2_with fail
    refine (cells_any l _ true _ ((unhide HL).ext (unhide H1)) (unhide H8).1).mono ?_
    rintro e w2 ⟨fv, rfl, hF, hE⟩
    have hF := hF.fuses
    obtain ⟨_, ⟨_, A2, c2, rfl, _⟩, _⟩ := hF.ex
    have H2 := hide (And.intro hF ((unhide H1).trans hE))
    clear hF hE H1
    obtain ⟨ht5, ht6⟩ := htg
    have HT := hide ht6
    clear ht6
    generalize bitsOf l = n at *
    generalize cellsOf l true = c0 at *
    go_wp2_with fail
    refine (exec_gen false 0 _ [] _ c0 n _ ((unhide H2).1.ext ((Ext.refl _).alloc _)) (Reads.nil _ _) (by simp) ⟨by omega, by omega⟩ hn (unhide HC).1).mono ?_
    rintro e w3 ⟨A3, c3, he, hF, hE⟩
    rw [(unhide HR).1, (unhide HR).2.1] at he
    generalize hv1 : (execR false 0 [] n c0).out.1 = m1 at *
    generalize hv2 : (execR false 0 [] n c0).many = m2 at *
    generalize hv3 : (execR false 0 [] n c0).bad = m3 at *
    subst he
    have H3 := hide (And.intro ((unhide H2).1.ext (((Ext.refl _).alloc _).trans hE)) (And.intro ((unhide H2).2.trans (((Ext.refl _).alloc _).trans hE)) ((Blk.new w2 40 #[.slice A2 1 c2]).ext hE)))
    obtain ⟨b0, bf, bl⟩ := (unhide H3).2.2.cells1
    clear hF hE H2 hv1 hv2 hv3
    go_wp2_with fail
    refine (exec_gen true t _ [] _ c0 n _ ((unhide H3).1.ext ((Ext.refl _).alloc _)) (Reads.nil _ _) (by simp) (unhide H8).2 hn (unhide HC).1).mono ?_
    rintro e w4 ⟨A4, c4, he, hF, hE⟩
    rw [(unhide HR).2.2.1, (unhide HR).2.2.2.1] at he
    have HQ := hide (unhide HR).2.2.2.2
    generalize hv1 : execR true t [] n c0 = R2 at *
    generalize hv2 : R2.many = k2 at *
    generalize hv3 : R2.bad = k3 at *
    generalize hv4 : R2.cells = c5 at *
    generalize hv5 : R2.out.1 = k1 at *
    subst he
    have H4 := hide (And.intro hF (And.intro ((unhide H3).2.1.trans (((Ext.refl _).alloc _).trans hE)) ((Blk.new w3 44 #[.slice A3 1 c3, .int .i64 (m1 : Int), .int .i64 0, .bool true, .int .i64 (m2 : Int), .bool m3]).ext hE)))
    clear hF hE H3 hv1 hv2 hv3 hv4 hv5 b0 bf bl HR
    go_wp2_with fail
    refine (exec_gen false 0 _ [] _ c5 n _ ((unhide H4).1.ext ((Ext.refl _).alloc _)) (Reads.nil _ _) (by simp) ⟨by omega, by omega⟩ hn (unhide HQ).2.1).mono ?_
    rintro e w5 ⟨A5, d5, he, hF, hE⟩
    rw [(unhide HQ).2.2.1] at he
    generalize hv1 : execR false 0 [] n c5 = R3 at *
    generalize hv2 : R3.many = j2 at *
    generalize hv3 : R3.bad = j3 at *
    generalize hv4 : R3.out.2 = j4 at *
    generalize hv5 : R3.out.1 = j1 at *
    subst he
    have H5 := hide (And.intro ((unhide H4).1.ext (((Ext.refl _).alloc _).trans hE)) ((unhide H4).2.1.trans (((Ext.refl _).alloc _).trans hE)))
    obtain ⟨⟨p0, p1, p2, p3, p4, p5⟩, pf, pl⟩ := ((unhide H4).2.2.ext (((Ext.refl _).alloc _).trans hE)).cells6
    obtain ⟨⟨q0, q1, q2, q3, q4, q5⟩, qf, ql⟩ := ((Blk.new w4 44 #[.slice A4 1 c4, .int .i64 (k1 : Int), .int .i64 0, .bool true, .int .i64 (k2 : Int), .bool k3]).ext hE).cells6
    clear hF hE H4 hv1 hv2 hv3 hv4 hv5
    go_wp2
    generalize hg : tgt t n = g at *
    have e1 : IntKind.i64.wrap ((n : Int) + 1) = (n : Int) + 1 := IntWalk.i64_in _ (by omega)
    have e2 : IntKind.i64.wrap t = t := IntWalk.i64_in _ (by omega)
    have e3 : (0 : Int) ≤ (n : Int) + 1 := by omega
    have e4 : t % ((n : Int) + 1) = (g : Int) := unhide HT
    clear hg
    have hj := (unhide HQ).2.2.2.1
    by_cases hmg : m1 < g
    · have hk : k1 = g := by have := (unhide HQ).1; omega
      subst hk
      have hj' : (k1 : Int) ≤ (j1 : Int) := by omega
      have hm' : (m1 : Int) < (k1 : Int) := by omega
      go_quiet (fail)
      go_wp2_with fail
      refine (least_any _ [c5] 0 _ ((unhide H5).1.ext ((Ext.refl _).alloc _ |>.drewN _)) (by simp) (by simp; have := (unhide HQ).2.1; omega)).mono ?_
      rintro e w6 ⟨rfl, hE⟩
      have hL : (k1 : Int) ≤ ((levelOfCells c5 false : Nat) : Int) := by have := (unhide HQ).2.2.2.2.1; omega
      replace hL : (k1 : Int) ≤ ((levelOfCells [c5][0] false : Nat) : Int) := hL
      have HE := hide hE
      clear hE
      generalize levelOfCells [c5][0] false = lv at *
      go_wp2
      go_ret
      exact ⟨rfl, (unhide H5).2.trans (((Ext.refl _).alloc _ |>.drewN _).trans (unhide HE))⟩
    · have hk : k1 = m1 := by have := (unhide HQ).1; omega
      subst hk
      have hj' : (k1 : Int) ≤ (j1 : Int) := by omega
      have hm' : ¬ (k1 : Int) < (g : Int) := by omega
      go_quiet (fail)
      go_wp2_with fail
      refine (least_any _ [c5] 0 _ ((unhide H5).1.ext ((Ext.refl _).alloc _ |>.drewN _)) (by simp) (by simp; have := (unhide HQ).2.1; omega)).mono ?_
      rintro e w6 ⟨rfl, hE⟩
      have hL : (k1 : Int) ≤ ((levelOfCells c5 false : Nat) : Int) := by have := (unhide HQ).2.2.2.2.1; omega
      replace hL : (k1 : Int) ≤ ((levelOfCells [c5][0] false : Nat) : Int) := hL
      have HE := hide hE
      clear hE
      generalize levelOfCells [c5][0] false = lv at *
      go_wp2
      go_ret
      exact ⟨rfl, (unhide H5).2.trans (((Ext.refl _).alloc _ |>.drewN _).trans (unhide HE))⟩

end Go.Proofs.Ytmlekdmnpljcoaa
