/-
  The law RatchetWornOnlyIfStuck, walked.
-/
import Derived.Test.YtmlekdmnpljcoaaLawC
import Derived.Outline
namespace Go.Proofs.Ytmlekdmnpljcoaa
open Go.RowKit

theorem worn_facts (c0 : List Int) (t : Int) (bits : Nat) (hb : bits ≤ 16) (hl : c0.length = 3 * bits) (hv : Val c0) :
    (execR true t [] bits c0).done = true ∧ (((execR true t [] bits c0).out.2 = 0 ∧ tgt t bits ≤ (execR true t [] bits c0).out.1) ∨ ((execR true t [] bits c0).out.2 = 12 ∧ (execR true t [] bits c0).out.1 < bits ∧ 2 ≤ stuckC c0 (execR true t [] bits c0).out.1)) := by
  obtain ⟨b1, _, _⟩ := raise0 t bits c0 hb hl
  obtain ⟨_, h | h⟩ := execR_cases [] true t bits c0 hb hl hv
  · refine ⟨b1, ?_⟩
    rcases h.2.ok with ⟨e1, _, e2, _⟩ | ⟨_, e1, e2, e3⟩
    · exact .inl ⟨e1, e2 rfl⟩
    · exact .inr ⟨e1, e2, e3⟩
  · rw [b1] at h; exact absurd h.1 (by simp)
/-- Of the first k cells of a bit, how many are stuck. -/
def stuckK (c : List Int) (b : Nat) : Nat → Nat
  | 0 => 0
  | k + 1 => stuckK c b k + (if cell c (3 * b + k) = 3 then 1 else 0)
theorem stuckK_3 (c : List Int) (b : Nat) : stuckK c b 3 = stuckC c b := by
  unfold stuckK stuckK stuckK stuckK stuckC
  simp only [Nat.add_zero]
  omega
theorem stuckK_le (c : List Int) (b : Nat) : ∀ k, stuckK c b k ≤ k
  | 0 => Nat.le_refl _
  | k + 1 => by have := stuckK_le c b k; unfold stuckK; split <;> omega

set_option maxRecDepth 100000 in
set_option maxHeartbeats 4000000 in
theorem worn_any (l : List Int) (lv : Value) (t : Int) (w : World) (hl : Reads w 1 lv l.length (l.map (Value.int .u8))) (h8 : ∀ x ∈ l, isU8 x) (ht : isU8 t) :
    Calls Try.prog 6 #[lv, .int .u8 t] w fun e w' => e = .returned (.bool true) ∧ Ext w w' := by
  have HL := hide hl
  have hm := hl.len_le
  unfold maxLen at hm
  obtain ⟨_, B, c, rfl, _, _, _⟩ := hl
  have H8 := hide (And.intro h8 ht)
  obtain ⟨ht0, ht1⟩ := ht
  clear h8
  by_cases hlen : 48 < l.length
  · have h1 : (48 : Int) < (l.length : Int) := by omega
    go_enter Try.func6, Try.ntmps6
    go_wp2_with fail
    refine (sanity_any _).mono ?_
    rintro e w1 ⟨rfl, hE⟩
    have H1 := hide hE
    clear hE
    go_wp2
    go_ret
    exact ⟨rfl, unhide H1⟩
  · have h1 : ¬ (48 : Int) < (l.length : Int) := by omega
    have HC := hide (And.intro (cellsOf_length l false) (cellsOf_val l false))
    have HR := hide (worn_facts (cellsOf l false) t (bitsOf l) (bitsOf_le l) (cellsOf_length l false) (cellsOf_val l false))
    have hn := bitsOf_le l
    have htg := tgt_le t (bitsOf l)
    go_enter Try.func6, Try.ntmps6
    go_wp2_with fail
    refine (sanity_any _).mono ?_
    rintro e w1 ⟨rfl, hE⟩
    have H1 := hide hE
    clear hE
    go_wp2_with fail
    refine (cells_any l _ false _ ((unhide HL).ext (unhide H1)) (unhide H8).1).mono ?_
    rintro e w2 ⟨fv, rfl, hF, hE⟩
    have hF := hF.fuses
    obtain ⟨_, ⟨_, A2, c2, rfl, _⟩, _⟩ := hF.ex
    have H2 := hide (And.intro hF ((unhide H1).trans hE))
    clear hF hE H1
    obtain ⟨ht5, ht6⟩ := htg
    have HT := hide ht6
    clear ht6
    generalize bitsOf l = n at *
    generalize cellsOf l false = c0 at *
    generalize hg : tgt t n = g at *
    clear hg
    go_wp2_with fail
    refine (exec_gen true t _ [] _ c0 n _ ((unhide H2).1.ext ((Ext.refl _).alloc _)) (Reads.nil _ _) (by simp) (unhide H8).2 hn (unhide HC).1).mono ?_
    rintro e w3 ⟨A3, c3, he, hF, hE⟩
    rw [(unhide HR).1] at he
    have HQ := hide (unhide HR).2
    generalize hv0 : execR true t [] n c0 = R1 at *
    generalize hv1 : R1.out.1 = m1 at *
    generalize hv2 : R1.many = m2 at *
    generalize hv3 : R1.bad = m3 at *
    generalize hv4 : R1.out.2 = m4 at *
    subst he
    have H3 := hide (And.intro ((unhide H2).1.ext (((Ext.refl _).alloc _).trans hE)) (And.intro ((unhide H2).2.trans (((Ext.refl _).alloc _).trans hE)) ((Blk.new w2 40 #[.slice A2 1 c2]).ext hE)))
    obtain ⟨b0, bf, bl⟩ := (unhide H3).2.2.cells1
    clear hF hE H2 hv0 hv1 hv2 hv3 hv4 HR
    have e1 : IntKind.i64.wrap ((n : Int) + 1) = (n : Int) + 1 := IntWalk.i64_in _ (by omega)
    have e2 : IntKind.i64.wrap t = t := IntWalk.i64_in _ (by omega)
    have e3 : (0 : Int) ≤ (n : Int) + 1 := by omega
    have e4 : t % ((n : Int) + 1) = (g : Int) := unhide HT
    rcases unhide HQ with ⟨hq1, hq2⟩ | ⟨hq1, hq2, hq3⟩
    · subst hq1
      clear HQ
      have hq2' : (g : Int) ≤ (m1 : Int) := by omega
      go_wp2
      go_quiet (fail)
      go_wp2
      go_ret
      exact ⟨rfl, (unhide H3).2.1.trans (((Ext.refl _).alloc _).drewN _)⟩
    · subst hq1
      have HS := hide hq3
      clear HQ hq3 e4 e1 e2 e3
      have hm1 : (m1 : Int) < (n : Int) := by omega
      have hm2' : ¬ (n : Int) ≤ (m1 : Int) := by omega
      have i1 : IntKind.i64.wrap (3 * (m1 : Int)) = 3 * (m1 : Int) := IntWalk.i64_in _ (by omega)
      generalize hW3 : w3.alloc (.cells #[.slice A3 1 c3, .int .i64 (m1 : Int), .int .i64 12, .bool true, .int .i64 (m2 : Int), .bool m3] 44) = W3
      have HW3 := hide hW3
      clear hW3
      have hfus : FusesIn W3 (.slice A2 1 c2) [c0] := by rw [← unhide HW3]; exact (unhide H3).1.ext ((Ext.refl _).alloc _)
      obtain ⟨fb, fo, fc, bv, hfv, hfb, hfc, hfr⟩ := hfus.at_ (k := 0) (by simp)
      cases hfv
      have HB := hide hfr
      obtain ⟨_, B2, d2, rfl, _, _, _⟩ := hfr
      have hfc : W3.cell? ⟨fb, fo, none⟩ = some (.slice B2 [c0][0].length d2) := hfc
      have HK := hide (And.intro hfc (And.intro (by rw [← unhide HW3]; exact (unhide H3).2.2.ext ((Ext.refl _).alloc _) : Blk W3 w2.heap.size 40 #[.slice (some ⟨fb, fo, none⟩) 1 c2]) (by rw [← unhide HW3]; exact Blk.new _ _ _ : Blk W3 w3.heap.size 44 #[.slice A3 1 c3, .int .i64 (m1 : Int), .int .i64 12, .bool true, .int .i64 (m2 : Int), .bool m3])))
      clear hfc hfus
      have hlen := hide (unhide HC).1
      go_wp2
      go_loopw [9, 10] (fun s i wr => ∃ k : Nat, k ≤ 3 ∧ i = .int .i64 k ∧ s = .int .i64 (stuckK c0 m1 k) ∧ Ext W3 wr) (fun _ i _ => 3 - (intOf i).toNat)
      case atStart => exact ⟨0, by omega, rfl, rfl, by rw [← unhide HW3]; exact Ext.refl _⟩
      case round =>
        obtain ⟨k, hk, rfl, rfl, hE⟩ := hrel
        have HE := hide hE
        have hle := stuckK_le c0 m1 k
        by_cases hk3 : k < 3
        · have hj : 3 * m1 + k < [c0][0].length := by have := unhide hlen; show 3 * m1 + k < c0.length; omega
          obtain ⟨r0, r1, r2, u, hv, _, _, hbw, hu, hc1⟩ := ((unhide HB).ext hE).at1 hj
          cases hv
          have hu' : u = .int .u8 (cell c0 (3 * m1 + k)) := by
            have hj' : 3 * m1 + k < c0.length := hj
            replace hu : (c0.map (Value.int .u8))[3 * m1 + k]? = some u := hu
            rw [List.getElem?_map, List.getElem?_eq_getElem hj'] at hu
            cases hu
            unfold cell
            rw [getD_at hj']
          subst hu'
          have hK := unhide HK
          have g0 := Ext.cellv hE hK.1
          obtain ⟨q0, qf, ql⟩ := (hK.2.1.ext hE).cells1
          obtain ⟨⟨z0, z1, z2, z3, z4, z5⟩, zf, zl⟩ := (hK.2.2.ext hE).cells6
          have hS : Hid (stuckK c0 m1 (k + 1) = stuckK c0 m1 k + (if cell c0 (3 * m1 + k) = 3 then 1 else 0)) := hide rfl
          generalize cell c0 (3 * m1 + k) = x at *
          generalize stuckK c0 m1 k = n0 at *
          have j1 : IntKind.i64.wrap (3 * (m1 : Int) + (k : Int)) = 3 * (m1 : Int) + (k : Int) := IntWalk.i64_in _ (by omega)
          have j2 : (0 : Int) ≤ 3 * (m1 : Int) + (k : Int) := by omega
          have j3 : 3 * (m1 : Int) + (k : Int) < (c0.length : Int) := by have := unhide hlen; omega
          have j4 : (3 * (m1 : Int) + (k : Int)).toNat = 3 * m1 + k := by omega
          clear hE hK hu hj
          by_cases hx : x = 3
          · have hx' : (x == 3) = true := by simp [hx]
            have HX := hide hx
            clear hx
            go_wp2
            go_quiet (fail)
            go_wp2
            go_roundw
            case rel => exact ⟨k + 1, by omega, by go_num, int_eq (by rw [unhide hS, if_pos (unhide HX)]; rfl), (unhide HE).drewN _⟩
            case measure => simp [intOf]; omega
          · have hx' : (x == 3) = false := by simp [hx]
            have HX := hide hx
            clear hx
            go_wp2
            go_quiet (fail)
            go_wp2
            go_roundw
            case rel => exact ⟨k + 1, by omega, by go_num, int_eq (by rw [unhide hS, if_neg (unhide HX)]; rfl), (unhide HE).drewN _⟩
            case measure => simp [intOf]; omega
        · obtain rfl : k = 3 := by omega
          have h3 : 2 ≤ stuckK c0 m1 3 := by rw [stuckK_3]; exact unhide HS
          have h3' : (2 : Int) ≤ ((stuckK c0 m1 3 : Nat) : Int) := by omega
          clear hE
          generalize stuckK c0 m1 3 = n0 at *
          go_wp2
          go_ret
          exact ⟨rfl, ((unhide H3).2.1.trans (by rw [← unhide HW3]; exact (Ext.refl _).alloc _)).trans (unhide HE)⟩

end Go.Proofs.Ytmlekdmnpljcoaa
