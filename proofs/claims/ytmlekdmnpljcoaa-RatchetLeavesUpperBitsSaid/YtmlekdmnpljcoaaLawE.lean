/-
  The law RatchetLeavesUpperBits, walked.
-/
import Derived.Test.YtmlekdmnpljcoaaLawC
import Derived.Outline
namespace Go.Proofs.Ytmlekdmnpljcoaa
open Go.RowKit

theorem upper_facts (F : List Int) (raise : Bool) (c0 : List Int) (t : Int) (bits : Nat) (hb : bits ≤ 16) (hl : c0.length = 3 * bits) (hv : Val c0) :
    (execR raise t F bits c0).bad = false ∧ (execR raise t F bits c0).cells.length = 3 * bits ∧ ∀ j, 3 * max (levelOfCells c0 true) (if raise then tgt t bits else 0) ≤ j → cell (execR raise t F bits c0).cells j = cell c0 j := by
  obtain ⟨h0, h | h⟩ := execR_cases F raise t bits c0 hb hl hv
  · exact ⟨h0, by rw [h.2.evo.len]; exact hl, h.2.out⟩
  · exact ⟨h0, by rw [h.2.evo.len]; exact hl, h.2.out⟩
theorem most_le (c0 : List Int) (bits : Nat) (hl : c0.length = 3 * bits) : levelOfCells c0 true ≤ bits := by
  rw [level_bits c0 true bits hl]
  have := (levelUp_spec c0 true bits 0).2.1
  omega

set_option maxRecDepth 100000 in
set_option maxHeartbeats 4000000 in
theorem upper_any (l : List Int) (lv : Value) (raise : Bool) (t : Int) (fl : Value) (F : List Int) (w : World) (hl : Reads w 1 lv l.length (l.map (Value.int .u8))) (h8 : ∀ x ∈ l, isU8 x) (ht : isU8 t) (hfl : Reads w 1 fl F.length (F.map (Value.int .u8))) (hF8 : ∀ x ∈ F, isU8 x) :
    Calls Try.prog 7 #[lv, .agg #[.bool raise, .int .u8 t, fl]] w fun e w' => e = .returned (.bool true) ∧ Ext w w' := by
  have HL := hide hl
  have hm := hl.len_le
  have HF := hide hfl
  have hmF := hfl.len_le
  unfold maxLen at hm hmF
  obtain ⟨_, B, c, rfl, _, _, _⟩ := hl
  obtain ⟨_, BF, cF, rfl, _, _, _⟩ := hfl
  have H8 := hide (And.intro h8 (And.intro ht hF8))
  obtain ⟨ht0, ht1⟩ := ht
  clear h8 hF8
  by_cases hlen : 48 < l.length
  · have h1 : (48 : Int) < (l.length : Int) := by omega
    go_enter Try.func7, Try.ntmps7
    go_wp2_with fail
    refine (sanity_any _).mono ?_
    rintro e w1 ⟨rfl, hE⟩
    have H1 := hide (((Ext.refl w).alloc _).trans hE)
    have hS := ((Blk.new w 47 #[.bool raise, .int .u8 t, .slice BF F.length cF]).ext hE)
    obtain ⟨s0, s1, s2, fs, ls⟩ := hS.cells3
    clear hE hS
    go_wp2
    go_ret
    exact ⟨rfl, unhide H1⟩
  by_cases hlF : 200 < F.length
  · have h1 : decide ((48 : Int) < (l.length : Int)) = false := by simp; omega
    have h2 : (200 : Int) < (F.length : Int) := by omega
    go_enter Try.func7, Try.ntmps7
    go_wp2_with fail
    refine (sanity_any _).mono ?_
    rintro e w1 ⟨rfl, hE⟩
    have H1 := hide (((Ext.refl w).alloc _).trans hE)
    have hS := ((Blk.new w 47 #[.bool raise, .int .u8 t, .slice BF F.length cF]).ext hE)
    obtain ⟨s0, s1, s2, fs, ls⟩ := hS.cells3
    clear hE hS
    go_wp2
    go_ret
    exact ⟨rfl, unhide H1⟩
  · have h1 : decide ((48 : Int) < (l.length : Int)) = false := by simp; omega
    have h2 : decide ((200 : Int) < (F.length : Int)) = false := by simp; omega
    have HC := hide (And.intro (cellsOf_length l false) (cellsOf_val l false))
    have HR := hide (upper_facts F raise (cellsOf l false) t (bitsOf l) (bitsOf_le l) (cellsOf_length l false) (cellsOf_val l false))
    have hmo := most_le (cellsOf l false) (bitsOf l) (cellsOf_length l false)
    have hn := bitsOf_le l
    have htg := tgt_le t (bitsOf l)
    go_enter Try.func7, Try.ntmps7
    go_wp2_with fail
    refine (sanity_any _).mono ?_
    rintro e w1 ⟨rfl, hE⟩
    have H1 := hide (((Ext.refl w).alloc _).trans hE)
    have HS := hide ((Blk.new w 47 #[.bool raise, .int .u8 t, .slice BF F.length cF]).ext hE)
    obtain ⟨s0, s1, s2, fs, ls⟩ := (unhide HS).cells3
    clear hE
    go_wp2_with fail
    refine (cells_any l _ false _ ((unhide HL).ext (unhide H1)) (unhide H8).1).mono ?_
    rintro e w2 ⟨fv, rfl, hFu, hE⟩
    have hFu := hFu.fuses
    obtain ⟨_, ⟨_, A2, c2, rfl, _⟩, _⟩ := hFu.ex
    have H2 := hide (And.intro hFu (And.intro ((unhide H1).trans hE) ((unhide HS).ext hE)))
    clear hFu hE H1 HS s0 s1 s2 fs ls
    obtain ⟨s0, s1, s2, fs, ls⟩ := (unhide H2).2.2.cells3
    obtain ⟨ht5, ht6⟩ := htg
    have HT := hide ht6
    clear ht6
    generalize bitsOf l = n at *
    generalize cellsOf l false = c0 at *
    generalize hg : tgt t n = g at *
    clear hg
    go_wp2_with fail
    refine (exec_gen raise t _ F _ c0 n _ ((unhide H2).1.ext ((Ext.refl _).alloc _)) ((unhide HF).ext ((unhide H2).2.1.alloc _)) (unhide H8).2.2 (unhide H8).2.1 hn (unhide HC).1).mono ?_
    rintro e w3 ⟨A3, c3, he, hFu, hE⟩
    rw [(unhide HR).1] at he
    have HQ := hide (unhide HR).2
    generalize hv0 : execR raise t F n c0 = R1 at *
    generalize hv1 : R1.out.1 = m1 at *
    generalize hv2 : R1.many = m2 at *
    generalize hv3 : R1.done = m3 at *
    generalize hv4 : R1.out.2 = m4 at *
    generalize hv5 : R1.cells = c1 at *
    subst he
    have H3 := hide (And.intro ((unhide H2).1.ext (((Ext.refl _).alloc _).trans hE)) (And.intro ((unhide H2).2.1.trans (((Ext.refl _).alloc _).trans hE)) (And.intro ((Blk.new w2 40 #[.slice A2 1 c2]).ext hE) (And.intro ((unhide H2).2.2.ext (((Ext.refl _).alloc _).trans hE)) hFu))))
    clear hFu hE H2 hv0 hv1 hv2 hv3 hv4 hv5 HR s0 s1 s2 fs ls
    obtain ⟨b0, bf, bl⟩ := (unhide H3).2.2.1.cells1
    go_wp2_with fail
    refine (most_any _ [c0] 0 _ ((unhide H3).1.ext ((Ext.refl _).alloc _)) (by simp) (by have := (unhide HC).1; show c0.length ≤ 100000; omega)).mono ?_
    rintro e w4 ⟨rfl, hE⟩
    have hE4 := ((Ext.refl w3).alloc (.cells #[.slice A3 1 c3, .int .i64 (m1 : Int), .int .i64 m4, .bool m3, .int .i64 (m2 : Int), .bool false] 44)).trans hE
    have hfus1 := (unhide H3).2.2.2.2.ext hE4
    obtain ⟨fb, fo, fc, bv, hfv, hfb, hfc, hfr⟩ := hfus1.at_ (k := 0) (by simp)
    cases hfv
    have HB1 := hide hfr
    obtain ⟨_, B1, d1, rfl, _, _, _⟩ := hfr
    have hfc : w4.cell? ⟨fb, fo, none⟩ = some (.slice B1 c1.length d1) := hfc
    have hfus0 := (unhide H3).1.ext hE4
    obtain ⟨gb, go, gc, bv0, hgv, hgb, hgc, hgr⟩ := hfus0.at_ (k := 0) (by simp)
    cases hgv
    have HB0 := hide hgr
    obtain ⟨_, B0, d0, rfl, _, _, _⟩ := hgr
    have hgc : w4.cell? ⟨gb, go, none⟩ = some (.slice B0 c0.length d0) := hgc
    have H4 := hide (And.intro hfc (And.intro hgc (And.intro ((unhide H3).2.2.1.ext hE4) (And.intro ((Blk.new w3 44 _).ext hE) ((unhide H3).2.1.trans hE4)))))
    obtain ⟨s0, s1, s2, fs, ls⟩ := ((unhide H3).2.2.2.1.ext hE4).cells3
    obtain ⟨⟨z0, z1, z2, z3, z4, z5⟩, zf, zl⟩ := (unhide H4).2.2.2.1.cells6
    clear hE hE4 hfus1 hfus0 hgc H3 b0 bf bl
    have HM := hide (rfl : levelOfCells [c0][0] true = levelOfCells c0 true)
    rw [show levelOfCells [c0][0] true = levelOfCells c0 true from rfl]
    clear HM
    generalize levelOfCells c0 true = mo at *
    have e1 : IntKind.i64.wrap ((n : Int) + 1) = (n : Int) + 1 := IntWalk.i64_in _ (by omega)
    have e2 : IntKind.i64.wrap t = t := IntWalk.i64_in _ (by omega)
    have e3 : (0 : Int) ≤ (n : Int) + 1 := by omega
    have e4 : t % ((n : Int) + 1) = (g : Int) := unhide HT
    have e5 : IntKind.i64.wrap (3 * (n : Int)) = 3 * (n : Int) := IntWalk.i64_in _ (by omega)
    have hq : ((c1.length : Int) != 3 * (n : Int)) = false := by have := (unhide HQ).1; simp; omega
    have hl1 := hide (unhide HQ).1
    have hl0 := hide (unhide HC).1
    cases raise with
    | false =>
      have e6 : IntKind.i64.wrap (3 * (mo : Int)) = 3 * (mo : Int) := IntWalk.i64_in _ (by omega)
      go_wp2
      go_loopw [10] (fun i wr => ∃ k : Nat, 3 * mo ≤ k ∧ k ≤ 3 * n ∧ i = .int .i64 k ∧ Ext w4 wr) (fun i _ => 3 * n - (intOf i).toNat)
      case atStart => exact ⟨3 * mo, Nat.le_refl _, by omega, by go_num, Ext.refl _⟩
      case round =>
        obtain ⟨k, hk0, hk, rfl, hE⟩ := hrel
        have HE := hide hE
        clear s0 s1 s2 fs ls z0 z1 z2 z3 z4 z5 zf zl hfc hq e1 e2 e3 e4 e6
        by_cases hk3 : k < 3 * n
        · have hk3' : (k : Int) < 3 * (n : Int) := by omega
          have hj1 : k < [c1][0].length := by have := unhide hl1; show k < c1.length; omega
          have hj0 : k < [c0][0].length := by have := unhide hl0; show k < c0.length; omega
          obtain ⟨r0, r1, r2, u, hv, _, _, hbw, hu, hc1⟩ := ((unhide HB1).ext hE).at1 hj1
          cases hv
          obtain ⟨q0, q1, q2, u2, hv2, _, _, hbw2, hu2, hc2⟩ := ((unhide HB0).ext hE).at1 hj0
          cases hv2
          have hsame : cell c1 k = cell c0 k := (unhide HQ).2 k (by simp only [Bool.false_eq_true, if_false, if_true]; omega)
          have hu' : u = .int .u8 (cell c0 k) := by
            have hj' : k < c1.length := hj1
            replace hu : (c1.map (Value.int .u8))[k]? = some u := hu
            rw [List.getElem?_map, List.getElem?_eq_getElem hj'] at hu
            cases hu
            rw [← hsame]
            unfold cell
            rw [getD_at hj']
          have hu2' : u2 = .int .u8 (cell c0 k) := by
            have hj' : k < c0.length := hj0
            replace hu2 : (c0.map (Value.int .u8))[k]? = some u2 := hu2
            rw [List.getElem?_map, List.getElem?_eq_getElem hj'] at hu2
            cases hu2
            unfold cell
            rw [getD_at hj']
          subst hu' hu2'
          have hK := unhide H4
          have g1 := Ext.cellv hE hK.1
          have g0 := Ext.cellv hE hK.2.1
          obtain ⟨y0, yf, yl⟩ := (hK.2.2.1.ext hE).cells1
          obtain ⟨⟨z0, z1, z2, z3, z4, z5⟩, zf, zl⟩ := (hK.2.2.2.1.ext hE).cells6
          have j1 : (k : Int) < (c1.length : Int) := by have := unhide hl1; omega
          have j0 : (k : Int) < (c0.length : Int) := by have := unhide hl0; omega
          clear hE hK hu hu2 hj1 hj0 hsame
          generalize cell c0 k = x at *
          go_wp2
          go_quiet (fail)
          go_wp2
          go_roundw
          case rel => exact ⟨k + 1, by omega, by omega, by go_num, (unhide HE).drewN _⟩
          case measure => simp [intOf]; omega
        · obtain rfl : k = 3 * n := by omega
          clear hE
          go_wp2
          go_ret
          exact ⟨rfl, (unhide H4).2.2.2.2.trans (unhide HE)⟩
    | true =>
      by_cases hmg : mo < g
      · have hmg' : (mo : Int) < (g : Int) := by omega
        have e6 : IntKind.i64.wrap (3 * (g : Int)) = 3 * (g : Int) := IntWalk.i64_in _ (by omega)
        go_wp2
        go_loopw [10] (fun i wr => ∃ k : Nat, 3 * g ≤ k ∧ k ≤ 3 * n ∧ i = .int .i64 k ∧ Ext w4 wr) (fun i _ => 3 * n - (intOf i).toNat)
        case atStart => exact ⟨3 * g, Nat.le_refl _, by omega, by go_num, Ext.refl _⟩
        case round =>
          obtain ⟨k, hk0, hk, rfl, hE⟩ := hrel
          have HE := hide hE
          clear s0 s1 s2 fs ls z0 z1 z2 z3 z4 z5 zf zl hfc hq e1 e2 e3 e4 e6
          by_cases hk3 : k < 3 * n
          · have hk3' : (k : Int) < 3 * (n : Int) := by omega
            have hj1 : k < [c1][0].length := by have := unhide hl1; show k < c1.length; omega
            have hj0 : k < [c0][0].length := by have := unhide hl0; show k < c0.length; omega
            obtain ⟨r0, r1, r2, u, hv, _, _, hbw, hu, hc1⟩ := ((unhide HB1).ext hE).at1 hj1
            cases hv
            obtain ⟨q0, q1, q2, u2, hv2, _, _, hbw2, hu2, hc2⟩ := ((unhide HB0).ext hE).at1 hj0
            cases hv2
            have hsame : cell c1 k = cell c0 k := (unhide HQ).2 k (by simp only [Bool.false_eq_true, if_false, if_true]; omega)
            have hu' : u = .int .u8 (cell c0 k) := by
              have hj' : k < c1.length := hj1
              replace hu : (c1.map (Value.int .u8))[k]? = some u := hu
              rw [List.getElem?_map, List.getElem?_eq_getElem hj'] at hu
              cases hu
              rw [← hsame]
              unfold cell
              rw [getD_at hj']
            have hu2' : u2 = .int .u8 (cell c0 k) := by
              have hj' : k < c0.length := hj0
              replace hu2 : (c0.map (Value.int .u8))[k]? = some u2 := hu2
              rw [List.getElem?_map, List.getElem?_eq_getElem hj'] at hu2
              cases hu2
              unfold cell
              rw [getD_at hj']
            subst hu' hu2'
            have hK := unhide H4
            have g1 := Ext.cellv hE hK.1
            have g0 := Ext.cellv hE hK.2.1
            obtain ⟨y0, yf, yl⟩ := (hK.2.2.1.ext hE).cells1
            obtain ⟨⟨z0, z1, z2, z3, z4, z5⟩, zf, zl⟩ := (hK.2.2.2.1.ext hE).cells6
            have j1 : (k : Int) < (c1.length : Int) := by have := unhide hl1; omega
            have j0 : (k : Int) < (c0.length : Int) := by have := unhide hl0; omega
            clear hE hK hu hu2 hj1 hj0 hsame
            generalize cell c0 k = x at *
            go_wp2
            go_quiet (fail)
            go_wp2
            go_roundw
            case rel => exact ⟨k + 1, by omega, by omega, by go_num, (unhide HE).drewN _⟩
            case measure => simp [intOf]; omega
          · obtain rfl : k = 3 * n := by omega
            clear hE
            go_wp2
            go_ret
            exact ⟨rfl, (unhide H4).2.2.2.2.trans (unhide HE)⟩
      · have hmg' : ¬ (mo : Int) < (g : Int) := by omega
        have e6 : IntKind.i64.wrap (3 * (mo : Int)) = 3 * (mo : Int) := IntWalk.i64_in _ (by omega)
        go_wp2
        go_loopw [10] (fun i wr => ∃ k : Nat, 3 * mo ≤ k ∧ k ≤ 3 * n ∧ i = .int .i64 k ∧ Ext w4 wr) (fun i _ => 3 * n - (intOf i).toNat)
        case atStart => exact ⟨3 * mo, Nat.le_refl _, by omega, by go_num, Ext.refl _⟩
        case round =>
          obtain ⟨k, hk0, hk, rfl, hE⟩ := hrel
          have HE := hide hE
          clear s0 s1 s2 fs ls z0 z1 z2 z3 z4 z5 zf zl hfc hq e1 e2 e3 e4 e6
          by_cases hk3 : k < 3 * n
          · have hk3' : (k : Int) < 3 * (n : Int) := by omega
            have hj1 : k < [c1][0].length := by have := unhide hl1; show k < c1.length; omega
            have hj0 : k < [c0][0].length := by have := unhide hl0; show k < c0.length; omega
            obtain ⟨r0, r1, r2, u, hv, _, _, hbw, hu, hc1⟩ := ((unhide HB1).ext hE).at1 hj1
            cases hv
            obtain ⟨q0, q1, q2, u2, hv2, _, _, hbw2, hu2, hc2⟩ := ((unhide HB0).ext hE).at1 hj0
            cases hv2
            have hsame : cell c1 k = cell c0 k := (unhide HQ).2 k (by simp only [Bool.false_eq_true, if_false, if_true]; omega)
            have hu' : u = .int .u8 (cell c0 k) := by
              have hj' : k < c1.length := hj1
              replace hu : (c1.map (Value.int .u8))[k]? = some u := hu
              rw [List.getElem?_map, List.getElem?_eq_getElem hj'] at hu
              cases hu
              rw [← hsame]
              unfold cell
              rw [getD_at hj']
            have hu2' : u2 = .int .u8 (cell c0 k) := by
              have hj' : k < c0.length := hj0
              replace hu2 : (c0.map (Value.int .u8))[k]? = some u2 := hu2
              rw [List.getElem?_map, List.getElem?_eq_getElem hj'] at hu2
              cases hu2
              unfold cell
              rw [getD_at hj']
            subst hu' hu2'
            have hK := unhide H4
            have g1 := Ext.cellv hE hK.1
            have g0 := Ext.cellv hE hK.2.1
            obtain ⟨y0, yf, yl⟩ := (hK.2.2.1.ext hE).cells1
            obtain ⟨⟨z0, z1, z2, z3, z4, z5⟩, zf, zl⟩ := (hK.2.2.2.1.ext hE).cells6
            have j1 : (k : Int) < (c1.length : Int) := by have := unhide hl1; omega
            have j0 : (k : Int) < (c0.length : Int) := by have := unhide hl0; omega
            clear hE hK hu hu2 hj1 hj0 hsame
            generalize cell c0 k = x at *
            go_wp2
            go_quiet (fail)
            go_wp2
            go_roundw
            case rel => exact ⟨k + 1, by omega, by omega, by go_num, (unhide HE).drewN _⟩
            case measure => simp [intOf]; omega
          · obtain rfl : k = 3 * n := by omega
            clear hE
            go_wp2
            go_ret
            exact ⟨rfl, (unhide H4).2.2.2.2.trans (unhide HE)⟩

end Go.Proofs.Ytmlekdmnpljcoaa
