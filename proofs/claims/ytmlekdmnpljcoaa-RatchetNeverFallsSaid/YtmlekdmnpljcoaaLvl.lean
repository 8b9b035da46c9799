/-
  bootchainref07: Width, Level, Least, Most of a bank.
-/
import Derived.Test.YtmlekdmnpljcoaaFuse
namespace Go.Proofs.Ytmlekdmnpljcoaa
open Go.RowKit

/-- Bit b of a bank reads as one, if weak cells read as given by noise. -/
def bitOne (cells : List Int) (noise : Bool) (b : Nat) : Bool := decide (2 ≤ fuseBit (cells.getD (3 * b) 0) noise + fuseBit (cells.getD (3 * b + 1) 0) noise + fuseBit (cells.getD (3 * b + 2) 0) noise)
/-- How many bits from b on read as one (f bits at most). -/
def levelUp (cells : List Int) (noise : Bool) : Nat → Nat → Nat
  | 0, b => b
  | f + 1, b => if bitOne cells noise b then levelUp cells noise f (b + 1) else b
def levelOfCells (cells : List Int) (noise : Bool) : Nat := levelUp cells noise (cells.length / 3) 0

theorem width_any (fv : Value) (banks : List (List Int)) (bank : Nat) (w : World) (h : FusesIn w fv banks) (hb : bank < banks.length) :
    Calls Try.prog 42 #[.agg #[fv], .int .i64 (bank : Int)] w fun e w' => e = .returned (.int .i64 ((banks[bank].length / 3 : Nat) : Int)) ∧ Ext w w' := by
  obtain ⟨b, o, c, bv, rfl, hbw, hcell, hr⟩ := h.at_ hb
  have hm1 : banks.length ≤ maxLen := by
    obtain ⟨bvs, h1, _⟩ := h.ex
    exact h1.len_le
  have hm2 := hr.len_le
  unfold maxLen at hm1 hm2
  obtain ⟨_, B, c2, rfl, _, _, _⟩ := hr
  have h1 : decide ((banks.length : Int) ≤ (bank : Int)) = false := by simp; omega
  have h2 : decide ((banks.length) ≤ (bank)) = false := by simp; omega
  have h3 : (bank : Int) < (banks.length : Int) := by omega
  clear h
  go_enter Try.func42, Try.ntmps42
  go_wp2
  go_ret
  exact ⟨ret_int (by omega), by
    repeat' (first | (with_reducible exact Chg.refl _ _) | (with_reducible exact Ext.refl _) | (with_reducible assumption) | (with_reducible refine Chg.alloc ?_ _) | (with_reducible refine Chg.drew ?_) | (with_reducible refine Chg.drewN ?_ _) | (with_reducible refine Chg.setCell ?_ ?_ _) | (with_reducible refine Ext.alloc ?_ _) | (with_reducible refine Ext.drew ?_) | (with_reducible refine Ext.drewN ?_ _) | (with_reducible refine Ext.setCell ?_ ?_ _) | (simp; done) | (simp; omega) | omega)
    ⟩

theorem fuseBit_01 (x : Int) (n : Bool) : 0 ≤ fuseBit x n ∧ fuseBit x n ≤ 1 := by unfold fuseBit; split <;> omega
theorem levelUp_no {cells : List Int} {noise : Bool} {f b : Nat} (h : bitOne cells noise b = false) : levelUp cells noise (f + 1) b = b := by simp [levelUp, h]
theorem levelUp_yes {cells : List Int} {noise : Bool} {f b : Nat} (h : bitOne cells noise b = true) : levelUp cells noise (f + 1) b = levelUp cells noise f (b + 1) := by simp [levelUp, h]
theorem getD_at {l : List Int} {i : Nat} (h : i < l.length) : l.getD i 0 = l[i] := by rw [List.getD_eq_getElem?_getD, List.getElem?_eq_getElem h]; rfl

set_option maxHeartbeats 1000000 in
theorem reflevel_any (fv : Value) (banks : List (List Int)) (bank : Nat) (noise : Bool) (w : World) (h : FusesIn w fv banks) (hb : bank < banks.length) (hn : banks[bank].length ≤ 100000) :
    Calls Try.prog 31 #[.agg #[fv], .int .i64 (bank : Int), .bool noise] w fun e w' => e = .returned (.int .i64 (levelOfCells banks[bank] noise)) ∧ Ext w w' := by
  have HF := hide h
  obtain ⟨_, ⟨_, A, c, rfl, _⟩, _⟩ := h.ex
  clear h
  have HN := hide (rfl : banks[bank].length / 3 = banks[bank].length / 3)
  generalize hm : banks[bank].length / 3 = m at HN
  have hm2 : m ≤ 100000 := by omega
  have HM := hide hm
  go_enter Try.func31, Try.ntmps31
  go_wp2_with fail
  refine (width_any _ banks bank _ ((unhide HF).ext ((Ext.refl w).alloc _)) hb).mono ?_
  rintro e w1 ⟨rfl, hE⟩
  rw [hm]
  have HB := hide (And.intro ((Blk.new w 40 #[.slice A banks.length c]).ext hE) (((Ext.refl w).alloc _).trans hE))
  clear hE hm
  go_wp2
  go_loopw [8] (fun i wr => ∃ k : Nat, k ≤ m ∧ i = .int .i64 k ∧ Ext w1 wr ∧ levelUp banks[bank] noise (m - k) k = levelOfCells banks[bank] noise) (fun i _ => m - (intOf i).toNat)
  case atStart => exact ⟨0, Nat.zero_le _, rfl, Ext.refl _, by rw [Nat.sub_zero, ← unhide HM]; rfl⟩
  case round =>
    obtain ⟨k, hk, rfl, hE, hL⟩ := hrel
    have HE := hide (And.intro hE hL)
    clear hE hL
    by_cases hlt : k < m
    · have hlen := unhide HM
      have b0 : 3 * k < banks[bank].length := by omega
      have b1 : 3 * k + 1 < banks[bank].length := by omega
      have b2 : 3 * k + 2 < banks[bank].length := by omega
      have HX := hide (show bitOne banks[bank] noise k = decide (2 ≤ fuseBit banks[bank][3 * k] noise + fuseBit banks[bank][3 * k + 1] noise + fuseBit banks[bank][3 * k + 2] noise) from by unfold bitOne; rw [getD_at b0, getD_at b1, getD_at b2])
      have c0 := fuse_read (.slice A banks.length c) banks bank (3 * k) noise
      have c1 := fuse_read (.slice A banks.length c) banks bank (3 * k + 1) noise
      have c2 := fuse_read (.slice A banks.length c) banks bank (3 * k + 2) noise
      have g0 := fuseBit_01 banks[bank][3 * k] noise
      have g1 := fuseBit_01 banks[bank][3 * k + 1] noise
      have g2 := fuseBit_01 banks[bank][3 * k + 2] noise
      have C0 := hide fun w hF => c0 w hF hb b0
      have C1 := hide fun w hF => c1 w hF hb b1
      have C2 := hide fun w hF => c2 w hF hb b2
      generalize fuseBit banks[bank][3 * k] noise = x0 at *
      generalize fuseBit banks[bank][3 * k + 1] noise = x1 at *
      generalize fuseBit banks[bank][3 * k + 2] noise = x2 at *
      clear c0 c1 c2 b0 b1 b2 hlen
      obtain ⟨q0, qf, ql⟩ := ((unhide HB).1.ext (unhide HE).1).cells1
      have i0 : IntKind.i64.wrap (3 * (k : Int)) = ((3 * k : Nat) : Int) := by rw [IntWalk.i64_in _ (by omega)]; omega
      go_wp2_with fail
      refine (unhide C0 _ ((unhide HF).ext ((unhide HB).2.trans (unhide HE).1))).mono ?_
      rintro e wa ⟨rfl, hEa⟩
      have HEa := hide ((unhide HE).1.trans hEa)
      clear hEa q0 qf ql
      obtain ⟨q0, qf, ql⟩ := ((unhide HB).1.ext (unhide HEa)).cells1
      have i1 : IntKind.i64.wrap (((3 * k : Nat) : Int) + 1) = ((3 * k + 1 : Nat) : Int) := by rw [IntWalk.i64_in _ (by omega)]; omega
      have i2 : IntKind.i64.wrap (((3 * k : Nat) : Int) + 2) = ((3 * k + 2 : Nat) : Int) := by rw [IntWalk.i64_in _ (by omega)]; omega
      go_wp2_with fail
      refine (unhide C1 _ ((unhide HF).ext ((unhide HB).2.trans (unhide HEa)))).mono ?_
      rintro e wb ⟨rfl, hEb⟩
      have HEb := hide ((unhide HEa).trans hEb)
      clear hEb q0 qf ql HEa
      obtain ⟨q0, qf, ql⟩ := ((unhide HB).1.ext (unhide HEb)).cells1
      go_wp2_with fail
      refine (unhide C2 _ ((unhide HF).ext ((unhide HB).2.trans (unhide HEb)))).mono ?_
      rintro e wc ⟨rfl, hEc⟩
      have HEc := hide ((unhide HEb).trans hEc)
      clear hEc q0 qf ql HEb i0 i1 i2
      by_cases hx : x0 + x1 + x2 < 2
      · go_wp2
        go_ret
        have hb : bitOne banks[bank] noise k = false := by rw [unhide HX]; simpa using hx
        have hl := (unhide HE).2
        obtain ⟨r, hr⟩ : ∃ r, m - k = r + 1 := ⟨m - k - 1, by omega⟩
        rw [hr, levelUp_no hb] at hl
        exact ⟨ret_int (by rw [hl]), (unhide HB).2.trans (unhide HEc)⟩
      · have hx' : decide (x0 + x1 + x2 < 2) = false := by simpa using hx
        have hb : Hid (bitOne banks[bank] noise k = true) := hide (by rw [unhide HX]; simp; omega)
        go_wp2
        go_roundw
        case rel =>
          have hl := (unhide HE).2
          obtain ⟨r, hr⟩ : ∃ r, m - k = r + 1 := ⟨m - k - 1, by omega⟩
          rw [hr, levelUp_yes (unhide hb)] at hl
          exact ⟨k + 1, by omega, by go_num, unhide HEc, by rw [show m - (k + 1) = r from by omega]; exact hl⟩
        case measure => simp [intOf]; omega
    · obtain rfl : k = m := by omega
      go_wp2
      go_ret
      have hl := (unhide HE).2
      rw [Nat.sub_self] at hl
      exact ⟨ret_int (by rw [← hl]; rfl), (unhide HB).2.trans (unhide HE).1⟩

theorem least_any (fv : Value) (banks : List (List Int)) (bank : Nat) (w : World) (h : FusesIn w fv banks) (hb : bank < banks.length) (hn : banks[bank].length ≤ 100000) :
    Calls Try.prog 17 #[.agg #[fv], .int .i64 (bank : Int)] w fun e w' => e = .returned (.int .i64 (levelOfCells banks[bank] false)) ∧ Ext w w' := by
  have HF := hide h
  obtain ⟨_, ⟨_, A, c, rfl, _⟩, _⟩ := h.ex
  clear h
  go_enter Try.func17, Try.ntmps17
  go_wp2_with fail
  refine (reflevel_any _ banks bank false _ ((unhide HF).ext ((Ext.refl w).alloc _)) hb hn).mono ?_
  rintro e w1 ⟨rfl, hE⟩
  have HE := hide hE
  clear hE
  go_wp2
  go_ret
  exact ⟨rfl, ((Ext.refl w).alloc _).trans (unhide HE)⟩
theorem most_any (fv : Value) (banks : List (List Int)) (bank : Nat) (w : World) (h : FusesIn w fv banks) (hb : bank < banks.length) (hn : banks[bank].length ≤ 100000) :
    Calls Try.prog 18 #[.agg #[fv], .int .i64 (bank : Int)] w fun e w' => e = .returned (.int .i64 (levelOfCells banks[bank] true)) ∧ Ext w w' := by
  have HF := hide h
  obtain ⟨_, ⟨_, A, c, rfl, _⟩, _⟩ := h.ex
  clear h
  go_enter Try.func18, Try.ntmps18
  go_wp2_with fail
  refine (reflevel_any _ banks bank true _ ((unhide HF).ext ((Ext.refl w).alloc _)) hb hn).mono ?_
  rintro e w1 ⟨rfl, hE⟩
  have HE := hide hE
  clear hE
  go_wp2
  go_ret
  exact ⟨rfl, ((Ext.refl w).alloc _).trans (unhide HE)⟩

end Go.Proofs.Ytmlekdmnpljcoaa
