import Derived.Test.YtplkplegjoabgaaGreatDoorHzA
import Derived.Test.YtplkplegjoabgaaGreatDoorHzB
import Derived.Test.YtplkplegjoabgaaGreatDoorHzC
import Derived.Test.YtplkplegjoabgaaGreatDoorHzD
import Derived.Test.YtplkplegjoabgaaGreatDoorHzE
import Derived.Test.YtplkplegjoabgaaGreatDoorHzF
import Derived.Test.YtplkplegjoabgaaGreatDoorHzG
import Derived.Test.YtplkplegjoabgaaGreatDoorHzH
import Derived.Test.YtplkplegjoabgaaGreatDoorHzI
import Derived.Test.YtplkplegjoabgaaGreatDoorHzJ
import Derived.Test.YtplkplegjoabgaaGreatDoorHzK
import Derived.Test.YtplkplegjoabgaaGreatDoorHzL
import Derived.Test.YtplkplegjoabgaaGreatDoorHzM
import Derived.Test.YtplkplegjoabgaaGreatDoorHzN
import Derived.Test.YtplkplegjoabgaaGreatDoorHzO
namespace Go.Proofs.YtplkplegjoabgaaGreatDoor
open Go.RowKit
theorem getD_at {l : List Int} {i : Nat} (h : i < l.length) : l.getD i 0 = l[i] := by rw [List.getD_eq_getElem?_getD, List.getElem?_eq_getElem h]; rfl
end Go.Proofs.YtplkplegjoabgaaGreatDoor

namespace Go.Proofs.YtplkplegjoabgaaGreatDoor
open Go.RowKit
theorem width_any (fv : Value) (banks : List (List Int)) (bank : Nat) (w : World) (h : FusesIn w fv banks) (hb : bank < banks.length) :
    Calls Tryz.prog 85 #[.agg #[fv], .int .i64 (bank : Int)] w fun e w' => e = .returned (.int .i64 ((banks[bank].length / 3 : Nat) : Int)) ∧ Ext w w' := by
  obtain ⟨b, o, c, bv, rfl, hbw, hcell, hr⟩ := h.at_ hb
  have hm1 : banks.length ≤ maxLen := by
    obtain ⟨bvs, h1, _⟩ := h.ex
    exact h1.len_le
  have hm2 := hr.len_le
  unfold maxLen at hm1 hm2
  obtain ⟨_, B, c2, rfl, _, _, _⟩ := hr
  have h1 : decide ((banks.length : Int) ≤ (bank : Int)) = false := by simp; omega
  have h2 : decide ((banks.length) ≤ (bank)) = false := by simp; omega
  have h3 : (bank : Int) < (banks.length : Int) := by omega
  clear h
  go_enter Tryz.func85, Tryz.ntmps85
  go_wp2
  go_ret
  exact ⟨ret_int (by omega), by
    repeat' (first | (with_reducible exact Chg.refl _ _) | (with_reducible exact Ext.refl _) | (with_reducible assumption) | (with_reducible refine Chg.alloc ?_ _) | (with_reducible refine Chg.drew ?_) | (with_reducible refine Chg.drewN ?_ _) | (with_reducible refine Chg.setCell ?_ ?_ _) | (with_reducible refine Ext.alloc ?_ _) | (with_reducible refine Ext.drew ?_) | (with_reducible refine Ext.drewN ?_ _) | (with_reducible refine Ext.setCell ?_ ?_ _) | (simp; done) | (simp; omega) | omega)
    ⟩
set_option maxHeartbeats 1000000 in
theorem reflevel_any (fv : Value) (banks : List (List Int)) (bank : Nat) (noise : Bool) (w : World) (h : FusesIn w fv banks) (hb : bank < banks.length) (hn : banks[bank].length ≤ 100000) :
    Calls Tryz.prog 43 #[.agg #[fv], .int .i64 (bank : Int), .bool noise] w fun e w' => e = .returned (.int .i64 (levelOfCells banks[bank] noise)) ∧ Ext w w' := by
  have HF := hide h
  obtain ⟨_, ⟨_, A, c, rfl, _⟩, _⟩ := h.ex
  clear h
  have HN := hide (rfl : banks[bank].length / 3 = banks[bank].length / 3)
  generalize hm : banks[bank].length / 3 = m at HN
  have hm2 : m ≤ 100000 := by omega
  have HM := hide hm
  go_enter Tryz.func43, Tryz.ntmps43
  go_wp2_with fail
  refine (width_any _ banks bank _ ((unhide HF).ext ((Ext.refl w).alloc _)) hb).mono ?_
  rintro e w1 ⟨rfl, hE⟩
  rw [hm]
  have HB := hide (And.intro ((Blk.new w 48 #[.slice A banks.length c]).ext hE) (((Ext.refl w).alloc _).trans hE))
  clear hE hm
  go_wp2
  go_loopw [8] (fun i wr => ∃ k : Nat, k ≤ m ∧ i = .int .i64 k ∧ Ext w1 wr ∧ levelUp banks[bank] noise (m - k) k = levelOfCells banks[bank] noise) (fun i _ => m - (intOf i).toNat)
  case atStart => exact ⟨0, Nat.zero_le _, rfl, Ext.refl _, by rw [Nat.sub_zero, ← unhide HM]; rfl⟩
  case round =>
    obtain ⟨k, hk, rfl, hE, hL⟩ := hrel
    have HE := hide (And.intro hE hL)
    clear hE hL
    by_cases hlt : k < m
    · have hlen := unhide HM
      have b0 : 3 * k < banks[bank].length := by omega
      have b1 : 3 * k + 1 < banks[bank].length := by omega
      have b2 : 3 * k + 2 < banks[bank].length := by omega
      have HX := hide (show bitOne banks[bank] noise k = decide (2 ≤ fuseBit banks[bank][3 * k] noise + fuseBit banks[bank][3 * k + 1] noise + fuseBit banks[bank][3 * k + 2] noise) from by unfold bitOne; rw [getD_at b0, getD_at b1, getD_at b2])
      have c0 := fuse_read (.slice A banks.length c) banks bank (3 * k) noise
      have c1 := fuse_read (.slice A banks.length c) banks bank (3 * k + 1) noise
      have c2 := fuse_read (.slice A banks.length c) banks bank (3 * k + 2) noise
      have g0 := fuseBit_01 banks[bank][3 * k] noise
      have g1 := fuseBit_01 banks[bank][3 * k + 1] noise
      have g2 := fuseBit_01 banks[bank][3 * k + 2] noise
      have C0 := hide fun w hF => c0 w hF hb b0
      have C1 := hide fun w hF => c1 w hF hb b1
      have C2 := hide fun w hF => c2 w hF hb b2
      generalize fuseBit banks[bank][3 * k] noise = x0 at *
      generalize fuseBit banks[bank][3 * k + 1] noise = x1 at *
      generalize fuseBit banks[bank][3 * k + 2] noise = x2 at *
      clear c0 c1 c2 b0 b1 b2 hlen
      obtain ⟨q0, qf, ql⟩ := ((unhide HB).1.ext (unhide HE).1).cells1
      have i0 : IntKind.i64.wrap (3 * (k : Int)) = ((3 * k : Nat) : Int) := by rw [IntWalk.i64_in _ (by omega)]; omega
      go_wp2_with fail
      refine (unhide C0 _ ((unhide HF).ext ((unhide HB).2.trans (unhide HE).1))).mono ?_
      rintro e wa ⟨rfl, hEa⟩
      have HEa := hide ((unhide HE).1.trans hEa)
      clear hEa q0 qf ql
      obtain ⟨q0, qf, ql⟩ := ((unhide HB).1.ext (unhide HEa)).cells1
      have i1 : IntKind.i64.wrap (((3 * k : Nat) : Int) + 1) = ((3 * k + 1 : Nat) : Int) := by rw [IntWalk.i64_in _ (by omega)]; omega
      have i2 : IntKind.i64.wrap (((3 * k : Nat) : Int) + 2) = ((3 * k + 2 : Nat) : Int) := by rw [IntWalk.i64_in _ (by omega)]; omega
      go_wp2_with fail
      refine (unhide C1 _ ((unhide HF).ext ((unhide HB).2.trans (unhide HEa)))).mono ?_
      rintro e wb ⟨rfl, hEb⟩
      have HEb := hide ((unhide HEa).trans hEb)
      clear hEb q0 qf ql HEa
      obtain ⟨q0, qf, ql⟩ := ((unhide HB).1.ext (unhide HEb)).cells1
      go_wp2_with fail
      refine (unhide C2 _ ((unhide HF).ext ((unhide HB).2.trans (unhide HEb)))).mono ?_
      rintro e wc ⟨rfl, hEc⟩
      have HEc := hide ((unhide HEb).trans hEc)
      clear hEc q0 qf ql HEb i0 i1 i2
      by_cases hx : x0 + x1 + x2 < 2
      · go_wp2
        go_ret
        have hb : bitOne banks[bank] noise k = false := by rw [unhide HX]; simpa using hx
        have hl := (unhide HE).2
        obtain ⟨r, hr⟩ : ∃ r, m - k = r + 1 := ⟨m - k - 1, by omega⟩
        rw [hr, levelUp_no hb] at hl
        exact ⟨ret_int (by rw [hl]), (unhide HB).2.trans (unhide HEc)⟩
      · have hx' : decide (x0 + x1 + x2 < 2) = false := by simpa using hx
        have hb : Hid (bitOne banks[bank] noise k = true) := hide (by rw [unhide HX]; simp; omega)
        go_wp2
        go_roundw
        case rel =>
          have hl := (unhide HE).2
          obtain ⟨r, hr⟩ : ∃ r, m - k = r + 1 := ⟨m - k - 1, by omega⟩
          rw [hr, levelUp_yes (unhide hb)] at hl
          exact ⟨k + 1, by omega, by go_num, unhide HEc, by rw [show m - (k + 1) = r from by omega]; exact hl⟩
        case measure => simp [intOf]; omega
    · obtain rfl : k = m := by omega
      go_wp2
      go_ret
      have hl := (unhide HE).2
      rw [Nat.sub_self] at hl
      exact ⟨ret_int (by rw [← hl]; rfl), (unhide HB).2.trans (unhide HE).1⟩
theorem least_any (fv : Value) (banks : List (List Int)) (bank : Nat) (w : World) (h : FusesIn w fv banks) (hb : bank < banks.length) (hn : banks[bank].length ≤ 100000) :
    Calls Tryz.prog 18 #[.agg #[fv], .int .i64 (bank : Int)] w fun e w' => e = .returned (.int .i64 (levelOfCells banks[bank] false)) ∧ Ext w w' := by
  have HF := hide h
  obtain ⟨_, ⟨_, A, c, rfl, _⟩, _⟩ := h.ex
  clear h
  go_enter Tryz.func18, Tryz.ntmps18
  go_wp2_with fail
  refine (reflevel_any _ banks bank false _ ((unhide HF).ext ((Ext.refl w).alloc _)) hb hn).mono ?_
  rintro e w1 ⟨rfl, hE⟩
  have HE := hide hE
  clear hE
  go_wp2
  go_ret
  exact ⟨rfl, ((Ext.refl w).alloc _).trans (unhide HE)⟩
end Go.Proofs.YtplkplegjoabgaaGreatDoor

namespace Go.Proofs.YtplkplegjoabgaaGreatDoor.Pv
open Go.RowKit
structure RepP (seed m : List UInt8) (h : Nat) (c : List Int) (r : RunO) : Prop where
  snd : Snd r.cells
  mono : levelUp c false 16 0 ≤ levelUp r.cells false 16 0
  new : r.done = true → r.out.2 ≠ 17 → ∃ p : Nat, r.out = sgnT seed h p m ∧ p < 2 ^ h ∧ levelUp c false 16 0 ≤ p ∧ p + 1 ≤ levelUp r.cells false 16 0
theorem run_round (seed m : List UInt8) (h : Nat) (hh : h ≤ 4) (F : List UInt8) (c : List Int) (hs : Snd c) : RepP seed m h c (runS seed m h F c) := by
  have ht := tri_sign (intB F) c hs h hh c 0 rfl
  unfold runS
  rw [signI_nat h hh]
  generalize exec (intB F) (Prg.sign h) c 0 = q at ht
  obtain ⟨q1, q2, q3⟩ := q
  cases q1 with
  | none => exact ⟨hs.evo ht, levelUp_evo ht 16 0, fun hb => by cases hb⟩
  | some p =>
    have ht2 : SgnP h c p q2 := ht
    refine ⟨hs.evo ht2.evo, levelUp_evo ht2.evo 16 0, fun _ h17 => ?_⟩
    rcases sgO_end (seed := seed) (m := m) hh ht2 with ⟨_, g⟩ | ⟨g0, g1, g2, _, _⟩
    · exact absurd (congrArg (·.2) g) h17
    · refine ⟨p.1, g2, g1, ht2.ge, ?_⟩
      rcases ht2.end_ with ⟨_, e⟩ | ⟨_, _, e⟩
      · omega
      · exact e
def leastG : List PV → Option (Prop × PV)
  | [.w (.agg [.sl 1 n f]), .w (.one (.lit (.int .i64 2)))] => some (IsBkRow n f ∧ 2 < n ∧ ((rowBk n f).getD 2 []).length ≤ 100000, pvI (levelOfCells ((rowBk n f).getD 2 []) false))
  | _ => none
theorem least_spec : SpecOk Tryz.prog ShaMem 18 (funSpec true leastG) := by
  refine funSpec_ok (call_enters Tryz.func18 (by kernel_rfl) rfl) (fun xs p r hg hp w ok0 vs hI hv => ?_)
  unfold leastG at hg
  split at hg
  · rename_i n f
    cases hg
    obtain ⟨h1, h2, h3⟩ := hp
    match vs, hv with
    | [v1, v2], ⟨k1, k2, _⟩ =>
      obtain rfl := k2.lit_inv
      cases k1 with
      | w k1 => cases k1 with
        | @agg _ cs k1 =>
          obtain ⟨cs⟩ := cs
          dsimp only at k1
          cases k1 with
          | cons a1 k1 =>
            cases k1
            cases a1 with
            | sl b1 b2 b3 =>
              have hF := fuses_in (.sl b1 b2 b3) h1
              have hb : 2 < (rowBk n f).length := by rw [rowBk_length]; exact h2
              have e : (rowBk n f).getD 2 [] = (rowBk n f)[2] := by rw [List.getD_eq_getElem?_getD, List.getElem?_eq_getElem hb]; rfl
              rw [e] at h3 ⊢
              refine (least_any _ (rowBk n f) 2 w hF hb h3).mono ?_
              rintro e w' ⟨rfl, hE⟩
              exact ⟨_, rfl, hE, .w (.one (.lit rfl))⟩
  · cases hg
def bysPC (l : List UInt8) : List PC := [.sl 1 l.length (byF l)]
def bysF (R : List (List UInt8)) : Nat → List PC := fun i => bysPC (R.getD i [])
def fewR (R : List (List UInt8)) : Bool := decide (R.length ≤ 6) && R.all fun l => decide (l.length ≤ 200)
def fewSt (R : List (List UInt8)) (k : Nat) : St := ⟨[(0, none, pv1 (.sl 1 R.length (bysF R))), (3, none, pvI k)], []⟩
set_option maxRecDepth 100000 in
theorem few_fun26 (R : List (List UInt8)) : FunOk Tryz.prog ShaMem 13 true [pv1 (.sl 1 R.length (bysF R))] (pvB (fewR R)) := by
  have M := noM (I := ShaMem)
  refine funOk_of Tryz.func13 rfl rfl sha_ext (fun A hS hn hI => ?_)
  refine tri_reg M hI hn (outs := ?_) (s' := ?_) ?_ ?_ ?_ ?_
  rotate_left 2
  · rfl
  · kernel_rfl
  · simp
  refine tri_seq ?_
  refine tri_reg M hI hn (outs := ?_) (s' := ?_) ?_ ?_ ?_ ?_
  rotate_left 2
  · rfl
  · kernel_rfl
  · simp
  refine tri_cond (b := ?_) ?_ (fun hc => ?_) (fun hc => ?_)
  rotate_left 1
  · rfl
  · have hc2 : (R.length : Int) > 6 := of_decide_eq_true hc
    refine tri_reg M hI hn (outs := ?_) (s' := ?_) ?_ ?_ ?_ ?_
    rotate_left 2
    · rfl
    · kernel_rfl
    · simp
    refine tri_ret (fun a w hg => ⟨.inr rfl, _, ?_, hg⟩)
    refine retTo_cold (out := ?_) ?_ ?_ ?_ ?_ ?_
    rotate_left 1
    · rfl
    · simp
    · rfl
    · rfl
    refine congrArg pvB ?_
    unfold fewR
    rw [decide_eq_false (by omega)]
    rfl
  have hc2 : ¬ (R.length : Int) > 6 := of_decide_eq_false hc
  refine tri_skip ?_
  change Tri _ _ _ _ _
  refine tri_seq ?_
  refine tri_reg M hI hn (outs := ?_) (s' := ?_) ?_ ?_ ?_ ?_
  rotate_left 2
  · rfl
  · kernel_rfl
  · simp
  refine tri_block ?_
  refine tri_conv (s' := fewSt R 0) (fun a w hg => (hg.reset (kT := [0, 3]) (kO := []) (by rfl) (by simp)).same ?_ ?_) ?_
  · exact rest9 rfl
  · exact .nil
  refine tri_loop R.length (fun k t => t = fewSt R k ∧ ∀ i, i < k → (R.getD i []).length ≤ 200) 0 ⟨rfl, fun i hi => absurd hi (Nat.not_lt_zero i)⟩ (by omega) (fun k t hJ hk => ?_)
  obtain ⟨rfl, hJ⟩ := hJ
  refine tri_seq ?_
  refine tri_reg M hI hn (outs := ?_) (s' := ?_) ?_ ?_ ?_ ?_
  rotate_left 2
  · rfl
  · kernel_rfl
  · simp
  refine tri_cond (b := ?_) ?_ (fun hc => ?_) (fun hc => ?_)
  rotate_left 1
  · rfl
  · have hk2 : k < R.length := by simpa using hc
    have hget : R.getD k [] = R[k] := by rw [List.getD_eq_getElem?_getD, List.getElem?_eq_getElem hk2]; rfl
    refine tri_skip ?_
    change Tri _ _ _ _ _
    refine tri_seq ?_
    refine tri_block ?_
    refine tri_reg M hI hn (outs := ?_) (s' := ?_) ?_ ?_ ?_ ?_
    rotate_left 2
    · rfl
    · kernel_rfl
    · simp
      exact hk2
    refine tri_cond (b := ?_) ?_ (fun hc => ?_) (fun hc => ?_)
    rotate_left 1
    · rfl
    · have hc3 : decide (((R.getD (k : Int).toNat []).length : Int) > 200) = true := hc
      have hc4 := of_decide_eq_true hc3
      rw [Int.toNat_natCast] at hc4
      refine tri_reg M hI hn (outs := ?_) (s' := ?_) ?_ ?_ ?_ ?_
      rotate_left 2
      · rfl
      · kernel_rfl
      · simp
      refine tri_ret (fun a w hg => ⟨.inr rfl, _, ?_, hg⟩)
      refine retTo_cold (out := ?_) ?_ ?_ ?_ ?_ ?_
      rotate_left 1
      · rfl
      · simp
      · rfl
      · rfl
      refine congrArg pvB ?_
      unfold fewR
      have : (R.all fun l => decide (l.length ≤ 200)) = false := by
        rw [List.all_eq_false]
        refine ⟨R[k], List.getElem_mem hk2, ?_⟩
        rw [← hget]
        simp
        rw [List.getD_eq_getElem?_getD] at hc4
        omega
      rw [this, Bool.and_false]
    · have hc3 : decide (((R.getD (k : Int).toNat []).length : Int) > 200) = false := hc
      have hc4 := of_decide_eq_false hc3
      rw [Int.toNat_natCast] at hc4
      refine tri_skip ?_
      change Tri _ _ _ _ _
      refine tri_region M hI hn (outs := ?_) (s' := ?_) ?_ ?_ ?_ ?_
      rotate_left 2
      · rfl
      · kernel_rfl
      · simp
      intro a w hg
      refine ⟨k + 1, _, by omega, by omega, ⟨rfl, fun i hi => ?_⟩, (hg.reset (kT := [0, 3]) (kO := []) (by rfl) (by simp)).same ?_ ?_⟩
      · rcases Nat.lt_or_ge i k with h | h
        · exact hJ i h
        · obtain rfl : i = k := by omega
          omega
      · exact .cons rfl (.cons (by rw [wrap_nat k (by omega)]) .nil)
      · exact .nil
  · have hkk : k = R.length := by
      have : ¬ k < R.length := by simpa using hc
      omega
    subst hkk
    refine tri_exit ?_
    change Tri _ _ _ _ _
    refine tri_reg M hI hn (outs := ?_) (s' := ?_) ?_ ?_ ?_ ?_
    rotate_left 2
    · rfl
    · kernel_rfl
    · simp
    refine tri_ret (fun a w hg => ⟨.inr rfl, _, ?_, hg⟩)
    refine retTo_cold (out := ?_) ?_ ?_ ?_ ?_ ?_
    rotate_left 1
    · rfl
    · simp
    · rfl
    · rfl
    refine congrArg pvB ?_
    unfold fewR
    have : (R.all fun l => decide (l.length ≤ 200)) = true := by
      rw [List.all_eq_true]
      intro l hl
      obtain ⟨i, hi, rfl⟩ := List.getElem_of_mem hl
      have := hJ i hi
      rw [List.getD_eq_getElem?_getD, List.getElem?_eq_getElem hi] at this
      exact decide_eq_true this
    rw [this, decide_eq_true (by omega)]
    rfl
end Go.Proofs.YtplkplegjoabgaaGreatDoor.Pv

namespace Go.Proofs.YtplkplegjoabgaaGreatDoor.Pv
open Go.ChangeShapes Go.WideShapes Go.ChangeAt Go.RowKit Go.Joins Go.Deep
section
variable {H : Type} {enc : TypeId × Value → H} {w : World} {base : Nat} {spare : Nat → Bool} {held : Bool}
theorem trod_bys {fuel : Nat} {cs : List Value} {x : DataW H × List MemPlace} (h : DataW.trod enc Tryz.prog w base spare held fuel 41 cs = some x) : ∃ (v : Value) (l : List (List UInt8)), cs = [v] ∧ R (argX w) (.sl 1 l.length (bysF l)) [v] := by
  obtain ⟨v, n, E, m, Y, rfl, hr, hE⟩ := trod_reads (k := 1) Tryz.underlying41 (by kernel_rfl) (by omega) h
  have hc : ∀ i, ∃ s : List UInt8, i < n → RL (argX w) (bysPC s) (E i) := fun i => by
    by_cases hi : i < n
    · obtain ⟨u, s, hs, hu⟩ := trod_u8s (hE i hi).2
      exact ⟨s, fun _ => by rw [hs]; exact .cons (xs := [_]) hu .nil⟩
    · exact ⟨[], fun h => absurd h hi⟩
  obtain ⟨S, hS⟩ := Classical.axiomOfChoice hc
  refine ⟨v, (List.range n).map S, rfl, ?_⟩
  rw [List.length_map, List.length_range]
  refine .sl hr (fun b hb hlt => ⟨trivial, hr.own_lt (by omega) hlt b hb⟩) (fun i hi => ?_)
  rw [flat_win E 1 (List.range n) (fun a ha => (hE a (List.mem_range.1 ha)).1) i (by simpa using hi)]
  have := hS i hi
  unfold bysF
  rw [List.getD_eq_getElem?_getD, List.getElem?_map, List.getElem?_range hi, List.getElem_range]
  exact this
end
section
variable {H : Type} {enc : TypeId × Value → H} {v : Value} {d : DataW H} {p : List MemPlace} {W : World} {base : Nat}
set_option maxRecDepth 100000 in
theorem open_f4 (hv : Value.okWide Tryz.prog W .any base 43 v) (h : DataW.Trod enc Tryz.prog W 0 (fun _ => true) true 43 v d p) :
    ∃ (cells seed : List UInt8) (ht : Nat) (Rs : List (List UInt8)), ht ≤ 255 ∧ RV (argX W) (.w (.agg [.sl 1 cells.length (byF cells), .bs 16 seed, .lit (.int .u8 (ht : Int)), .sl 1 Rs.length (bysF Rs)])) v := by
  obtain ⟨cs, rfl, hfl, hf⟩ := open_parts (ns := [1, 16, 1, 1]) Tryz.underlying43 (by kernel_rfl) (by kernel_rfl) hv h
  obtain ⟨m0, y0, t0⟩ := hf 0 _ rfl
  obtain ⟨m1, y1, t1⟩ := hf 1 _ rfl
  obtain ⟨m2, y2, t2⟩ := hf 2 _ rfl
  obtain ⟨m3, y3, t3⟩ := hf 3 _ rfl
  have hcs : cs = (splitBy [1, 16, 1, 1] cs).getD 0 [] ++ ((splitBy [1, 16, 1, 1] cs).getD 1 [] ++ ((splitBy [1, 16, 1, 1] cs).getD 2 [] ++ ((splitBy [1, 16, 1, 1] cs).getD 3 [] ++ []))) := hfl.symm
  obtain ⟨v0, l0, e0, r0⟩ := trod_u8s t0
  obtain ⟨l1, hl1, e1⟩ := trod_bytesArr Tryz.underlying23 Tryz.underlying5 (by kernel_rfl) (by kernel_rfl) t1
  obtain ⟨n2, b2, e2⟩ := trod_u8 t2
  obtain ⟨v3, l3, e3, r3⟩ := trod_bys t3
  rw [e0, e1, e2, e3] at hcs
  refine ⟨l0, l1, n2, l3, b2, ?_⟩
  rw [hcs]
  exact .w (.agg (.cons (xs := [_]) r0 (.cons (xs := l1.map u8v) (.bs hl1) (.cons (xs := [_]) (.lit rfl) (.cons (xs := [_]) r3 .nil)))))
end
end Go.Proofs.YtplkplegjoabgaaGreatDoor.Pv

namespace Go.Proofs.YtplkplegjoabgaaGreatDoor
open Go.RowKit
theorem dev_cell (l : List Int) (s : Bool) (j : Nat) : cell (devCells l s) j = if j < 3 * bitsOf l then cellOf l s j else 0 := by
  unfold cell devCells
  by_cases h : j < 3 * bitsOf l
  · rw [if_pos h, List.getD_eq_getElem?_getD, List.getElem?_append_left (by rw [cellsOf_length]; exact h)]
    unfold cellsOf
    rw [List.getElem?_map, List.getElem?_range h]
    rfl
  · rw [if_neg h, List.getD_eq_getElem?_getD, List.getElem?_append_right (by rw [cellsOf_length]; omega), List.getElem?_replicate]
    split <;> rfl
theorem dev_snd (l : List Int) : Snd (devCells l true) := by
  refine ⟨fun j => ?_, devCells_length l true, fun b hb => ?_⟩
  · rw [dev_cell]
    split
    · unfold cellOf
      split
      · omega
      · omega
    · omega
  · unfold stuckC
    simp only [dev_cell]
    by_cases h : b < bitsOf l
    · have i0 : 3 * b < 3 * bitsOf l := by omega
      have i1 : 3 * b + 1 < 3 * bitsOf l := by omega
      have i2 : 3 * b + 2 < 3 * bitsOf l := by omega
      rw [if_pos i0, if_pos i1, if_pos i2]
      unfold cellOf
      rw [show 3 * b / 3 = b from by omega, show (3 * b + 1) / 3 = b from by omega, show (3 * b + 2) / 3 = b from by omega]
      by_cases hs : 1 < stuckN l b 3
      · simp [hs]
      · simp only [hs, and_false, if_false]
        simp only [stuckN, Nat.add_zero, Nat.zero_add] at hs
        exact Nat.not_lt.1 hs
    · have i0 : ¬ 3 * b < 3 * bitsOf l := by omega
      have i1 : ¬ 3 * b + 1 < 3 * bitsOf l := by omega
      have i2 : ¬ 3 * b + 2 < 3 * bitsOf l := by omega
      rw [if_neg i0, if_neg i1, if_neg i2]
      decide
end Go.Proofs.YtplkplegjoabgaaGreatDoor
namespace Go.Proofs.YtplkplegjoabgaaGreatDoor.Pv
open Go.RowKit
end Go.Proofs.YtplkplegjoabgaaGreatDoor.Pv

namespace Go.Proofs.YtplkplegjoabgaaGreatDoor.Pv
open Go.RowKit
def bysOf : List PC → List UInt8
  | [.sl 1 k g] => rowB k g
  | _ => []
def IsBys : List PC → Prop
  | [.sl 1 k g] => IsRow k g
  | _ => False
def rowBys (n : Nat) (f : Nat → List PC) : List (List UInt8) := (List.range n).map fun i => bysOf (f i)
def IsBysRow (n : Nat) (f : Nat → List PC) : Prop := ∀ i, i < n → IsBys (f i)
theorem rowBys_length (n : Nat) (f : Nat → List PC) : (rowBys n f).length = n := by simp [rowBys]
theorem isBysRow_bysF (n : Nat) (R : List (List UInt8)) : IsBysRow n (bysF R) := fun _ _ => isRow_byF _ _
theorem rowBys_bysF (R : List (List UInt8)) : rowBys R.length (bysF R) = R := by
  apply List.ext_getElem (by simp [rowBys])
  intro i h1 h2
  simp only [rowBys, List.getElem_map, List.getElem_range, bysF, bysPC, bysOf]
  rw [rowB_byF, List.getD_eq_getElem?_getD, List.getElem?_eq_getElem h2]
  rfl
theorem bysF_row {n : Nat} {f : Nat → List PC} {C : Ctx} {xs : List Value} (hf : IsBysRow n f) (h : R C (.sl 1 n f) xs) : R C (.sl 1 (rowBys n f).length (bysF (rowBys n f))) xs := by
  rw [rowBys_length]
  cases h with
  | sl hr hb he =>
    refine .sl hr hb (fun i hi => ?_)
    have h3 := he i hi
    have h4 := hf i hi
    have e2 : bysF (rowBys n f) i = bysPC (bysOf (f i)) := by
      unfold bysF rowBys
      rw [getD_map_range n i (fun i => bysOf (f i)) hi]
    rw [e2]
    generalize f i = c at h3 h4 ⊢
    unfold IsBys at h4
    split at h4
    · rename_i kk g
      generalize (List.take 1 _) = xs at h3 ⊢
      cases h3 with
      | cons k1 k2 =>
        cases k2
        refine .cons ?_ .nil
        show R _ (.sl 1 (rowB kk g).length (byF (rowB kk g))) _
        have hl : (rowB kk g).length = kk := by simp [rowB]
        rw [hl]
        have hx := k1
        cases hx
        exact k1.sl_ext (fun j hj => byF_row h4 j hj)
    · exact h4.elim
def fewG : List PV → Option (Prop × PV)
  | [.w (.one (.sl 1 n f))] => some (IsBysRow n f, pvB (fewR (rowBys n f)))
  | _ => none
theorem few_spec26 : SpecOk Tryz.prog ShaMem 13 (funSpec true fewG) := by
  refine funSpec_ok (call_enters Tryz.func13 (by kernel_rfl) rfl) (fun xs p r hg hp w ok0 vs hI hv => ?_)
  unfold fewG at hg
  split at hg
  · rename_i n f
    cases hg
    match vs, hv with
    | [v1], ⟨k1, _⟩ => exact few_fun26 (rowBys n f) w ok0 [v1] hI ⟨.w (.one (bysF_row hp k1.inv)), trivial⟩
  · cases hg
def f4L : List (Nat × Spec) := [(9, sp26San), (13, funSpec true fewG), (14, funSpec true rootG), (15, funSpec true devG), (16, funSpec false runG), (17, funSpec true verG), (18, funSpec true leastG)]
theorem f4_ok : ∀ p ∈ f4L, SpecOk Tryz.prog ShaMem p.1 p.2 := by
  intro p hp
  simp only [f4L, List.mem_cons, List.not_mem_nil, or_false] at hp
  rcases hp with rfl | rfl | rfl | rfl | rfl | rfl | rfl
  · exact san26_spec
  · exact few_spec26
  · exact rtroot_spec
  · exact dev_spec
  · exact run_spec
  · exact rtver_spec
  · exact least_spec
theorem f4M : Mach Tryz.prog ShaMem (find f4L) := ⟨specs_of f4_ok, mixed_⟩
def f4St (seed : List UInt8) (n : Nat) (rt : List UInt8) (Rs : List (List UInt8)) (c : List Int) (last : Int) (k : Nat) : St :=
  ⟨[(4, none, pv1 (.pt 2002 0 0)), (6, none, pv1 (.sl 1 Rs.length (bysF Rs))), (7, none, pvB true), (8, none, pvI n), (9, none, pv1 (.pt 9006 0 0)), (11, none, pv1 (.pt 10002 0 0)), (12, none, pvI last), (13, none, pvI k)],
   [(2002, none, 0, .box 23 [.bs 16 seed]), (9006, none, 0, .box 23 [.bs 16 rt]), (10002, none, 0, .box 53 (hwPC (bk4 c) z16s))]⟩
def mmK (k : Nat) : List UInt8 := (List.replicate 16 (0 : UInt8)).set 0 (UInt8.ofNat (IntKind.u8.wrap (k : Int)).toNat)
def f4M15 (seed : List UInt8) (n : Nat) (rt : List UInt8) (Rs : List (List UInt8)) (c : List Int) (last : Int) (k : Nat) : St :=
  ⟨(14, none, pv1 (.pt 15003 0 0)) :: (f4St seed n rt Rs c last k).t, (15003, none, 0, .box 23 [.bs 16 (mmK k)]) :: (f4St seed n rt Rs c last k).o⟩
def f4R (seed : List UInt8) (n : Nat) (rt : List UInt8) (Rs : List (List UInt8)) (c : List Int) (last : Int) (k : Nat) (mm : List UInt8) (r : RunO) : St :=
  ⟨(14, none, pv1 (.pt 15003 0 0)) :: (15, none, pv1 (.pt 16015 0 0)) :: (16, none, pv1 (.pt 16016 0 0)) :: (17, none, pvB r.done) :: (19, none, pvB true) :: (f4St seed n rt Rs c last k).t,
   (15003, none, 0, .box 23 [.bs 16 mm]) :: (16015, none, 0, .box 53 (hwPC (bk4 r.cells) z16s)) :: (16016, none, 0, .box 35 (sgC r.out)) :: (f4St seed n rt Rs c last k).o⟩
set_option maxRecDepth 100000 in
set_option maxHeartbeats 2000000 in
theorem never_law (cells seed : List UInt8) (ht : Nat) (Rs : List (List UInt8)) (hh1 : ht ≤ 255) : FunOk Tryz.prog ShaMem 4 true [.w (.agg [.sl 1 cells.length (byF cells), .bs 16 seed, .lit (.int .u8 (ht : Int)), .sl 1 Rs.length (bysF Rs)])] (pvB true) := by
  have M := f4M
  have hrb : ∀ c, (rowBk (bk4 c).length (bankF (bk4 c))).getD 2 [] = c := fun c => by rw [rowBk_bankF]; rfl
  obtain ⟨n, hnn⟩ : ∃ n, ht % 3 = n := ⟨_, rfl⟩
  have hn2 : n ≤ 2 := by omega
  have hi : i64P (n : Int) := ⟨by omega, by omega⟩
  have htn : (IntKind.i64.wrap (ht : Int)).tmod 3 = (n : Int) := by
    have e : IntKind.i64.wrap (ht : Int) = (ht : Int) := by rw [IntKind.wrap_i64]; omega
    rw [e, ← hnn]
    rfl
  refine funOk_of Tryz.func4 rfl rfl sha_ext (fun A hS hn hI => ?_)
  refine tri_reg M hI hn (outs := ?_) (s' := ?_) ?_ ?_ ?_ ?_
  rotate_left 2
  · rfl
  · kernel_rfl
  · simp
  refine tri_reg M hI hn (outs := ?_) (s' := ?_) ?_ ?_ ?_ ?_
  rotate_left 2
  · rfl
  · kernel_rfl
  · simp
  refine tri_reg M hI hn (outs := ?_) (s' := ?_) ?_ ?_ ?_ ?_
  rotate_left 2
  · rfl
  · kernel_rfl
  · simp
  refine tri_reg M hI hn (outs := ?_) (s' := ?_) ?_ ?_ ?_ ?_
  rotate_left 2
  · rfl
  · kernel_rfl
  · simp
  refine tri_reg M hI hn (outs := ?_) (s' := ?_) ?_ ?_ ?_ ?_
  rotate_left 2
  · rfl
  · kernel_rfl
  · simp
  refine tri_reg M hI hn (outs := ?_) (s' := ?_) ?_ ?_ ?_ ?_
  rotate_left 2
  · rfl
  · kernel_rfl
  · simp
  refine tri_seq ?_
  refine tri_reg M hI hn (outs := ?_) (s' := ?_) ?_ ?_ ?_ ?_
  rotate_left 2
  · rfl
  · kernel_rfl
  · simp
    exact fun _ => isBysRow_bysF _ _
  refine tri_cond (b := ?_) ?_ (fun hc => ?_) (fun hc => ?_)
  rotate_left 1
  · rfl
  · refine tri_reg M hI hn (outs := ?_) (s' := ?_) ?_ ?_ ?_ ?_
    rotate_left 2
    · rfl
    · kernel_rfl
    · simp
    refine tri_ret (fun a w hg => ⟨.inr rfl, _, ?_, hg⟩)
    refine retTo_cold (out := ?_) ?_ ?_ ?_ ?_ ?_
    rotate_left 1
    · rfl
    · simp
    · rfl
    · rfl
    rfl
  have hR : Rs.length ≤ 6 := by
    have hc2 : (bif decide ((cells.length : Int) > 48) then true else !(fewR (rowBys Rs.length (bysF Rs)))) = false := hc
    rw [rowBys_bysF] at hc2
    by_cases h : Rs.length ≤ 6
    · exact h
    · exfalso
      unfold fewR at hc2
      rw [decide_eq_false h] at hc2
      cases hd : decide ((cells.length : Int) > 48) <;> rw [hd] at hc2 <;> cases hc2
  refine tri_skip ?_
  change Tri _ _ _ _ _
  refine tri_reg M hI hn (outs := ?_) (s' := ?_) ?_ ?_ ?_ ?_
  rotate_left 2
  · rfl
  · kernel_rfl
  · simp
  refine tri_reg M hI hn (outs := ?_) (s' := ?_) ?_ ?_ ?_ ?_
  rotate_left 2
  · rfl
  · kernel_rfl
  · simp
  refine tri_reg M hI hn (outs := ?_) (s' := ?_) ?_ ?_ ?_ ?_
  rotate_left 2
  · rfl
  · kernel_rfl
  · simp
  refine tri_reg M hI hn (outs := ?_) (s' := ?_) ?_ ?_ ?_ ?_
  rotate_left 2
  · rfl
  · kernel_rfl
  · simp
  refine tri_seq ?_
  refine tri_reg M hI hn (outs := ?_) (s' := ?_) ?_ ?_ ?_ ?_
  rotate_left 2
  · rfl
  · kernel_rfl
  · simp
  refine tri_block ?_
  refine tri_conv (s' := f4St seed n (rootT seed n).1 Rs (devCells (intB cells) true) (-1) 0) (fun a w hg => (hg.reset (kT := [4, 6, 7, 8, 9, 11, 12, 13]) (kO := [2002, 9006, 10002]) (by rfl) (by simp)).same ?_ ?_) ?_
  · refine .cons rfl (.cons rfl (.cons rfl (.cons ?_ (rest9 rfl))))
    show pvI ((IntKind.i64.wrap (ht : Int)).tmod 3) = _
    rw [htn]
  · refine .cons (.box rfl) (.cons (.box ?_) (.cons (.box ?_) .nil))
    · show [PC.bs 16 (rootT seed ((IntKind.i64.wrap (ht : Int)).tmod 3)).1] = _
      rw [htn]
    · show hwPC (bk4 (devCells (intB (rowB cells.length (byF cells))) true)) z16s = _
      rw [rowB_byF]
  obtain ⟨rt, hrt⟩ : ∃ r, (rootT seed n).1 = r := ⟨_, rfl⟩
  rw [hrt]
  refine tri_loop Rs.length (fun k t => ∃ c last, t = f4St seed n rt Rs c last k ∧ Snd c ∧ -1 ≤ last ∧ last < (levelUp c false 16 0 : Int)) 0 ⟨_, _, rfl, dev_snd _, by omega, by omega⟩ (by omega) (fun k t hJ hk => ?_)
  obtain ⟨c, last, rfl, hsnd, hl1, hl2⟩ := hJ
  refine tri_seq ?_
  refine tri_reg M hI hn (outs := ?_) (s' := ?_) ?_ ?_ ?_ ?_
  rotate_left 2
  · rfl
  · kernel_rfl
  · simp
  refine tri_cond (b := ?_) ?_ (fun hc => ?_) (fun hc => ?_)
  rotate_left 1
  · rfl
  · have hk2 : k < Rs.length := by simpa using hc
    refine tri_skip ?_
    change Tri _ _ _ _ _
    refine tri_seq ?_
    refine tri_block ?_
    refine tri_reg M hI hn (outs := ?_) (s' := ?_) ?_ ?_ ?_ ?_
    rotate_left 2
    · rfl
    · kernel_rfl
    · simp
      rw [IntKind.wrap_u8]
      omega
    refine tri_conv (s' := f4M15 seed n rt Rs c last k) (fun a w hg => (hg.reset (kT := [14, 4, 6, 7, 8, 9, 11, 12, 13]) (kO := [15003, 2002, 9006, 10002]) (by rfl) (by simp)).same ?_ ?_) ?_
    · exact rest9 rfl
    · exact .cons (.box rfl) (restW rfl)
    obtain ⟨mm, hmm⟩ : ∃ m, mmK k = m := ⟨_, rfl⟩
    unfold f4M15
    rw [hmm]
    refine tri_reg M hI hn (outs := ?_) (s' := ?_) ?_ ?_ ?_ ?_
    rotate_left 2
    · rfl
    · kernel_rfl
    · simp
      exact ⟨hk2, rfl, hsnd.len, hi⟩
    obtain ⟨F, hF⟩ : ∃ F, Rs.getD (k : Int).toNat [] = F := ⟨_, rfl⟩
    have hP := run_round seed mm n (by omega) F c hsnd
    have hsm := runS_small seed mm n F c
    obtain ⟨r, hr⟩ : ∃ r, runS seed mm n F c = r := ⟨_, rfl⟩
    rw [hr] at hP hsm
    refine tri_conv (s' := f4R seed n rt Rs c last k mm r) (fun a w hg => (hg.reset (kT := [14, 15, 16, 17, 19, 4, 6, 7, 8, 9, 11, 12, 13]) (kO := [15003, 16015, 16016, 2002, 9006, 10002]) (by rfl) (by simp)).same ?_ ?_) ?_
    · refine .cons rfl (.cons rfl (.cons rfl (.cons ?_ (.cons rfl (rest9 rfl)))))
      show pvB (runS seed mm n (rowB (Rs.getD (k : Int).toNat []).length (byF (Rs.getD (k : Int).toNat []))) ((rowBk (bk4 c).length (bankF (bk4 c))).getD 2 [])).done = _
      rw [hrb, rowB_byF, hF, hr]
    · refine .cons (.box rfl) (.cons (.box ?_) (.cons (.box ?_) (restW rfl)))
      · show hwPC (bk4 (runS seed mm n (rowB (Rs.getD (k : Int).toNat []).length (byF (Rs.getD (k : Int).toNat []))) ((rowBk (bk4 c).length (bankF (bk4 c))).getD 2 [])).cells) z16s = _
        rw [hrb, rowB_byF, hF, hr]
      · show sgC (runS seed mm n (rowB (Rs.getD (k : Int).toNat []).length (byF (Rs.getD (k : Int).toNat []))) ((rowBk (bk4 c).length (bankF (bk4 c))).getD 2 [])).out = _
        rw [hrb, rowB_byF, hF, hr]
    obtain ⟨p1, p2, p3⟩ := hP
    obtain ⟨cl, ⟨⟨ix, ch, pt⟩, er⟩, dn, mn⟩ := r
    dsimp only at p1 p2 p3 hsm
    refine tri_seq ?_
    refine tri_reg M hI hn (outs := ?_) (s' := ?_) ?_ ?_ ?_ ?_
    rotate_left 2
    · rfl
    · kernel_rfl
    · simp
    refine tri_cond (b := ?_) ?_ (fun hc => ?_) (fun hc => ?_)
    rotate_left 1
    · rfl
    · cases hc
    refine tri_skip ?_
    change Tri _ _ _ _ _
    refine tri_reg M hI hn (outs := ?_) (s' := ?_) ?_ ?_ ?_ ?_
    rotate_left 2
    · rfl
    · kernel_rfl
    · simp
    refine tri_seq ?_
    refine tri_reg M hI hn (outs := ?_) (s' := ?_) ?_ ?_ ?_ ?_
    rotate_left 2
    · rfl
    · kernel_rfl
    · simp
    refine tri_cond (b := ?_) ?_ (fun hc => ?_) (fun hc => ?_)
    rotate_left 1
    · rfl
    · refine tri_exit ?_
      change Tri _ _ _ _ _
      refine tri_region M hI hn (outs := ?_) (s' := ?_) ?_ ?_ ?_ ?_
      rotate_left 2
      · rfl
      · kernel_rfl
      · simp
      intro a w hg
      refine ⟨k + 1, f4St seed n rt Rs cl last (k + 1), by omega, by omega, ⟨cl, last, rfl, p1, hl1, by omega⟩, (hg.reset (kT := [4, 6, 7, 8, 9, 11, 12, 13]) (kO := [2002, 9006, 10002]) (by rfl) (by simp)).same ?_ ?_⟩
      · exact .cons rfl (.cons rfl (.cons rfl (.cons rfl (.cons rfl (.cons rfl (.cons rfl (.cons (by rw [wrap_nat k (by omega)]) .nil)))))))
      · exact restW rfl
    refine tri_skip ?_
    change Tri _ _ _ _ _
    have hc2 : (bif !dn then true else er == 17) = false := hc
    have hd : dn = true := by cases dn with
      | true => rfl
      | false => cases hc2
    subst hd
    have her : er ≠ 17 := by
      intro e
      subst e
      cases hc2
    obtain ⟨q, ho, hq1, hq2, hq3⟩ := p3 rfl her
    have hy := sgnT_yes seed mm n q (by omega) hq1
    have hver := ver_own8 seed mm n q (by omega) hq1
    rw [← ho, hrt] at hver
    have hix : ix = (q : Int) := congrArg (·.1.index) (ho.trans hy)
    have her0 : er = 0 := congrArg (·.2) (ho.trans hy)
    subst her0
    dsimp only at hver
    refine tri_reg M hI hn (outs := ?_) (s' := ?_) ?_ ?_ ?_ ?_
    rotate_left 2
    · rfl
    · kernel_rfl
    · simp
    refine tri_seq ?_
    refine tri_reg M hI hn (outs := ?_) (s' := ?_) ?_ ?_ ?_ ?_
    rotate_left 2
    · rfl
    · kernel_rfl
    · simp
      exact fun _ => Nat.le_trans hsm.2 (by decide)
    refine tri_cond (b := ?_) ?_ (fun hc => ?_) (fun hc => ?_)
    rotate_left 1
    · rfl
    · have hc3 : (bif bif ((0 : Int) != 0) then true else decide (ix ≤ last) then true else !(verS rt n mm ⟨ix, rowD ch.length (digF ch), rowD pt.length (digF pt)⟩)) = true := hc
      rw [rowD_digF, rowD_digF, hver, decide_eq_false (by omega)] at hc3
      cases hc3
    refine tri_skip ?_
    change Tri _ _ _ _ _
    refine tri_reg M hI hn (outs := ?_) (s' := ?_) ?_ ?_ ?_ ?_
    rotate_left 2
    · rfl
    · kernel_rfl
    · simp
    refine tri_reg M hI hn (outs := ?_) (s' := ?_) ?_ ?_ ?_ ?_
    rotate_left 2
    · rfl
    · kernel_rfl
    · simp
      refine ⟨(by decide : 2 < 4), ?_⟩
      show cl.length ≤ 100000
      rw [p1.len]
      omega
    refine tri_cond (b := ?_) ?_ (fun hc => ?_) (fun hc => ?_)
    rotate_left 1
    · rfl
    · have hc3 : decide (((levelOfCells ((rowBk (bk4 cl).length (bankF (bk4 cl))).getD 2 []) false : Nat) : Int) ≤ ix) = true := hc
      rw [hrb, level_bits cl false 16 p1.len] at hc3
      have := of_decide_eq_true hc3
      omega
    refine tri_skip ?_
    change Tri _ _ _ _ _
    refine tri_region M hI hn (outs := ?_) (s' := ?_) ?_ ?_ ?_ ?_
    rotate_left 2
    · rfl
    · kernel_rfl
    · simp
    intro a w hg
    refine ⟨k + 1, f4St seed n rt Rs cl ix (k + 1), by omega, by omega, ⟨cl, ix, rfl, p1, by omega, by omega⟩, (hg.reset (kT := [4, 6, 7, 8, 9, 11, 12, 13]) (kO := [2002, 9006, 10002]) (by rfl) (by simp)).same ?_ ?_⟩
    · exact .cons rfl (.cons rfl (.cons rfl (.cons rfl (.cons rfl (.cons rfl (.cons rfl (.cons (by rw [wrap_nat k (by omega)]) .nil)))))))
    · exact restW rfl
  · refine tri_exit ?_
    change Tri _ _ _ _ _
    refine tri_reg M hI hn (outs := ?_) (s' := ?_) ?_ ?_ ?_ ?_
    rotate_left 2
    · rfl
    · kernel_rfl
    · simp
    refine tri_ret (fun a w hg => ⟨.inr rfl, _, ?_, hg⟩)
    refine retTo_cold (out := ?_) ?_ ?_ ?_ ?_ ?_
    rotate_left 1
    · rfl
    · simp
    · rfl
    · rfl
    rfl
end Go.Proofs.YtplkplegjoabgaaGreatDoor.Pv

