/-
  bootchainref11: bit, pulse, LevelOf, RaiseTo, told, Level, Raise: the same step programs, read off by a Cur.
-/
import Derived.Test.YtmlekdmnpljcoaaCur
import Derived.Test.YtmlekdmnpljcoaaClo
namespace Go.Proofs.Ytmlekdmnpljcoaa
open Go.RowKit

set_option maxHeartbeats 400000 in
theorem ref_pulse (c : Nat) (lv : Value) (log : List Res) (bank bit : Int) (hb : 0 ≤ bit ∧ bit ≤ 100000) (s : CurSt) (w : World) (h : CurInv c lv log s w) :
    Calls Try.prog 37 #[.pointer (some ⟨c, 0, none⟩), .int .i64 bank, .int .i64 bit] w (CurPost c lv log unitV (Prg.pulses bank bit) s w) := by
  have HI := hide h
  clear h
  go_enter Try.func37, Try.ntmps37
  go_wp2
  go_loopw [6] (fun i wr => ∃ (k : Nat) (sk : CurSt), k ≤ 3 ∧ i = .int .i64 k ∧ CurInv c lv log sk wr ∧ Chg (fun k => k = c) w wr ∧ curRun log (Prg.pulses bank bit) s = curRun log (Prg.pulseFrom bank bit (3 - k)) sk) (fun i _ => 3 - (intOf i).toNat)
  case atStart => exact ⟨0, s, by omega, rfl, unhide HI, Chg.refl _ _, rfl⟩
  case round =>
    obtain ⟨k, sk, hk, rfl, hinv, hchg, hrun⟩ := hrel
    have HR := hide hrun
    have HC := hide (And.intro hinv hchg)
    clear hrun hinv hchg
    by_cases hlt : k < 3
    · go_wp2_with fail
      refine (cur_pulse c lv log _ _ sk _ (unhide HC).1).mono ?_
      intro e w1 hp
      have hq : Prg.pulseFrom bank bit (3 - k) = (Prg.pulse bank (3 * bit + (k : Int))).bind fun _ => Prg.pulseFrom bank bit (3 - (k + 1)) := by
        rw [show 3 - k = (2 - k) + 1 from by omega, Prg.pulseFrom, show 2 - (2 - k) = k from by omega, show 3 - (k + 1) = 2 - k from by omega]
      obtain ⟨⟨a, rfl, ha⟩, h1, h2⟩ := hp
      have HN : Hid (curRun log (Prg.pulses bank bit) s = curRun log (Prg.pulseFrom bank bit (3 - (k + 1))) (curRun log (Prg.pulse bank (3 * bit + (k : Int))) sk).2) := hide (by rw [unhide HR, hq]; exact curRun_bind ha)
      have HC1 := hide (And.intro h1 ((unhide HC).2.trans h2))
      clear hq ha h1 h2 HC HR
      generalize (curRun log (Prg.pulse bank (3 * bit + (k : Int))) sk).2 = s' at *
      go_wp2
      go_roundw
      case rel => exact ⟨k + 1, s', by omega, by go_num, (unhide HC1).1, (unhide HC1).2, unhide HN⟩
      case measure => simp [intOf]; omega
    · obtain rfl : k = 3 := by omega
      go_wp2
      go_end0
      have hr : curRun log (Prg.pulses bank bit) s = curRun log (.ret ()) sk := unhide HR
      exact ⟨⟨(), rfl, fun a' ha => rfl⟩, by rw [hr, curRun_ret2]; exact (unhide HC).1, (unhide HC).2⟩

set_option maxHeartbeats 400000 in
theorem ref_bit (c : Nat) (lv : Value) (log : List Res) (bank bit : Int) (hb : 0 ≤ bit ∧ bit ≤ 100000) (s : CurSt) (w : World) (h : CurInv c lv log s w) :
    Calls Try.prog 36 #[.pointer (some ⟨c, 0, none⟩), .int .i64 bank, .int .i64 bit] w (CurPost c lv log boolV (Prg.read bank bit) s w) := by
  have HI := hide h
  clear h
  go_enter Try.func36, Try.ntmps36
  go_wp2
  go_loopw [7, 8] (fun n i wr => ∃ (k : Nat) (l : List Int) (sk : CurSt), k ≤ 3 ∧ i = .int .i64 k ∧ n = .int .i64 (nonzero l) ∧ l.length = k ∧ CurInv c lv log sk wr ∧ Chg (fun k => k = c) w wr ∧ curRun log (Prg.read bank bit) s = curRun log (Prg.readFrom bank bit (3 - k) l) sk) (fun _ i _ => 3 - (intOf i).toNat)
  case atStart => exact ⟨0, [], s, by omega, rfl, rfl, rfl, unhide HI, Chg.refl _ _, rfl⟩
  case round =>
    obtain ⟨k, l, sk, hk, rfl, rfl, hl, hinv, hchg, hrun⟩ := hrel
    have HR := hide hrun
    have HC := hide (And.intro hinv hchg)
    have hnz := nonzero_le l
    have hnk : nonzero l ≤ k := by omega
    have HL := hide hl
    clear hrun hinv hchg hl hnz
    by_cases hlt : k < 3
    · go_wp2_with fail
      refine (cur_fuse c lv log _ _ sk _ (unhide HC).1).mono ?_
      intro e w1 hp
      have hq : Prg.readFrom bank bit (3 - k) l = (Prg.fuse bank (3 * bit + (k : Int))).bind fun x => Prg.readFrom bank bit (3 - (k + 1)) (l ++ [x]) := by
        rw [show 3 - k = (2 - k) + 1 from by omega, Prg.readFrom, show 2 - (2 - k) = k from by omega, show 3 - (k + 1) = 2 - k from by omega]
      obtain ⟨⟨a, rfl, ha⟩, h1, h2⟩ := hp
      have HN : Hid (curRun log (Prg.read bank bit) s = curRun log (Prg.readFrom bank bit (3 - (k + 1)) (l ++ [a])) (curRun log (Prg.fuse bank (3 * bit + (k : Int))) sk).2) := hide (by rw [unhide HR, hq]; exact curRun_bind ha)
      have HC1 := hide (And.intro h1 ((unhide HC).2.trans h2))
      have HS := hide (nonzero_snoc l a)
      clear hq ha h1 h2 HC HR
      generalize (curRun log (Prg.fuse bank (3 * bit + (k : Int))) sk).2 = s' at *
      simp only [intV]
      by_cases hx : a = 0
      · have hx' : (a != 0) = false := by simp [hx]
        have HX := hide hx
        clear hx
        go_wp2
        go_roundw
        case rel => exact ⟨k + 1, l ++ [a], s', by omega, by go_num, int_eq (by rw [unhide HS, if_pos (unhide HX)]; rfl), by simp [unhide HL], (unhide HC1).1, (unhide HC1).2, unhide HN⟩
        case measure => simp [intOf]; omega
      · have hx' : (a != 0) = true := by simp [hx]
        have HX := hide hx
        clear hx
        go_wp2
        go_roundw
        case rel => exact ⟨k + 1, l ++ [a], s', by omega, by go_num, int_eq (by rw [unhide HS, if_neg (unhide HX)]; rfl), by simp [unhide HL], (unhide HC1).1, (unhide HC1).2, unhide HN⟩
        case measure => simp [intOf]; omega
    · obtain rfl : k = 3 := by omega
      go_wp2
      go_ret
      have hr : curRun log (Prg.read bank bit) s = curRun log (.ret (majorityB l)) sk := unhide HR
      refine ⟨⟨majorityB l, ret_bool (by unfold majorityB; rw [unhide HL]; exact decide_eq_decide.2 (by omega)), fun a' ha => curRun_ret1 (by rw [← hr]; exact ha)⟩, by rw [hr, curRun_ret2]; exact (unhide HC).1, (unhide HC).2⟩

theorem CurInv.stop {c : Nat} {lv : Value} {log : List Res} {s : CurSt} {w : World} (h : CurInv c lv log s w) : w.cell? ⟨c, 6, none⟩ = some (.bool s.stop) := h.blk.cell 6

set_option maxHeartbeats 1000000 in
theorem ref_levelOf (c : Nat) (lv : Value) (log : List Res) (bank : Int) (bits : Nat) (hb : bits ≤ 1000) (s : CurSt) (w : World) (h : CurInv c lv log s w) :
    Calls Try.prog 23 #[.pointer (some ⟨c, 0, none⟩), .int .i64 bank, .int .i64 (bits : Int)] w fun e w' => CurPost c lv log natV (Prg.levelOf bank bits) s w e w' ∧ ∃ n : Nat, n ≤ bits ∧ e = .returned (natV n) := by
  have HI := hide h
  clear h
  go_enter Try.func23, Try.ntmps23
  go_wp2
  go_loopw [7] (fun i wr => ∃ (k : Nat) (sk : CurSt), k ≤ bits ∧ i = .int .i64 k ∧ CurInv c lv log sk wr ∧ Chg (fun k => k = c) w wr ∧ curRun log (Prg.levelOf bank bits) s = curRun log ((Prg.up bank (bits - k) k).bind fun n => (Prg.down bank n 0).bind fun _ => .ret n) sk) (fun i _ => bits - (intOf i).toNat)
  case atStart => exact ⟨0, s, by omega, rfl, unhide HI, Chg.refl _ _, rfl⟩
  case round =>
    obtain ⟨k, sk, hk, rfl, hinv, hchg, hrun⟩ := hrel
    have c6 := hinv.stop
    have HR := hide hrun
    have HC := hide (And.intro hinv hchg)
    clear hrun hinv hchg
    by_cases hlt : k < bits
    · cases hst : sk.stop with
      | true =>
        rw [hst] at c6
        have HC1 := HC
        have HN : Hid (curRun log (Prg.levelOf bank bits) s = curRun log ((Prg.down bank (k - 0) 0).bind fun _ => .ret k) sk) := hide (by rw [unhide HR, curRun_stop hst, curRun_stop hst])
        clear HC HR hst
        generalize sk = s' at *
        go_wp2
        go_loopw [9] (fun i wr => ∃ (b : Nat) (sb : CurSt), b ≤ k ∧ i = .int .i64 b ∧ CurInv c lv log sb wr ∧ Chg (fun k => k = c) w wr ∧ curRun log (Prg.levelOf bank bits) s = curRun log ((Prg.down bank (k - b) b).bind fun _ => .ret k) sb) (fun i _ => k - (intOf i).toNat)
        case atStart => exact ⟨0, s', by omega, rfl, (unhide HC1).1, (unhide HC1).2, unhide HN⟩
        case round =>
          obtain ⟨b, sb, hbk, rfl, hinv, hchg, hrun⟩ := hrel
          have c6 := hinv.stop
          have HR := hide hrun
          have HC := hide (And.intro hinv hchg)
          clear hrun hinv hchg HC1 HN
          by_cases hlb : b < k
          · cases hst : sb.stop with
            | true =>
              rw [hst] at c6
              have HS := hide hst
              clear hst
              go_wp2
              go_ret
              exact ⟨⟨⟨k, rfl, fun a' ha => by rw [unhide HR, curRun_stop (unhide HS)] at ha; cases ha⟩, by rw [unhide HR, curRun_stop (unhide HS)]; exact (unhide HC).1, (unhide HC).2⟩, k, by omega, rfl⟩
            | false =>
              rw [hst] at c6
              clear hst
              go_wp2_with fail
              refine (ref_pulse c lv log bank b ⟨by omega, by omega⟩ sb _ (unhide HC).1).mono ?_
              intro e w2 hp
              have hq : (Prg.down bank (k - b) b) = (Prg.pulses bank b).bind fun _ => Prg.down bank (k - (b + 1)) (b + 1) := by
                rw [show k - b = (k - (b + 1)) + 1 from by omega, Prg.down]
              obtain ⟨⟨a, rfl, ha⟩, h1, h2⟩ := hp
              have HN : Hid (curRun log (Prg.levelOf bank bits) s = curRun log ((Prg.down bank (k - (b + 1)) (b + 1)).bind fun _ => .ret k) (curRun log (Prg.pulses bank b) sb).2) := hide (by rw [unhide HR, hq, Prg.bind_assoc]; exact curRun_bind ha)
              have HC1 := hide (And.intro h1 ((unhide HC).2.trans h2))
              clear hq ha h1 h2 HC HR c6
              generalize (curRun log (Prg.pulses bank b) sb).2 = s2 at *
              simp only [unitV]
              go_wp2
              go_roundw
              case rel => exact ⟨b + 1, s2, by omega, by go_num, (unhide HC1).1, (unhide HC1).2, unhide HN⟩
              case measure => simp [intOf]; omega
          · obtain rfl : b = k := by omega
            go_wp2
            go_ret
            have hr : curRun log (Prg.levelOf bank bits) s = curRun log (.ret b) sb := by rw [unhide HR, Nat.sub_self]; rfl
            exact ⟨⟨⟨b, rfl, fun a' ha => curRun_ret1 (by rw [← hr]; exact ha)⟩, by rw [hr, curRun_ret2]; exact (unhide HC).1, (unhide HC).2⟩, b, by omega, rfl⟩
      | false =>
        rw [hst] at c6
        clear hst
        go_wp2_with fail
        refine (ref_bit c lv log bank k ⟨by omega, by omega⟩ sk _ (unhide HC).1).mono ?_
        intro e w1 hp
        have hq : (Prg.up bank (bits - k) k) = (Prg.read bank k).bind fun b => if b then Prg.up bank (bits - (k + 1)) (k + 1) else .ret k := by
          rw [show bits - k = (bits - (k + 1)) + 1 from by omega, Prg.up]
        obtain ⟨⟨x, rfl, ha⟩, h1, h2⟩ := hp
        have HN : Hid (curRun log (Prg.levelOf bank bits) s = curRun log ((if x then Prg.up bank (bits - (k + 1)) (k + 1) else .ret k).bind fun n => (Prg.down bank n 0).bind fun _ => .ret n) (curRun log (Prg.read bank k) sk).2) := hide (by rw [unhide HR, hq, Prg.bind_assoc]; exact curRun_bind ha)
        have HC1 := hide (And.intro h1 ((unhide HC).2.trans h2))
        clear hq ha h1 h2 HC HR c6
        generalize (curRun log (Prg.read bank k) sk).2 = s' at *
        simp only [boolV]
        cases x with
        | true =>
          go_wp2
          go_roundw
          case rel => exact ⟨k + 1, s', by omega, by go_num, (unhide HC1).1, (unhide HC1).2, unhide HN⟩
          case measure => simp [intOf]; omega
        | false =>
          go_wp2
          go_loopw [9] (fun i wr => ∃ (b : Nat) (sb : CurSt), b ≤ k ∧ i = .int .i64 b ∧ CurInv c lv log sb wr ∧ Chg (fun k => k = c) w wr ∧ curRun log (Prg.levelOf bank bits) s = curRun log ((Prg.down bank (k - b) b).bind fun _ => .ret k) sb) (fun i _ => k - (intOf i).toNat)
          case atStart => exact ⟨0, s', by omega, rfl, (unhide HC1).1, (unhide HC1).2, unhide HN⟩
          case round =>
            obtain ⟨b, sb, hbk, rfl, hinv, hchg, hrun⟩ := hrel
            have c6 := hinv.stop
            have HR := hide hrun
            have HC := hide (And.intro hinv hchg)
            clear hrun hinv hchg HC1 HN
            by_cases hlb : b < k
            · cases hst : sb.stop with
              | true =>
                rw [hst] at c6
                have HS := hide hst
                clear hst
                go_wp2
                go_ret
                exact ⟨⟨⟨k, rfl, fun a' ha => by rw [unhide HR, curRun_stop (unhide HS)] at ha; cases ha⟩, by rw [unhide HR, curRun_stop (unhide HS)]; exact (unhide HC).1, (unhide HC).2⟩, k, by omega, rfl⟩
              | false =>
                rw [hst] at c6
                clear hst
                go_wp2_with fail
                refine (ref_pulse c lv log bank b ⟨by omega, by omega⟩ sb _ (unhide HC).1).mono ?_
                intro e w2 hp
                have hq : (Prg.down bank (k - b) b) = (Prg.pulses bank b).bind fun _ => Prg.down bank (k - (b + 1)) (b + 1) := by
                  rw [show k - b = (k - (b + 1)) + 1 from by omega, Prg.down]
                obtain ⟨⟨a, rfl, ha⟩, h1, h2⟩ := hp
                have HN : Hid (curRun log (Prg.levelOf bank bits) s = curRun log ((Prg.down bank (k - (b + 1)) (b + 1)).bind fun _ => .ret k) (curRun log (Prg.pulses bank b) sb).2) := hide (by rw [unhide HR, hq, Prg.bind_assoc]; exact curRun_bind ha)
                have HC1 := hide (And.intro h1 ((unhide HC).2.trans h2))
                clear hq ha h1 h2 HC HR c6
                generalize (curRun log (Prg.pulses bank b) sb).2 = s2 at *
                simp only [unitV]
                go_wp2
                go_roundw
                case rel => exact ⟨b + 1, s2, by omega, by go_num, (unhide HC1).1, (unhide HC1).2, unhide HN⟩
                case measure => simp [intOf]; omega
            · obtain rfl : b = k := by omega
              go_wp2
              go_ret
              have hr : curRun log (Prg.levelOf bank bits) s = curRun log (.ret b) sb := by rw [unhide HR, Nat.sub_self]; rfl
              exact ⟨⟨⟨b, rfl, fun a' ha => curRun_ret1 (by rw [← hr]; exact ha)⟩, by rw [hr, curRun_ret2]; exact (unhide HC).1, (unhide HC).2⟩, b, by omega, rfl⟩
    · have HC1 := HC
      have HN : Hid (curRun log (Prg.levelOf bank bits) s = curRun log ((Prg.down bank (k - 0) 0).bind fun _ => .ret k) sk) := hide (by rw [unhide HR, show bits - k = 0 from by omega]; rfl)
      clear HC HR
      generalize sk = s' at *
      go_wp2
      go_loopw [9] (fun i wr => ∃ (b : Nat) (sb : CurSt), b ≤ k ∧ i = .int .i64 b ∧ CurInv c lv log sb wr ∧ Chg (fun k => k = c) w wr ∧ curRun log (Prg.levelOf bank bits) s = curRun log ((Prg.down bank (k - b) b).bind fun _ => .ret k) sb) (fun i _ => k - (intOf i).toNat)
      case atStart => exact ⟨0, s', by omega, rfl, (unhide HC1).1, (unhide HC1).2, unhide HN⟩
      case round =>
        obtain ⟨b, sb, hbk, rfl, hinv, hchg, hrun⟩ := hrel
        have c6 := hinv.stop
        have HR := hide hrun
        have HC := hide (And.intro hinv hchg)
        clear hrun hinv hchg HC1 HN
        by_cases hlb : b < k
        · cases hst : sb.stop with
          | true =>
            rw [hst] at c6
            have HS := hide hst
            clear hst
            go_wp2
            go_ret
            exact ⟨⟨⟨k, rfl, fun a' ha => by rw [unhide HR, curRun_stop (unhide HS)] at ha; cases ha⟩, by rw [unhide HR, curRun_stop (unhide HS)]; exact (unhide HC).1, (unhide HC).2⟩, k, by omega, rfl⟩
          | false =>
            rw [hst] at c6
            clear hst
            go_wp2_with fail
            refine (ref_pulse c lv log bank b ⟨by omega, by omega⟩ sb _ (unhide HC).1).mono ?_
            intro e w2 hp
            have hq : (Prg.down bank (k - b) b) = (Prg.pulses bank b).bind fun _ => Prg.down bank (k - (b + 1)) (b + 1) := by
              rw [show k - b = (k - (b + 1)) + 1 from by omega, Prg.down]
            obtain ⟨⟨a, rfl, ha⟩, h1, h2⟩ := hp
            have HN : Hid (curRun log (Prg.levelOf bank bits) s = curRun log ((Prg.down bank (k - (b + 1)) (b + 1)).bind fun _ => .ret k) (curRun log (Prg.pulses bank b) sb).2) := hide (by rw [unhide HR, hq, Prg.bind_assoc]; exact curRun_bind ha)
            have HC1 := hide (And.intro h1 ((unhide HC).2.trans h2))
            clear hq ha h1 h2 HC HR c6
            generalize (curRun log (Prg.pulses bank b) sb).2 = s2 at *
            simp only [unitV]
            go_wp2
            go_roundw
            case rel => exact ⟨b + 1, s2, by omega, by go_num, (unhide HC1).1, (unhide HC1).2, unhide HN⟩
            case measure => simp [intOf]; omega
        · obtain rfl : b = k := by omega
          go_wp2
          go_ret
          have hr : curRun log (Prg.levelOf bank bits) s = curRun log (.ret b) sb := by rw [unhide HR, Nat.sub_self]; rfl
          exact ⟨⟨⟨b, rfl, fun a' ha => curRun_ret1 (by rw [← hr]; exact ha)⟩, by rw [hr, curRun_ret2]; exact (unhide HC).1, (unhide HC).2⟩, b, by omega, rfl⟩

set_option maxHeartbeats 1000000 in
theorem ref_raiseTo (c : Nat) (lv : Value) (log : List Res) (bank : Int) (bits target : Nat) (hb : bits ≤ 1000) (ht : target ≤ 1000) (s : CurSt) (w : World) (h : CurInv c lv log s w) :
    Calls Try.prog 27 #[.pointer (some ⟨c, 0, none⟩), .int .i64 bank, .int .i64 (bits : Int), .int .i64 (target : Int)] w (CurPost c lv log pairV (Prg.raiseTo bank bits target) s w) := by
  have HI := hide h
  clear h
  go_enter Try.func27, Try.ntmps27
  go_wp2_with fail
  refine (ref_levelOf c lv log bank bits hb s _ (unhide HI)).mono ?_
  rintro e w1 ⟨⟨⟨a, rfl, ha⟩, h1, h2⟩, n, hn, he⟩
  have hna : a = n := by
    simp only [natV] at he
    injection he with he
    injection he with _ he
    exact_mod_cast he
  subst hna
  have HN : Hid (curRun log (Prg.raiseTo bank bits target) s = curRun log (Prg.raiseFrom bank (target - a) a) (curRun log (Prg.levelOf bank bits) s).2) := hide (curRun_bind ha)
  have HC1 := hide (And.intro h1 h2)
  clear he h1 h2 ha HI
  generalize (curRun log (Prg.levelOf bank bits) s).2 = s1 at *
  simp only [natV]
  go_wp2
  go_loopw [10] (fun i wr => ∃ (k : Nat) (sk : CurSt), (k ≤ bits ∨ k ≤ target) ∧ i = .int .i64 k ∧ CurInv c lv log sk wr ∧ Chg (fun k => k = c) w wr ∧ curRun log (Prg.raiseTo bank bits target) s = curRun log (Prg.raiseFrom bank (target - k) k) sk) (fun i _ => target - (intOf i).toNat)
  case atStart => exact ⟨a, s1, .inl hn, rfl, (unhide HC1).1, (unhide HC1).2, unhide HN⟩
  case round =>
    obtain ⟨k, sk, hk, rfl, hinv, hchg, hrun⟩ := hrel
    have c6 := hinv.stop
    have HR := hide hrun
    have HC := hide (And.intro hinv hchg)
    clear hrun hinv hchg HC1 HN
    by_cases hlt : k < target
    · have hk' : k ≤ 1000 := by omega
      clear hk
      cases hst : sk.stop with
      | true =>
        rw [hst] at c6
        have HS := hide hst
        clear hst
        go_wp2
        go_ret2
        exact ⟨⟨(k, 0), rfl, fun a' ha => by rw [unhide HR, curRun_stop (unhide HS)] at ha; cases ha⟩, by rw [unhide HR, curRun_stop (unhide HS)]; exact (unhide HC).1, (unhide HC).2⟩
      | false =>
        rw [hst] at c6
        clear hst
        go_wp2_with fail
        refine (ref_pulse c lv log bank k ⟨by omega, by omega⟩ sk _ (unhide HC).1).mono ?_
        intro e w2 hp
        have hq : (Prg.raiseFrom bank (target - k) k) = (Prg.pulses bank k).bind fun _ => (Prg.read bank k).bind fun b => if b then Prg.raiseFrom bank (target - (k + 1)) (k + 1) else .ret (k, 12) := by
          rw [show target - k = (target - (k + 1)) + 1 from by omega, Prg.raiseFrom]
        obtain ⟨⟨u, rfl, ha⟩, h1, h2⟩ := hp
        have HN : Hid (curRun log (Prg.raiseTo bank bits target) s = curRun log ((Prg.read bank k).bind fun b => if b then Prg.raiseFrom bank (target - (k + 1)) (k + 1) else .ret (k, 12)) (curRun log (Prg.pulses bank k) sk).2) := hide (by rw [unhide HR, hq]; exact curRun_bind ha)
        have HC1 := hide (And.intro h1 ((unhide HC).2.trans h2))
        clear hq ha h1 h2 HC HR c6
        generalize (curRun log (Prg.pulses bank k) sk).2 = s2 at *
        simp only [unitV]
        go_wp2_with fail
        refine (ref_bit c lv log bank k ⟨by omega, by omega⟩ s2 _ (unhide HC1).1).mono ?_
        intro e w3 hp
        obtain ⟨⟨x, rfl, ha⟩, h1, h2⟩ := hp
        have HM : Hid (curRun log (Prg.raiseTo bank bits target) s = curRun log (if x then Prg.raiseFrom bank (target - (k + 1)) (k + 1) else .ret (k, 12)) (curRun log (Prg.read bank k) s2).2) := hide (by rw [unhide HN]; exact curRun_bind ha)
        have HC2 := hide (And.intro h1 ((unhide HC1).2.trans h2))
        clear ha h1 h2 HC1 HN
        generalize (curRun log (Prg.read bank k) s2).2 = s3 at *
        simp only [boolV]
        cases x with
        | true =>
          go_wp2
          go_roundw
          case rel => exact ⟨k + 1, s3, .inr (by omega), by go_num, (unhide HC2).1, (unhide HC2).2, unhide HM⟩
          case measure => simp [intOf]; omega
        | false =>
          go_wp2
          go_ret2
          have hr : curRun log (Prg.raiseTo bank bits target) s = curRun log (.ret (k, 12)) s3 := unhide HM
          exact ⟨⟨(k, 12), rfl, fun a' ha => curRun_ret1 (by rw [← hr]; exact ha)⟩, by rw [hr, curRun_ret2]; exact (unhide HC2).1, (unhide HC2).2⟩
    · clear hk
      go_wp2
      go_ret2
      have hr : curRun log (Prg.raiseTo bank bits target) s = curRun log (.ret (k, 0)) sk := by rw [unhide HR, show target - k = 0 from by omega]; rfl
      exact ⟨⟨(k, 0), rfl, fun a' ha => curRun_ret1 (by rw [← hr]; exact ha)⟩, by rw [hr, curRun_ret2]; exact (unhide HC).1, (unhide HC).2⟩

/-- What told returns. -/
def toldV (s : CurSt) (n er : Int) : Value :=
  if s.stop then .tuple #[s.ask.v, .agg #[.int .i64 0, .int .i64 0], .bool false] else .tuple #[zeroAcc.v, .agg #[.int .i64 n, .int .i64 er], .bool true]

set_option maxHeartbeats 400000 in
theorem ref_told (c : Nat) (lv : Value) (log : List Res) (n er : Int) (s : CurSt) (w : World) (h : CurInv c lv log s w) :
    Calls Try.prog 24 #[.pointer (some ⟨c, 0, none⟩), .int .i64 n, .int .i64 er] w fun e w' => e = .returned (toldV s n er) ∧ Ext w w' := by
  have c2 := h.blk.cell 2
  have c3 := h.blk.cell 3
  have c4 := h.blk.cell 4
  have c5 := h.blk.cell 5
  have c6 := h.blk.cell 6
  simp only [curCells, List.getElem?_toArray, List.getElem?_cons_zero, List.getElem?_cons_succ] at c2 c3 c4 c5 c6
  have lc := h.blk.lt
  clear h
  obtain ⟨i, ⟨ak, ab, ac, ax⟩, stop⟩ := s
  simp only at *
  cases stop with
  | true =>
    go_enter Try.func24, Try.ntmps24
    go_wp2
    refine bodyPost_ret (v := .tuple #[.agg #[.int .i64 ak, .int .i64 ab, .int .i64 ac, .string ax], .agg #[.int .i64 0, .int .i64 0], .bool false]) (by simp [results, Try.results24, go_sem]) rfl ⟨rfl, ?_⟩
    repeat' (first | (with_reducible exact Chg.refl _ _) | (with_reducible exact Ext.refl _) | (with_reducible assumption) | (with_reducible refine Chg.alloc ?_ _) | (with_reducible refine Chg.drew ?_) | (with_reducible refine Chg.drewN ?_ _) | (with_reducible refine Chg.setCell ?_ ?_ _) | (with_reducible refine Ext.alloc ?_ _) | (with_reducible refine Ext.drew ?_) | (with_reducible refine Ext.drewN ?_ _) | (with_reducible refine Ext.setCell ?_ ?_ _) | (simp; done) | (simp; omega) | omega)
  | false =>
    go_enter Try.func24, Try.ntmps24
    go_wp2
    refine bodyPost_ret (v := .tuple #[.agg #[.int .i64 0, .int .i64 0, .int .i64 0, .string { data := #[] }], .agg #[.int .i64 n, .int .i64 er], .bool true]) (by simp [results, Try.results24, go_sem]) rfl ⟨rfl, ?_⟩
    repeat' (first | (with_reducible exact Chg.refl _ _) | (with_reducible exact Ext.refl _) | (with_reducible assumption) | (with_reducible refine Chg.alloc ?_ _) | (with_reducible refine Chg.drew ?_) | (with_reducible refine Chg.drewN ?_ _) | (with_reducible refine Chg.setCell ?_ ?_ _) | (with_reducible refine Ext.alloc ?_ _) | (with_reducible refine Ext.drew ?_) | (with_reducible refine Ext.drewN ?_ _) | (with_reducible refine Ext.setCell ?_ ?_ _) | (simp; done) | (simp; omega) | omega)

def st0 : CurSt := ⟨0, zeroAcc, false⟩
theorem Prg.bind_ret_right {α : Type} (p : Prg α) : p.bind .ret = p := by
  induction p with
  | ret a => rfl
  | ask a k ih => simp only [Prg.bind]; congr 1; funext r; exact ih r
theorem told_eq {α : Type} (log : List Res) (p : Prg α) (f : α → Nat × Int) (a : α) (h : ∀ a', (curRun log p st0).1 = some a' → a = a') :
    toldV (curRun log p st0).2 (f a).1 (f a).2 = ranV ((p.bind fun a => .ret (f a)).run (replay log) 0) := by
  unfold curRun at h ⊢
  rw [if_neg (by simp [st0])] at h ⊢
  cases hr : p.run (replay log) st0.i with
  | ok b i =>
    rw [hr] at h
    obtain rfl := h b rfl
    rw [Prg.run_bind_ok (show p.run (replay log) 0 = _ from hr)]
    rfl
  | error b i =>
    rw [Prg.run_bind_error (show p.run (replay log) 0 = _ from hr)]
    rfl
theorem toldV_parts (s : CurSt) (n er : Int) : ∃ (ak ab ac : Int) (ax : ByteArray) (p1 p2 : Int) (d : Bool), toldV s n er = .tuple #[.agg #[.int .i64 ak, .int .i64 ab, .int .i64 ac, .string ax], .agg #[.int .i64 p1, .int .i64 p2], .bool d] := by
  unfold toldV
  split
  · exact ⟨_, _, _, _, _, _, _, rfl⟩
  · exact ⟨_, _, _, _, _, _, _, rfl⟩

end Go.Proofs.Ytmlekdmnpljcoaa
