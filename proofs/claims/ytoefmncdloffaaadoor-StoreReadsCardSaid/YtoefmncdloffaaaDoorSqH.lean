/-
  Several texts in one file: each has its own heading below.
-/
import Derived.Test.YtoefmncdloffaaaDoorSqG
import Derived.Test.YtoefmncdloffaaaDoorSqE
import Derived.Outline
import Derived.Test.YtoefmncdloffaaaDoorSqF
import Derived.Deep.DeepCutAuto


namespace Go.Proofs.YtoefmncdloffaaaDoor
open Go.RowKit
def IsU64 (x : Nat) : Prop := x < 18446744073709551616
def WI (n : Int) (w : World) (x f m : Nat) (v : Value) (wr : World) : Prop :=
  ∃ pre : List UInt8, wInt n = pre ++ varint f x ∧ m = pre.length ∧ x < 128 ^ (f + 1) ∧ f ≤ 9 ∧ wr.ownsRow w.heap.size 5 1 v m (pre.map u8v) ∧ Ext w wr
theorem WI.small {n : Int} {w wr : World} {x f m : Nat} {v : Value} (h : WI n w x f m v wr) : m ≤ 10 := by
  obtain ⟨pre, h1, rfl, _⟩ := h
  have := wInt_length n
  rw [h1] at this
  simp at this
  omega
theorem WI.app {n : Int} {w wr w3 : World} {x f m : Nat} {A A' : Option Addr} {c c' : Nat} (h : WI n w x f m (.slice A m c) wr) (hx : ¬ x < 128)
    (ho : w3.ownsRow w.heap.size 5 1 (.slice A' (m + 1) c') (m + 1) ((h.choose).map u8v ++ [u8v (UInt8.ofNat (128 + x % 128))])) {o : Obj} (hc : Chg (fun k => (Value.slice A m c).ownBlock = some k) (wr.alloc o) w3) :
    ∃ g, WI n w (x / 128) g (m + 1) (.slice A' (m + 1) c') w3 := by
  obtain ⟨h1, h2, h3, h4, h5, h6⟩ := h.choose_spec
  generalize h.choose = pre at *
  cases f with
  | zero => simp at h3; omega
  | succ g =>
    rw [varint_big hx] at h1
    refine ⟨g, pre ++ [UInt8.ofNat (128 + x % 128)], by rw [h1]; simp, by simp [h2], ?_, by omega, by simpa using ho, (h6.alloc o).trans' hc (fun _ _ h => h) (fun i hi e => by have := h5.lt i e; omega)⟩
    rw [Nat.pow_succ] at h3
    exact Nat.div_lt_of_lt_mul (by rw [Nat.mul_comm]; exact h3)
theorem WI.last {n : Int} {w wr w3 : World} {x f m : Nat} {A A' : Option Addr} {c c' : Nat} (h : WI n w x f m (.slice A m c) wr) (hx : x < 128)
    (ho : w3.ownsRow w.heap.size 5 1 (.slice A' (m + 1) c') (m + 1) ((h.choose).map u8v ++ [u8v (UInt8.ofNat x)])) {o : Obj} (hc : Chg (fun k => (Value.slice A m c).ownBlock = some k) (wr.alloc o) w3) :
    m + 1 = (wInt n).length ∧ w3.ownsRow w.heap.size 5 1 (.slice A' (m + 1) c') (m + 1) ((wInt n).map u8v) ∧ Ext w w3 := by
  obtain ⟨h1, h2, h3, h4, h5, h6⟩ := h.choose_spec
  generalize h.choose = pre at *
  rw [varint_small hx] at h1
  refine ⟨by rw [h1]; simp [h2], by rw [h1]; simpa using ho, (h6.alloc o).trans' hc (fun _ _ h => h) (fun i hi e => by have := h5.lt i e; omega)⟩
theorem not64 (a : Nat) (h : a < 18446744073709551616) : bits BinOp.xor IntKind.u64 IntKind.u64.max (a : Int) = ((18446744073709551615 - a : Nat) : Int) := by
  have e := u64_xor IntKind.u64.max (a : Int) (by decide) (by decide) (by omega) (by omega)
  rw [e]
  have h1 : (UInt64.ofNat a).toNat = a := by simp; omega
  have h2 : (-1 ^^^ UInt64.ofNat a).toNat = 18446744073709551615 - a := by
    rw [UInt64.neg_one_xor, UInt64.toNat_not, h1]
    rfl
  rw [UInt64.toNat_xor, h1] at h2
  rw [← h2]
  rfl
theorem zig_pos (n : Int) (h0 : 0 ≤ n) (h2 : n < 9223372036854775808) : IntKind.u64.wrap (IntKind.u64.wrap n * 2) = (zig n : Int) := by
  rw [IntKind.wrap_u64, IntKind.wrap_u64]; unfold zig; rw [if_pos h0]; omega
theorem zig_neg (n : Int) (h0 : n < 0) (h1 : -9223372036854775808 ≤ n) : bits BinOp.xor IntKind.u64 IntKind.u64.max (IntKind.u64.wrap (IntKind.u64.wrap n * 2)) = (zig n : Int) := by
  have e : IntKind.u64.wrap (IntKind.u64.wrap n * 2) = ((2 * n + 18446744073709551616).toNat : Int) := by rw [IntKind.wrap_u64, IntKind.wrap_u64]; omega
  rw [e, not64 _ (by omega)]; unfold zig; rw [if_neg (by omega)]; omega
theorem WI.start {n : Int} (h1 : -9223372036854775808 ≤ n) (h2 : n < 9223372036854775808) (w : World) : WI n w (zig n) 9 0 (.slice none 0 0) w :=
  ⟨[], rfl, rfl, Nat.lt_of_lt_of_le (zig_lt h1 h2) (by decide), by omega, World.ownsRow_nil _ _ _ _, Ext.refl _⟩
set_option maxHeartbeats 1000000 in
theorem zigzag_any (n : Int) (w : World) (h1 : -9223372036854775808 ≤ n) (h2 : n < 9223372036854775808) :
    Calls Tryd.prog 117 #[.int .i64 n] w fun e w' => e = .returned (.int .u64 (zig n : Int)) ∧ w = w' := by
  by_cases h0 : 0 ≤ n
  · have hz := hide (show ((zig n : Nat) : Int) = 2 * n from by unfold zig; rw [if_pos h0]; omega)
    go_enter Tryd.func117, Tryd.ntmps117
    go_wp2
    go_ret
    exact ⟨ret_int (by first | exact (unhide hz).symm | (rw [unhide hz]; omega) | (rw [unhide hz]; simp [IntKind.wrap_u64]; omega)), rfl⟩
  · have hz := hide (show ((zig n : Nat) : Int) = -2 * n - 1 from by unfold zig; rw [if_neg h0]; omega)
    have d0 : decide (0 ≤ n) = false := decide_eq_false h0
    have hn : n < 0 := by omega
    clear h0
    go_enter Tryd.func117, Tryd.ntmps117
    go_wp2
    go_ret
    exact ⟨ret_int (by first | exact (unhide hz).symm | (rw [unhide hz]; omega) | (rw [unhide hz]; simp [IntKind.wrap_u64]; omega)), rfl⟩
set_option maxRecDepth 100000 in
set_option maxHeartbeats 1000000 in
theorem rint_any (n : Int) (w : World) (h1 : -9223372036854775808 ≤ n) (h2 : n < 9223372036854775808) :
    Calls Tryd.prog 76 #[.int .i64 n] w fun e w' => ∃ A c, e = .returned (.slice A (wInt n).length c) ∧ w'.ownsRow w.heap.size 5 1 (.slice A (wInt n).length c) (wInt n).length ((wInt n).map u8v) ∧ Ext w w' := by
  have HI := hide (WI.start h1 h2 w)
  have HZ := hide (show IsU64 (zig n) from zig_lt h1 h2)
  have HZZ := hide (fun w => zigzag_any n w h1 h2)
  clear h1 h2
  go_enter Tryd.func76, Tryd.ntmps76
  go_wp2_with (go_at_call 117; refine (unhide HZZ _).mono ?_; rintro e w' ⟨rfl, rfl⟩)
  generalize zig n = z at *
  go_loopw [3, 4] (fun u b wr => ∃ (x f m : Nat) (A : Option Addr) (c : Nat), u = .int .u64 (x : Int) ∧ IsU64 x ∧ b = .slice A m c ∧ Hid (WI n w x f m (.slice A m c) wr)) (fun u _ _ => (intOf u).toNat)
  case atStart => exact ⟨z, 9, 0, none, 0, rfl, unhide HZ, rfl, HI⟩
  case round =>
    clear HI HZ
    obtain ⟨x, f, m, A, c, rfl, hx64, rfl, HI⟩ := hrel
    have hm := (unhide HI).small
    by_cases hlt : x < 128
    · have HB := hide (show (x : Int) = ((UInt8.ofNat x).toNat : Int) from by simp; omega)
      go_wp2_with (at_builtin; refine wpList_app rfl rfl u8_row rfl (ownsRow_ext (unhide HI).choose_spec.2.2.2.2.1 ((Ext.refl wr).alloc _)) rfl (Reads.new1 _ _ _) (AllOne.one rfl) (by omega) (by have := (unhide HI).choose_spec.2.2.2.2.2.size'; simp; omega) ?_; intro A' c' w3 ho hc hv; have HQ := hide (And.intro ho hc); clear ho hc hv)
      go_ret
      obtain ⟨q1, q2⟩ := unhide HQ
      rw [unhide HB] at q1
      obtain ⟨q3, q4, q5⟩ := (unhide HI).last hlt q1 q2
      rw [q3] at q4 ⊢
      exact ⟨_, _, rfl, q4, q5⟩
    · have hwq : IntKind.u64.wrap ((x : Int) / 128) = ((x / 128 : Nat) : Int) := by rw [IntKind.wrap_u64]; unfold IsU64 at hx64; omega
      have HB := hide (show 128 + (x : Int) % 128 = ((UInt8.ofNat (128 + x % 128)).toNat : Int) from by simp; omega)
      go_wp2_with (at_builtin; refine wpList_app rfl rfl u8_row rfl (ownsRow_ext (unhide HI).choose_spec.2.2.2.2.1 ((Ext.refl wr).alloc _)) rfl (Reads.new1 _ _ _) (AllOne.one rfl) (by omega) (by have := (unhide HI).choose_spec.2.2.2.2.2.size'; simp; omega) ?_; intro A' c' w3 ho hc hv; have HQ := hide (And.intro ho hc); clear ho hc hv)
      go_roundw
      case rel =>
        obtain ⟨q1, q2⟩ := unhide HQ
        rw [unhide HB] at q1
        obtain ⟨g, q3⟩ := (unhide HI).app hlt q1 q2
        exact ⟨x / 128, g, m + 1, A', c', by go_num, by unfold IsU64 at hx64 ⊢; omega, rfl, hide q3⟩
      case measure => simp [intOf]; omega
set_option maxRecDepth 100000 in
set_option maxHeartbeats 1000000 in
theorem wint_any (n : Int) (w : World) (h1 : -9223372036854775808 ≤ n) (h2 : n < 9223372036854775808) :
    Calls Tryd.prog 17 #[.int .i64 n] w fun e w' => ∃ A c, e = .returned (.slice A (wInt n).length c) ∧ w'.ownsRow w.heap.size 5 1 (.slice A (wInt n).length c) (wInt n).length ((wInt n).map u8v) ∧ Ext w w' := by
  have HI := hide (WI.start h1 h2 w)
  have HZ := hide (show IsU64 (zig n) from zig_lt h1 h2)
  rcases Int.lt_or_le n 0 with h0 | h0
  · have hz := zig_neg n h0 h1
    have d0 : decide (n < 0) = true := decide_eq_true h0
    clear h1 h2
    go_enter Tryd.func17, Tryd.ntmps17
    go_wp2
    go_step3
    go_wp2
    go_step3
    go_wp2
    generalize zig n = z at *
    clear hz d0
    go_loopw [3, 4] (fun u b wr => ∃ (x f m : Nat) (A : Option Addr) (c : Nat), u = .int .u64 (x : Int) ∧ IsU64 x ∧ b = .slice A m c ∧ Hid (WI n w x f m (.slice A m c) wr)) (fun u _ _ => (intOf u).toNat)
    case atStart => exact ⟨z, 9, 0, none, 0, rfl, unhide HZ, rfl, HI⟩
    case round =>
      clear HI HZ
      obtain ⟨x, f, m, A, c, rfl, hx64, rfl, HI⟩ := hrel
      have hm := (unhide HI).small
      by_cases hlt : x < 128
      · have HB := hide (show (x : Int) = ((UInt8.ofNat x).toNat : Int) from by simp; omega)
        go_wp2_with (at_builtin; refine wpList_app rfl rfl u8_row rfl (ownsRow_ext (unhide HI).choose_spec.2.2.2.2.1 ((Ext.refl wr).alloc _)) rfl (Reads.new1 _ _ _) (AllOne.one rfl) (by omega) (by have := (unhide HI).choose_spec.2.2.2.2.2.size'; simp; omega) ?_; intro A' c' w3 ho hc hv; have HQ := hide (And.intro ho hc); clear ho hc hv)
        try rw [Exit.noGoto_ret]
        go_ret
        obtain ⟨q1, q2⟩ := unhide HQ
        rw [unhide HB] at q1
        obtain ⟨q3, q4, q5⟩ := (unhide HI).last hlt q1 q2
        rw [q3] at q4 ⊢
        exact ⟨_, _, rfl, q4, q5⟩
      · have hwq : (x : Int).fdiv (2 ^ min (Int.toNat 7) IntKind.u64.bits) = ((x / 128 : Nat) : Int) := by
          show (x : Int).fdiv 128 = _
          rw [Int.fdiv_eq_ediv_of_nonneg _ (by omega)]; omega
        have HB := hide (or_byte x)
        go_wp2_with (at_builtin; refine wpList_app rfl rfl u8_row rfl (ownsRow_ext (unhide HI).choose_spec.2.2.2.2.1 ((Ext.refl wr).alloc _)) rfl (Reads.new1 _ _ _) (AllOne.one rfl) (by omega) (by have := (unhide HI).choose_spec.2.2.2.2.2.size'; simp; omega) ?_; intro A' c' w3 ho hc hv; have HQ := hide (And.intro ho hc); clear ho hc hv)
        go_roundw
        case rel =>
          obtain ⟨q1, q2⟩ := unhide HQ
          rw [unhide HB] at q1
          obtain ⟨g, q3⟩ := (unhide HI).app hlt q1 q2
          exact ⟨x / 128, g, m + 1, A', c', by go_num, by unfold IsU64 at hx64 ⊢; omega, rfl, hide q3⟩
        case measure => simp [intOf]; omega
  · have hz := zig_pos n h0 h2
    have d0 : decide (n < 0) = false := decide_eq_false (by omega)
    clear h1 h2
    go_enter Tryd.func17, Tryd.ntmps17
    go_wp2
    go_step3
    go_wp2
    go_step3
    go_wp2
    generalize zig n = z at *
    clear hz d0
    go_loopw [3, 4] (fun u b wr => ∃ (x f m : Nat) (A : Option Addr) (c : Nat), u = .int .u64 (x : Int) ∧ IsU64 x ∧ b = .slice A m c ∧ Hid (WI n w x f m (.slice A m c) wr)) (fun u _ _ => (intOf u).toNat)
    case atStart => exact ⟨z, 9, 0, none, 0, rfl, unhide HZ, rfl, HI⟩
    case round =>
      clear HI HZ
      obtain ⟨x, f, m, A, c, rfl, hx64, rfl, HI⟩ := hrel
      have hm := (unhide HI).small
      by_cases hlt : x < 128
      · have HB := hide (show (x : Int) = ((UInt8.ofNat x).toNat : Int) from by simp; omega)
        go_wp2_with (at_builtin; refine wpList_app rfl rfl u8_row rfl (ownsRow_ext (unhide HI).choose_spec.2.2.2.2.1 ((Ext.refl wr).alloc _)) rfl (Reads.new1 _ _ _) (AllOne.one rfl) (by omega) (by have := (unhide HI).choose_spec.2.2.2.2.2.size'; simp; omega) ?_; intro A' c' w3 ho hc hv; have HQ := hide (And.intro ho hc); clear ho hc hv)
        try rw [Exit.noGoto_ret]
        go_ret
        obtain ⟨q1, q2⟩ := unhide HQ
        rw [unhide HB] at q1
        obtain ⟨q3, q4, q5⟩ := (unhide HI).last hlt q1 q2
        rw [q3] at q4 ⊢
        exact ⟨_, _, rfl, q4, q5⟩
      · have hwq : (x : Int).fdiv (2 ^ min (Int.toNat 7) IntKind.u64.bits) = ((x / 128 : Nat) : Int) := by
          show (x : Int).fdiv 128 = _
          rw [Int.fdiv_eq_ediv_of_nonneg _ (by omega)]; omega
        have HB := hide (or_byte x)
        go_wp2_with (at_builtin; refine wpList_app rfl rfl u8_row rfl (ownsRow_ext (unhide HI).choose_spec.2.2.2.2.1 ((Ext.refl wr).alloc _)) rfl (Reads.new1 _ _ _) (AllOne.one rfl) (by omega) (by have := (unhide HI).choose_spec.2.2.2.2.2.size'; simp; omega) ?_; intro A' c' w3 ho hc hv; have HQ := hide (And.intro ho hc); clear ho hc hv)
        go_roundw
        case rel =>
          obtain ⟨q1, q2⟩ := unhide HQ
          rw [unhide HB] at q1
          obtain ⟨g, q3⟩ := (unhide HI).app hlt q1 q2
          exact ⟨x / 128, g, m + 1, A', c', by go_num, by unfold IsU64 at hx64 ⊢; omega, rfl, hide q3⟩
        case measure => simp [intOf]; omega
end Go.Proofs.YtoefmncdloffaaaDoor


namespace Go.Proofs.YtoefmncdloffaaaDoor
open Go.RowKit
theorem u8_zero : (Tryd.prog.info? 5).map (·.zero) = some (some (.int .u8 0)) := by kernel_rfl
theorem wBytes_len (s : ByteArray) : (wBytes s.data.toList).length = (wInt s.size).length + s.size := by
  unfold wBytes
  rw [List.length_append, Array.length_toList]
  rfl
theorem wBytes_map (s : ByteArray) : (wBytes s.data.toList).map u8v = (wInt s.size).map u8v ++ s.data.toList.map byteV := by
  unfold wBytes
  rw [List.map_append, Array.length_toList]
  rfl
set_option maxHeartbeats 400000 in
theorem wbytes_any (s : ByteArray) (w : World) (hs : s.size ≤ 1000000000) :
    Calls Tryd.prog 18 #[.string s] w fun e w' => ∃ A c, e = .returned (.slice A (wBytes s.data.toList).length c) ∧ w'.ownsRow w.heap.size 5 1 (.slice A (wBytes s.data.toList).length c) (wBytes s.data.toList).length ((wBytes s.data.toList).map u8v) ∧ Ext w w' := by
  have HW := hide (fun w => wint_any (s.size : Int) w (by omega) (by omega))
  have HL := hide (wBytes_len s)
  have HM := hide (wBytes_map s)
  have hl := wInt_length (s.size : Int)
  go_enter Tryd.func18, Tryd.ntmps18
  go_wp2_with fail
  refine (unhide HW _).mono ?_
  rintro e w1 ⟨A, c, rfl, ho, hE⟩
  have HO := hide (And.intro ho hE)
  clear ho hE
  go_wp2_with (at_builtin; refine wpList_appS rfl rfl u8_row u8_zero Tryd.underlying9 rfl (unhide HO).1 rfl (by omega) (unhide HO).2.size' ?_; intro A' c' w2 ho hc; have HQ := hide (And.intro ho hc); clear ho hc)
  go_ret
  obtain ⟨h1, h2⟩ := unhide HQ
  rw [← unhide HL, ← unhide HM] at h1
  exact ⟨A', c', by rw [unhide HL]; rfl, h1, (unhide HO).2.trans' h2 (fun _ _ h => h) (fun i hi e => by have := ((unhide HO).1.lt i e).1; omega)⟩
set_option maxHeartbeats 400000 in
theorem rbytes_any (s : ByteArray) (w : World) (hs : s.size ≤ 1000000000) :
    Calls Tryd.prog 75 #[.string s] w fun e w' => ∃ A c, e = .returned (.slice A (wBytes s.data.toList).length c) ∧ w'.ownsRow w.heap.size 5 1 (.slice A (wBytes s.data.toList).length c) (wBytes s.data.toList).length ((wBytes s.data.toList).map u8v) ∧ Ext w w' := by
  have HW := hide (fun w => rint_any (s.size : Int) w (by omega) (by omega))
  have HL := hide (wBytes_len s)
  have HM := hide (wBytes_map s)
  have hl := wInt_length (s.size : Int)
  go_enter Tryd.func75, Tryd.ntmps75
  go_wp2_with fail
  refine (unhide HW _).mono ?_
  rintro e w1 ⟨A, c, rfl, ho, hE⟩
  have HO := hide (And.intro ho hE)
  clear ho hE
  go_wp2_with (first
    | (refine wpList_bytesOf (src := 9) (dst := 29) (x := .tmp 6) (s := s) rfl rfl Tryd.underlying9 Tryd.underlying29 Tryd.underlying5 rfl (by unfold maxLen; omega) ?_; intro c2 w2 hr2 hE2 hf2; have HR := hide (And.intro hr2 hE2); clear hr2 hE2 hf2)
    | (at_builtin; refine wpList_app rfl rfl u8_row rfl (ownsRow_ext (unhide HO).1 (unhide HR).2) rfl (unhide HR).1 (AllOne.map (fun _ => rfl) _) (by omega) (Nat.le_trans (unhide HO).2.size' (unhide HR).2.size') ?_; intro A' c' w3 ho hc hv; have HQ := hide (And.intro ho hc); clear ho hc hv))
  go_ret
  obtain ⟨h1, h2⟩ := unhide HQ
  rw [← unhide HL, ← unhide HM] at h1
  exact ⟨A', c', by rw [unhide HL]; rfl, h1, ((unhide HO).2.trans (unhide HR).2).trans' h2 (fun _ _ h => h) (fun i hi e => by have := ((unhide HO).1.lt i e).1; omega)⟩
end Go.Proofs.YtoefmncdloffaaaDoor


namespace Go.Proofs.YtoefmncdloffaaaDoor
open Go.RowKit
theorem digest_wide : Wide Tryd.prog 23 16 := ⟨⟨_, Tryd.underlying23, rfl⟩, by kernel_rfl⟩
set_option maxHeartbeats 1000000 in
theorem short_any (l : List UInt8) (w : World) (hl : l.length = 32) :
    Calls Tryd.prog 52 #[.agg (l.map u8v).toArray] w fun e w' => e = .returned (.agg ((l.take 16).map u8v).toArray) ∧ Ext w w' := by
  obtain ⟨arr, harr⟩ : ∃ r, (l.map u8v).toArray = r := ⟨_, rfl⟩
  obtain ⟨res, hres⟩ : ∃ r, ((l.take 16).map u8v).toArray = r := ⟨_, rfl⟩
  have HA := hide (And.intro harr hl)
  have HR := hide hres
  have HS := hide (show res.size = 16 ∧ res.all (·.oneCell') = true from by rw [← hres]; exact ⟨by simp; omega, bytes_one _⟩)
  rw [harr, hres]
  clear harr hres hl
  have hat := fun X => run_arrayAt (P := Tryd.prog) Tryd.underlying23 (ad := some ⟨w.heap.size, 0, none⟩) (len := 16) (c := 32) (by omega) X
  go_enter Tryd.func52, Tryd.ntmps52
  go_wp2_with (first
    | (refine wpList_loadR (ty := 23) (x := .tmp 4) rfl rfl digest_wide rfl (arr := res) (cs := (l.take 16).map u8v) ?_ ?_ (unhide HR) ?_; (focus (refine rangeAt_chg (w := w.alloc (.cells arr 91)) (S := Non) (fun j v hj => ?_) ((Ext.refl _).alloc _) (fun h => h); rw [Nat.zero_add, (Blk.new w _ arr).cell, ← (unhide HA).1]; rw [List.map_take, List.getElem?_take] at hj; split at hj; (simpa using hj); (cases hj))); (focus (have := (unhide HA).2; simp; omega)))
    | (refine wpList_storeB (ty := 23) (t := 23) (x := .tmp 2) (y := .tmp 5) rfl rfl digest_wide rfl rfl (Blk.new' _ _ _ ?_) rfl (unhide HS).1 (unhide HS).2 ?_; (focus (simp; done)); intro w2 hb2 hc2 hz2; have H2 := hide (And.intro hb2 hc2); clear hb2 hc2 hz2))
  refine bodyPost_ret (v := .agg res) (results_blk digest_wide rfl (unhide H2).1 (unhide HS).1 rfl) rfl ⟨rfl, ?_⟩
  exact (((Ext.refl w).alloc _).alloc _).trans' (unhide H2).2 (fun _ _ h => h) (fun i hi e => by omega)
theorem mac_short (key b : List UInt8) (w : World) : Calls Tryd.prog 52 #[.agg ((hmac key b).map u8v).toArray] w fun e w' => e = .returned (.agg ((mac key b).map u8v).toArray) ∧ Ext w w' := short_any _ _ (hmac_length _ _)
theorem mac_length (key b : List UInt8) : (mac key b).length = 16 := by unfold mac; rw [List.length_take, hmac_length]; omega
set_option maxHeartbeats 1000000 in
theorem mac_any (key b : List UInt8) (kv bv : Value) (w : World) (hM : ShaMem w) (hk : Reads w 1 kv key.length (key.map u8v)) (hb : Reads w 1 bv b.length (b.map u8v)) (hkl : key.length ≤ 1000000) (hbl : b.length ≤ 1000000) :
    Calls Tryd.prog 16 #[kv, bv] w fun e w' => e = .returned (.agg ((mac key b).map u8v).toArray) ∧ Ext w w' := by
  have HH := hide (hmac_any key b kv bv _ (hM.ext ((Ext.refl w).alloc (.cells (Array.replicate 16 (.int .u8 0)) 23))) (hk.ext ((Ext.refl w).alloc _)) (hb.ext ((Ext.refl w).alloc _)) hkl hbl)
  have HL := hide (mac_length key b)
  clear hM hk hb
  go_enter Tryd.func16, Tryd.ntmps16
  go_wp2_with fail
  refine (unhide HH).mono ?_
  rintro e w1 ⟨rfl, hE1⟩
  go_wp2_with fail
  refine (mac_short key b _).mono ?_
  rintro e w2 ⟨rfl, hE2⟩
  have hB := (Blk.new w 23 (Array.replicate 16 (.int .u8 0))).ext (hE1.trans hE2)
  have HB := hide (And.intro hB (hE1.trans hE2))
  clear hB hE1 hE2
  go_wp2_with (refine wpList_storeB (ty := 23) (t := 23) (x := .tmp 4) (y := .tmp 8) rfl rfl digest_wide rfl rfl (unhide HB).1 (by simp) ?_ (bytes_one _) ?_; (focus (simpa using unhide HL)); intro w3 hb3 hc3 hz3; have H3 := hide (And.intro hb3 hc3); clear hb3 hc3 hz3)
  refine bodyPost_ret (v := .agg ((mac key b).map u8v).toArray) (results_blk digest_wide rfl (unhide H3).1 (by simpa using unhide HL) rfl) rfl ⟨rfl, ?_⟩
  exact (((Ext.refl w).alloc _).trans (unhide HB).2).trans' (unhide H3).2 (fun _ _ h => h) (fun i hi e => by omega)
def Parts (w : World) (v : Value) (ps : List (List UInt8)) : Prop := ∃ vs : List Value, vs.length = ps.length ∧ Reads w 1 v ps.length vs ∧ ∀ (i : Nat) (p : List UInt8), ps[i]? = some p → ∃ u, vs[i]? = some u ∧ Reads w 1 u p.length (p.map u8v)
theorem Parts.ext {w w' : World} {v : Value} {ps : List (List UInt8)} (h : Parts w v ps) (hE : Ext w w') : Parts w' v ps := by
  obtain ⟨vs, h1, h2, h3⟩ := h
  refine ⟨vs, h1, h2.ext hE, fun i p hp => ?_⟩
  obtain ⟨u, h4, h5⟩ := h3 i p hp
  exact ⟨u, h4, h5.ext hE⟩
theorem Parts.chg {S : Nat → Prop} {w w' : World} {v : Value} {ps : List (List UInt8)} (h : Parts w v ps) {B : Nat} (hB : w.heap.size = B) (hE : Chg S w w') (hS : ∀ k, S k → B ≤ k) : Parts w' v ps :=
  h.ext (hE.mono fun k hk hs => by have := hS k hs; omega)
theorem Parts.nil (w : World) : Parts w (.slice none 0 0) [] := ⟨[], rfl, Reads.nil w 1, fun i p h => by simp at h⟩
def encs (ps : List (List UInt8)) : List UInt8 := ps.flatMap wBytes
theorem encs_step (ps : List (List UInt8)) (k : Nat) (h : k < ps.length) : encs (ps.take (k + 1)) = encs (ps.take k) ++ wBytes ps[k] := by
  unfold encs
  rw [take_step ps k h, List.flatMap_append]
  simp
theorem encs_bound (ps : List (List UInt8)) (M : Nat) (h : ∀ p ∈ ps, p.length ≤ M) : (encs ps).length ≤ ps.length * (M + 10) := by
  unfold encs
  induction ps with
  | nil => simp
  | cons p ps ih =>
    have h1 := ih fun q hq => h q (List.mem_cons_of_mem _ hq)
    have h2 := h p List.mem_cons_self
    have h3 := wBytes_length p
    rw [List.flatMap_cons, List.length_append, List.length_cons, Nat.succ_mul]
    omega
end Go.Proofs.YtoefmncdloffaaaDoor


namespace Go.Proofs.YtoefmncdloffaaaDoor
open Go.RowKit
theorem own_less {w : World} {B B' : Nat} {e : TypeId} {size n : Nat} {v : Value} {xs : List Value} (h : w.ownsRow B e size v n xs) (hB : B' ≤ B) : w.ownsRow B' e size v n xs := by
  refine ⟨h.1, ?_⟩
  rcases h.2 with h | ⟨g, cap, cur, hv, hb, h⟩
  · exact .inl h
  · exact .inr ⟨g, cap, cur, hv, Nat.le_trans hB hb, h⟩
set_option maxRecDepth 100000 in
set_option maxHeartbeats 1000000 in
theorem rall_any (l : List UInt8) (w : World) (hl : l.length = 32) :
    Calls Tryd.prog 164 #[.agg (l.map u8v).toArray] w fun e w' => ∃ A c, e = .returned (.slice A 32 c) ∧ GB w w.heap.size (.slice A 32 c) 32 l w' := by
  obtain ⟨arr, harr⟩ : ∃ r, (l.map u8v).toArray = r := ⟨_, rfl⟩
  have HA := hide (And.intro harr hl)
  rw [harr]
  clear harr hl
  go_enter Tryd.func164, Tryd.ntmps164
  go_wp2
  go_loopw [3, 4] (fun b i wr => ∃ (k : Nat) (A : Option Addr) (c : Nat), k ≤ 32 ∧ i = .int .i64 k ∧ b = .slice A k c ∧ Hid (GB w (w.heap.size + 1) (.slice A k c) k (l.take k) wr ∧ Blk wr w.heap.size 91 arr)) (fun _ i _ => 32 - (intOf i).toNat)
  case atStart => exact ⟨0, none, 0, Nat.zero_le _, rfl, rfl, hide ⟨GB.nil ((Ext.refl w).alloc _) (by omega) (by simp), Blk.new _ _ _⟩⟩
  case round =>
    obtain ⟨k, A, c, hk, rfl, rfl, HI⟩ := hrel
    by_cases hlt : k < 32
    · have hc : wr.cell? ⟨w.heap.size, k, none⟩ = some (.int .u8 ((l.getD k 0).toNat : Int)) := by
        rw [(unhide HI).2.cell, ← (unhide HA).1, List.getElem?_toArray, List.getElem?_map, List.getD_eq_getElem?_getD, List.getElem?_eq_getElem (by rw [(unhide HA).2]; exact hlt)]
        rfl
      have HS := hide (show l.take (k + 1) = l.take k ++ [l.getD k 0] from by
        rw [take_step l k (by rw [(unhide HA).2]; exact hlt), List.getD_eq_getElem?_getD, List.getElem?_eq_getElem (by rw [(unhide HA).2]; exact hlt)]
        rfl)
      generalize l.getD k 0 = x at *
      have b1 : (k : Int) < 32 := by omega
      go_wp2_with (at_builtin; refine wpList_app rfl rfl u8_row rfl (ownsRow_ext (unhide HI).1.own ((Ext.refl _).alloc _)) rfl (Reads.new1 _ _ _) (AllOne.one rfl) (by omega) (Nat.le_trans (unhide HI).1.room (by simp)) ?_; intro A' c' w2 ho hc2 hv; have HQ := hide (And.intro ho hc2); clear ho hc2 hv)
      go_roundw
      case rel =>
        refine ⟨k + 1, A', c', by omega, by go_num, rfl, hide ⟨(unhide HI).1.step ((Ext.refl _).alloc _) (unhide HQ).2 (by rw [unhide HS, List.map_append]; exact (unhide HQ).1), (unhide HI).1.blk ((Ext.refl _).alloc _) (unhide HQ).2 (unhide HI).2 (by omega)⟩⟩
      case measure => simp [intOf]; omega
    · obtain rfl : k = 32 := by omega
      go_wp2
      go_ret
      have h := (unhide HI).1
      rw [List.take_of_length_le (by rw [(unhide HA).2]; omega)] at h
      exact ⟨_, _, rfl, own_less h.own (by omega), h.ext, Nat.le_refl _, h.ext.size'⟩
set_option maxRecDepth 100000 in
set_option maxHeartbeats 1000000 in
theorem rshort_any (l : List UInt8) (w : World) (hl : l.length = 32) :
    Calls Tryd.prog 146 #[.agg (l.map u8v).toArray] w fun e w' => e = .returned (.agg ((l.take 16).map u8v).toArray) ∧ Ext w w' := by
  obtain ⟨arr, harr⟩ : ∃ r, (l.map u8v).toArray = r := ⟨_, rfl⟩
  have HA := hide (And.intro harr hl)
  rw [harr]
  clear harr hl
  go_enter Tryd.func146, Tryd.ntmps146
  go_wp2
  go_loopw [4] (fun i wr => ∃ k : Nat, k ≤ 16 ∧ i = .int .i64 k ∧ Hid (Blk wr w.heap.size 91 arr ∧ Blk wr (w.heap.size + 1) 23 (bytesTo 16 []) ∧ Blk wr (w.heap.size + 1 + 1) 23 (bytesTo 16 (l.take k)) ∧ Ext w wr)) (fun i _ => 16 - (intOf i).toNat)
  case atStart => exact ⟨0, Nat.zero_le _, rfl, hide ⟨((Blk.new w _ _).alloc _).alloc _, (Blk.new' _ _ _ (by simp)).alloc _, Blk.new' _ _ _ (by simp), (((Ext.refl w).alloc _).alloc _).alloc _⟩⟩
  case round =>
    obtain ⟨k, hk, rfl, HI⟩ := hrel
    have hlk : (l.take k).length = k := by rw [List.length_take, (unhide HA).2]; omega
    by_cases hlt : k < 16
    · have hc : wr.cell? ⟨w.heap.size, k, none⟩ = some (.int .u8 ((l.getD k 0).toNat : Int)) := by
        rw [(unhide HI).1.cell, ← (unhide HA).1, List.getElem?_toArray, List.getElem?_map, List.getD_eq_getElem?_getD, List.getElem?_eq_getElem (by rw [(unhide HA).2]; omega)]
        rfl
      have HS := hide (show l.take (k + 1) = l.take k ++ [l.getD k 0] from by
        rw [take_step l k (by rw [(unhide HA).2]; omega), List.getD_eq_getElem?_getD, List.getElem?_eq_getElem (by rw [(unhide HA).2]; omega)]
        rfl)
      have hc2 : wr.cell? ⟨w.heap.size + 1 + 1, k, none⟩ = some (.int .u8 0) := by
        rw [(unhide HI).2.2.1.cell]
        exact bytesTo_zero_at (by omega) hlt
      have hf := (unhide HI).2.2.1.frozen k
      generalize l.getD k 0 = x at *
      have b1 : (k : Int) < 32 := by omega
      have b2 : (k : Int) < 16 := by omega
      have HL := hide hlk
      clear hlk
      go_wp2
      go_roundw
      case rel =>
        obtain ⟨q1, q2, q3, q4⟩ := unhide HI
        have h1 := q3.set_ k (.int .u8 (x.toNat : Int))
        rw [bytesTo_set _ (unhide HL) hlt, ← unhide HS] at h1
        exact ⟨k + 1, by omega, by go_num, hide ⟨q1.far' (by omega) _ _, q2.far' (by omega) _ _, h1, q4.setCell (by simp; omega) _⟩⟩
      case measure => simp [intOf]; omega
    · obtain rfl : k = 16 := by omega
      obtain ⟨res, hres⟩ : ∃ r, ((l.take 16).map u8v).toArray = r := ⟨_, rfl⟩
      have HR := hide (show bytesTo 16 (l.take 16) = res from by rw [bytesTo_all hlk, hres])
      have HS := hide (show res.size = 16 ∧ res.all (·.oneCell') = true from by rw [← hres]; exact ⟨by simpa using hlk, bytes_one _⟩)
      have HRE := hide hres
      clear hres
      rw [unhide HR] at HI
      clear hlk
      go_wp2_with (first
        | (refine wpList_loadB (ty := 23) (t := 23) (x := .tmp 3) rfl rfl digest_wide rfl (unhide HI).2.2.1 (unhide HS).1 ?_)
        | (refine wpList_storeB (ty := 23) (t := 23) (x := .tmp 2) (y := .tmp 15) rfl rfl digest_wide rfl rfl (unhide HI).2.1 (bytesTo_size (by simp)) (unhide HS).1 (unhide HS).2 ?_; intro w2 hb2 hc2 hz2; have H2 := hide (And.intro hb2 hc2); clear hb2 hc2 hz2))
      refine bodyPost_ret (v := .agg res) (results_blk digest_wide rfl (unhide H2).1 (unhide HS).1 rfl) rfl ⟨by rw [unhide HRE], ?_⟩
      exact (unhide HI).2.2.2.trans' (unhide H2).2 (fun _ _ h => h) (fun i hi e => by omega)
end Go.Proofs.YtoefmncdloffaaaDoor


namespace Go.Proofs.YtoefmncdloffaaaDoor
open Go.RowKit
def hexFirst : ByteArray := { data := #[54, 97, 48, 57, 101, 54, 54, 55, 98, 98, 54, 55, 97, 101, 56, 53, 51, 99, 54, 101, 102, 51, 55, 50, 97, 53, 52, 102, 102, 53, 51, 97, 53, 49, 48, 101, 53, 50, 55, 102, 57, 98, 48, 53, 54, 56, 56, 99, 49, 102, 56, 51, 100, 57, 97, 98, 53, 98, 101, 48, 99, 100, 49, 57] }
def hexConsts : ByteArray := { data := ((([52, 50, 56, 97, 50, 102, 57, 56, 55, 49, 51, 55, 52, 52, 57, 49, 98, 53, 99, 48, 102, 98, 99, 102, 101, 57, 98, 53, 100, 98, 97, 53, 51, 57, 53, 54, 99, 50, 53, 98, 53, 57, 102, 49, 49, 49, 102, 49, 57, 50, 51, 102, 56, 50, 97, 52, 97, 98, 49, 99, 53, 101, 100, 53].append [100, 56, 48, 55, 97, 97, 57, 56, 49, 50, 56, 51, 53, 98, 48, 49, 50, 52, 51, 49, 56, 53, 98, 101, 53, 53, 48, 99, 55, 100, 99, 51, 55, 50, 98, 101, 53, 100, 55, 52, 56, 48, 100, 101, 98, 49, 102, 101, 57, 98, 100, 99, 48, 54, 97, 55, 99, 49, 57, 98, 102, 49, 55, 52]).append ([101, 52, 57, 98, 54, 57, 99, 49, 101, 102, 98, 101, 52, 55, 56, 54, 48, 102, 99, 49, 57, 100, 99, 54, 50, 52, 48, 99, 97, 49, 99, 99, 50, 100, 101, 57, 50, 99, 54, 102, 52, 97, 55, 52, 56, 52, 97, 97, 53, 99, 98, 48, 97, 57, 100, 99, 55, 54, 102, 57, 56, 56, 100, 97].append [57, 56, 51, 101, 53, 49, 53, 50, 97, 56, 51, 49, 99, 54, 54, 100, 98, 48, 48, 51, 50, 55, 99, 56, 98, 102, 53, 57, 55, 102, 99, 55, 99, 54, 101, 48, 48, 98, 102, 51, 100, 53, 97, 55, 57, 49, 52, 55, 48, 54, 99, 97, 54, 51, 53, 49, 49, 52, 50, 57, 50, 57, 54, 55])).append (([50, 55, 98, 55, 48, 97, 56, 53, 50, 101, 49, 98, 50, 49, 51, 56, 52, 100, 50, 99, 54, 100, 102, 99, 53, 51, 51, 56, 48, 100, 49, 51, 54, 53, 48, 97, 55, 51, 53, 52, 55, 54, 54, 97, 48, 97, 98, 98, 56, 49, 99, 50, 99, 57, 50, 101, 57, 50, 55, 50, 50, 99, 56, 53].append [97, 50, 98, 102, 101, 56, 97, 49, 97, 56, 49, 97, 54, 54, 52, 98, 99, 50, 52, 98, 56, 98, 55, 48, 99, 55, 54, 99, 53, 49, 97, 51, 100, 49, 57, 50, 101, 56, 49, 57, 100, 54, 57, 57, 48, 54, 50, 52, 102, 52, 48, 101, 51, 53, 56, 53, 49, 48, 54, 97, 97, 48, 55, 48]).append ([49, 57, 97, 52, 99, 49, 49, 54, 49, 101, 51, 55, 54, 99, 48, 56, 50, 55, 52, 56, 55, 55, 52, 99, 51, 52, 98, 48, 98, 99, 98, 53, 51, 57, 49, 99, 48, 99, 98, 51, 52, 101, 100, 56, 97, 97, 52, 97, 53, 98, 57, 99, 99, 97, 52, 102, 54, 56, 50, 101, 54, 102, 102, 51].append [55, 52, 56, 102, 56, 50, 101, 101, 55, 56, 97, 53, 54, 51, 54, 102, 56, 52, 99, 56, 55, 56, 49, 52, 56, 99, 99, 55, 48, 50, 48, 56, 57, 48, 98, 101, 102, 102, 102, 97, 97, 52, 53, 48, 54, 99, 101, 98, 98, 101, 102, 57, 97, 51, 102, 55, 99, 54, 55, 49, 55, 56, 102, 50]))).toArray }
theorem hex_first : (List.range 8).map (hexWord hexFirst.data.toList) = shaH0 := by decide +kernel
theorem hex_consts : (List.range 64).map (hexWord hexConsts.data.toList) = shaK := by decide +kernel
theorem first_any (w : World) : Calls Tryd.prog 165 #[.string hexFirst, .int .i64 8] w fun e w' => ∃ A c, e = .returned (.slice A 8 c) ∧ Reads w' 1 (.slice A 8 c) 8 (shaH0.map w32) ∧ Ext w w' := by
  refine (words_any hexFirst 8 8 rfl w (by decide +kernel) (by decide +kernel)).mono ?_
  rintro e w' ⟨A, c, rfl, ho, hE⟩
  rw [hex_first] at ho
  exact ⟨A, c, rfl, Reads.of_own ho, hE⟩
theorem consts_any (w : World) : Calls Tryd.prog 165 #[.string hexConsts, .int .i64 64] w fun e w' => ∃ A c, e = .returned (.slice A 64 c) ∧ Reads w' 1 (.slice A 64 c) 64 (shaK.map w32) ∧ Ext w w' := by
  refine (words_any hexConsts 64 64 rfl w (by decide +kernel) (by decide +kernel)).mono ?_
  rintro e w' ⟨A, c, rfl, ho, hE⟩
  rw [hex_consts] at ho
  exact ⟨A, c, rfl, Reads.of_own ho, hE⟩
theorem own_empty' (w : World) (B : Nat) (e : TypeId) (size : Nat) {g : Nat} (hg : g = w.heap.size) (hb : B ≤ w.heap.size) : (w.alloc (.cells #[] e)).ownsRow B e size (.slice (some ⟨g, 0, none⟩) 0 0) 0 [] := by subst hg; exact own_empty w B e size hb
theorem gb_first {w w1 : World} {l : List UInt8} {A1 : Option Addr} {c1 : Nat} {zs : Array Value} {T : TypeId} (ho : w1.ownsRow (w.heap.size + 1) 5 1 (.slice A1 (0 + l.length) c1) (0 + l.length) ([] ++ l.map u8v))
    (hc : Chg (fun k => (Value.slice (some ⟨w.heap.size + 1, 0, none⟩) 0 0).ownBlock = some k) ((w.alloc (.cells zs T)).alloc (.cells #[] 5)) w1) :
    GB w (w.heap.size + 1) (.slice A1 l.length c1) l.length l w1 ∧ Blk w1 w.heap.size T zs := by
  rw [Nat.zero_add, List.nil_append] at ho
  refine ⟨⟨ho, (((Ext.refl w).alloc _).alloc _).trans' hc (fun _ _ h => h) (fun i hi e => ?_), by omega, ?_⟩, Blk.chg ((Blk.new w _ _).alloc _) hc ?_⟩
  · simp [Value.ownBlock] at e; omega
  · have := hc.size; simp at this; omega
  · simp [Value.ownBlock]
def zerosFor (n : Nat) : Nat := (119 - n % 64) % 64
def rpad (l : List UInt8) (k : Nat) : List UInt8 := l ++ [128] ++ List.replicate k 0
theorem rpad_own {w : World} {B : Nat} {v : Value} {n : Nat} {l : List UInt8} (h : w.ownsRow B 5 1 v n (l.map u8v ++ [.int .u8 128])) : w.ownsRow B 5 1 v n ((rpad l 0).map u8v) := by
  unfold rpad; rw [List.replicate_zero, List.append_nil, List.map_append]; exact h
theorem rpad_step (l : List UInt8) (k : Nat) : rpad l (k + 1) = rpad l k ++ [0] := by unfold rpad; rw [List.replicate_succ', List.append_assoc, List.append_assoc, List.append_assoc]
theorem rpad_end (l : List UInt8) : rpad l (zerosFor l.length) ++ beBytes (8 * l.length) 8 = shaPad l := rfl
theorem flat4_get (st : List UInt32) : ∀ (q r : Nat), q < st.length → r < 4 → (st.flatMap fun w => beBytes w.toNat 4)[4 * q + r]? = some (UInt8.ofNat ((st.getD q 0).toNat / 256 ^ (3 - r))) := by
  induction st with
  | nil => intro q r h; simp at h
  | cons x l ih =>
    intro q r hq hr
    rw [List.flatMap_cons]
    cases q with
    | zero =>
      rw [Nat.mul_zero, Nat.zero_add, List.getElem?_append_left (by rw [beBytes_length]; exact hr), beBytes_get _ _ _ hr]
      rfl
    | succ q =>
      rw [List.getElem?_append_right (by rw [beBytes_length]; omega), beBytes_length, show 4 * (q + 1) + r - 4 = 4 * q + r from by omega, ih q r (by simpa using hq) hr]
      rfl
theorem flat4_step (st : List UInt32) (q r : Nat) (hq : q < st.length) (hr : r < 4) : (st.flatMap fun w => beBytes w.toNat 4).take (4 * q + r + 1) = (st.flatMap fun w => beBytes w.toNat 4).take (4 * q + r) ++ [UInt8.ofNat ((st.getD q 0).toNat / 256 ^ (3 - r))] := by
  rw [List.take_add_one, flat4_get st q r hq hr]
  rfl
set_option maxRecDepth 100000 in
set_option maxHeartbeats 4000000 in
theorem rsum_any (l : List UInt8) (v : Value) (w : World) (hr : Reads w 1 v l.length (l.map u8v)) (hl : l.length ≤ 100000000) :
    Calls Tryd.prog 147 #[v] w fun e w' => e = .returned (.agg ((sha l).map u8v).toArray) ∧ Ext w w' := by
  have HR := hide hr
  obtain ⟨A, c, rfl⟩ : ∃ A c, v = .slice A l.length c := by obtain ⟨_, A, c, h, _⟩ := hr; exact ⟨A, c, h⟩
  clear hr
  go_enter Tryd.func147, Tryd.ntmps147
  go_wp2_with (first
    | (at_builtin; refine wpList_app (s := .tmp 11) (x := .tmp 12) rfl rfl u8_row rfl (own_empty' _ (w.heap.size + 1) _ _ (by simp) (by simp)) rfl ((unhide HR).ext (((Ext.refl w).alloc _).alloc _)) (AllOne.u8 l) (by omega) (by simp) ?_; intro A1 c1 w1 ho hc hv; have H0 := hide (And.intro ho hc); clear ho hc hv
       have H1 := hide (gb_first (unhide H0).1 (unhide H0).2)
       clear H0)
    | (at_builtin; refine wpList_app (s := .tmp 13) (x := .tmp 14) rfl rfl u8_row rfl (ownsRow_ext (unhide H1).1.own ((Ext.refl _).alloc _)) rfl (Reads.new1 _ _ _) (AllOne.one rfl) (by omega) (Nat.le_trans (unhide H1).1.room (by simp)) ?_; intro A2 c2 w2 ho hc hv; have H0 := hide (And.intro ho hc); clear ho hc hv
       have H2 := hide (And.intro (GB.step (l' := rpad l 0) (unhide H1).1 ((Ext.refl _).alloc _) (unhide H0).2 (rpad_own (unhide H0).1)) ((unhide H1).1.blk ((Ext.refl _).alloc _) (unhide H0).2 (unhide H1).2 (Nat.lt_succ_self _)))
       clear H0))
  clear H1
  go_loopw [3] (fun b wr => ∃ (k : Nat) (A : Option Addr) (c : Nat), k ≤ zerosFor l.length ∧ b = .slice A (l.length + 1 + k) c ∧ Hid (GB w (w.heap.size + 1) (.slice A (l.length + 1 + k) c) (l.length + 1 + k) (rpad l k) wr ∧ Blk wr w.heap.size 91 (bytesTo 32 []))) (fun b _ => match b with | .slice _ n _ => l.length + 1 + zerosFor l.length - n | _ => 0)
  case atStart => exact ⟨0, _, _, Nat.zero_le _, rfl, H2⟩
  case round =>
    clear H2
    obtain ⟨k, A1, c1, hk, rfl, HI⟩ := hrel
    by_cases hlt : k < zerosFor l.length
    · have ht2 : ((((l.length + 1 + k : Nat) : Int) % 64) == 56) = false := by unfold zerosFor at hlt; simp; omega
      have hkb : k < 64 := by unfold zerosFor at hlt; omega
      go_wp2_with (at_builtin; refine wpList_app rfl rfl u8_row rfl (ownsRow_ext (unhide HI).1.own ((Ext.refl _).alloc _)) rfl (Reads.new1 _ _ _) (AllOne.one rfl) (by omega) (Nat.le_trans (unhide HI).1.room (by simp)) ?_; intro A' c' w3 ho hc hv; have HQ := hide (And.intro ho hc); clear ho hc hv)
      go_roundw
      case rel =>
        refine ⟨k + 1, A', c', hlt, rfl, hide ⟨GB.step (unhide HI).1 ((Ext.refl _).alloc _) (unhide HQ).2 ?_, (unhide HI).1.blk ((Ext.refl _).alloc _) (unhide HQ).2 (unhide HI).2 (Nat.lt_succ_self _)⟩⟩
        rw [rpad_step, List.map_append]
        exact (unhide HQ).1
      case measure => simp; omega
    · obtain rfl : k = zerosFor l.length := by omega
      have ht2 : ((((l.length + 1 + zerosFor l.length : Nat) : Int) % 64) == 56) = true := by unfold zerosFor; simp; omega
      have ht3 : (((l.length : Int) + 1 + (zerosFor l.length : Int)) % 64 != 56) = false := by unfold zerosFor; simp; omega
      have hkb : zerosFor l.length < 64 := by unfold zerosFor; omega
      have HN := hide (show (l.length + 1 + zerosFor l.length) % 64 = 56 from by unfold zerosFor; omega)
      clear hlt hk
      go_wp2
      clear ht2 ht3
      obtain ⟨w4, rfl⟩ : ∃ w4 : World, w4 = wr := ⟨_, rfl⟩
      have HP := hide (rpad_end l)
      have hn0 : l.length + 1 + zerosFor l.length ≤ 100000100 := by omega
      generalize rpad l (zerosFor l.length) = pl at *
      generalize l.length + 1 + zerosFor l.length = n0 at *
      go_loopw [3, 5] (fun b i wr => ∃ (k : Nat) (A : Option Addr) (c : Nat), k ≤ 8 ∧ i = .int .i64 ((k : Int) - 1) ∧ b = .slice A (n0 + (8 - k)) c ∧ Hid (GB w (w.heap.size + 1) (.slice A (n0 + (8 - k)) c) (n0 + (8 - k)) (pl ++ (beBytes (8 * l.length) 8).take (8 - k)) wr ∧ Blk wr w.heap.size 91 (bytesTo 32 []))) (fun _ i _ => (intOf i + 1).toNat)
      case atStart => exact ⟨8, _, _, Nat.le_refl _, rfl, rfl, by rw [Nat.sub_self, List.take_zero, List.append_nil]; exact HI⟩
      case round =>
        clear HI
        obtain ⟨k, A2, c2, hk, rfl, rfl, HI⟩ := hrel
        by_cases hk0 : 0 < k
        · have e0 : (0 : Int) ≤ (k : Int) - 1 := by omega
          have e1 : IntKind.i64.wrap (8 * ((k : Int) - 1)) = ((8 * (k - 1) : Nat) : Int) := by rw [IntWalk.i64_in _ (by omega)]; omega
          have hb := byte_of (8 * l.length) (k - 1)
          have hcast : ((8 * l.length : Nat) : Int) = 8 * (l.length : Int) := by omega
          rw [hcast] at hb
          clear hcast
          have HX := hide (beBytes_step (8 * l.length) 8 k hk0 hk)
          generalize UInt8.ofNat (8 * l.length / 256 ^ (k - 1)) = z at *
          go_wp2_with (at_builtin; refine wpList_app rfl rfl u8_row rfl (ownsRow_ext (unhide HI).1.own ((Ext.refl _).alloc _)) rfl (Reads.new1 _ _ _) (AllOne.one rfl) (by omega) (Nat.le_trans (unhide HI).1.room (by simp)) ?_; intro A' c' w3 ho hc hv; have HQ := hide (And.intro ho hc); clear ho hc hv)
          go_roundw
          case rel =>
            refine ⟨k - 1, A', c', by omega, by go_num, by rw [show n0 + (8 - (k - 1)) = n0 + (8 - k) + 1 from by omega], hide ⟨?_, (unhide HI).1.blk ((Ext.refl _).alloc _) (unhide HQ).2 (unhide HI).2 (Nat.lt_succ_self _)⟩⟩
            rw [show n0 + (8 - (k - 1)) = n0 + (8 - k) + 1 from by omega]
            refine GB.step (unhide HI).1 ((Ext.refl _).alloc _) (unhide HQ).2 ?_
            rw [unhide HX, ← List.append_assoc, List.map_append]
            exact (unhide HQ).1
          case measure => simp [intOf]; omega
        · obtain rfl : k = 0 := by omega
          clear hk0 hk
          have HJ := hide (show GB w (w.heap.size + 1) (.slice A2 (n0 + 8) c2) (n0 + 8) (shaPad l) wr ∧ Blk wr w.heap.size 91 (bytesTo 32 []) from by
            have := unhide HI
            rw [Nat.sub_zero, List.take_of_length_le (by rw [beBytes_length]; exact Nat.le_refl _), unhide HP] at this
            exact this)
          obtain ⟨w5, rfl⟩ : ∃ w5 : World, w5 = wr := ⟨_, rfl⟩
          clear HI
          have z1 : ((0 : Nat) : Int) - 1 = -1 := rfl
          have z2 : n0 + (8 - 0) = n0 + 8 := rfl
          rw [z1, z2]
          clear z1 z2
          go_wp2_with fail
          refine (first_any _).mono ?_
          rintro e w6 ⟨A6, c6, rfl, hr6, hE6⟩
          have H6 := hide (And.intro hr6 hE6)
          clear hr6 hE6
          go_wp2_with fail
          refine (consts_any _).mono ?_
          rintro e w7 ⟨A7, c7, rfl, hr7, hE7⟩
          have H7 := hide (And.intro hr7 hE7)
          clear hr7 hE7
          go_wp2
          obtain ⟨m, hm⟩ : ∃ m, n0 + 8 = 64 * m := ⟨(n0 + 8) / 64, by have := unhide HN; omega⟩
          have HLN := hide (unhide HJ).1.len
          have HB7 := hide (show Reads w7 1 (.slice A2 (n0 + 8) c2) (n0 + 8) ((shaPad l).map u8v) ∧ Blk w7 w.heap.size 91 (bytesTo 32 []) ∧ Ext w w7 ∧ Reads w7 1 (.slice A6 8 c6) 8 (shaH0.map w32) ∧ Reads w7 1 (.slice A7 64 c7) 64 (shaK.map w32) from
            ⟨(unhide HJ).1.reads.ext ((unhide H6).2.trans (unhide H7).2), (unhide HJ).2.ext ((unhide H6).2.trans (unhide H7).2), (unhide HJ).1.ext.trans ((unhide H6).2.trans (unhide H7).2), (unhide H6).1.ext (unhide H7).2, (unhide H7).1⟩)
          obtain ⟨g2, o2, c2', hA2, hc2, hc2m, _, _⟩ := (unhide HB7).1.sub 0 64 (by omega) (by omega)
          cases hA2
          clear HJ H6 H7
          unfold maxLen at hc2m
          have HM := hide hm
          have hm1 : n0 + 8 ≤ 64 * m := by omega
          have hm2 : 64 * m ≤ n0 + 8 := by omega
          clear hm
          go_loopw [6, 8] (fun v i wr => ∃ (j : Nat) (A : Option Addr) (c : Nat), j ≤ m ∧ i = .int .i64 ((64 * j : Nat) : Int) ∧ v = .slice A 8 c ∧ Hid (Reads wr 1 (.slice A 8 c) 8 ((shaFold (shaPad l) (List.range j) shaH0).map w32) ∧ Ext w7 wr)) (fun _ i _ => 64 * m - (intOf i).toNat)
          case atStart => exact ⟨0, A6, c6, Nat.zero_le _, rfl, rfl, hide ⟨(unhide HB7).2.2.2.1, Ext.refl _⟩⟩
          case round =>
            obtain ⟨j, A8, c8, hj, rfl, rfl, HI⟩ := hrel
            by_cases hlt : j < m
            · have hb1 : 64 * j + 64 ≤ n0 + 8 := by omega
              have d1 : decide (64 * j < n0 + 8) = true := decide_eq_true (by omega)
              have HX := hide (show shaFold (shaPad l) (List.range (j + 1)) shaH0 = shaBlock (shaFold (shaPad l) (List.range j) shaH0) (((shaPad l).drop (64 * j)).take 64) from by unfold shaFold; rw [List.range_succ, List.foldl_append]; rfl)
              have HL8 := hide (shaFold_length (shaPad l) (List.range j) shaH0 rfl)
              have HBL := hide (show (((shaPad l).drop (64 * j)).take 64).length = 64 from by have := unhide HLN; simp; omega)
              have HBR := hide (show Reads wr 1 (.slice (some ⟨g2, o2 + 64 * j, none⟩) 64 (c2 - 64 * j)) 64 ((((shaPad l).drop (64 * j)).take 64).map u8v) from by
                obtain ⟨b, o, c, e, _, _, _, h⟩ := ((unhide HB7).1.ext (unhide HI).2).sub (64 * j) 64 (by omega) (by omega)
                cases e
                rw [List.map_take, List.map_drop]
                exact h)
              go_wp2_with fail
              refine (rcompress_any _ _ _ _ _ _ (unhide HL8) (unhide HBL) (unhide HI).1 (unhide HBR) ((unhide HB7).2.2.2.2.ext (unhide HI).2)).mono ?_
              rintro e w8 ⟨A9, rfl, hr9, hE9⟩
              have H9 := hide (And.intro hr9 hE9)
              clear hr9 hE9
              have q64 : IntKind.i64.wrap (64 * (j : Int) + 64) = ((64 * (j + 1) : Nat) : Int) := by rw [IntWalk.i64_in _ (by omega)]; omega
              go_wp2
              go_roundw
              case rel =>
                refine ⟨j + 1, A9, 8, hlt, by go_num, rfl, hide ⟨?_, (unhide HI).2.trans (unhide H9).2⟩⟩
                rw [unhide HX]
                exact (unhide H9).1
              case measure => simp [intOf]; omega
            · obtain rfl : j = m := by omega
              have d1 : decide (64 * j < n0 + 8) = false := decide_eq_false (by omega)
              clear hlt hj
              have HSH := hide (show (shaFold (shaPad l) (List.range j) shaH0).flatMap (fun w => beBytes w.toNat 4) = sha l from by
                rw [shaFold_blocks]
                unfold sha
                rw [unhide HLN, unhide HM, Nat.mul_div_cancel_left _ (by omega)])
              have HL8 := hide (shaFold_length (shaPad l) (List.range j) shaH0 rfl)
              generalize shaFold (shaPad l) (List.range j) shaH0 = st at *
              obtain ⟨w9, rfl⟩ : ∃ w9 : World, w9 = wr := ⟨_, rfl⟩
              obtain ⟨g8, o8, c8', hA8, hc8, hc8m, hg8, _⟩ := (unhide HI).1.sub 0 8 (by omega) (by omega)
              cases hA8
              go_wp2_with (refine wpList_storeB (ty := 91) (t := 91) (x := .tmp 9) (y := .tmp 55) rfl rfl arr32_wide rfl rfl (Blk.new w9 _ _) rfl rfl (by rw [← Array.all_toList]; rfl) ?_; intro w10 hb10 hc10 hz10; have H10 := hide (And.intro hb10 (And.intro hc10 hz10)); clear hb10 hc10 hz10)
              clear d1
              have H11 := hide (show Blk w10 w9.heap.size 91 (bytesTo 32 []) ∧ Blk w10 w.heap.size 91 (bytesTo 32 []) ∧ Ext w w10 ∧ Reads w10 1 (.slice (some ⟨g8, o8, none⟩) 8 c8) 8 (st.map w32) ∧ w.heap.size < w9.heap.size from by
                have hlt := ((unhide HB7).2.1.ext (unhide HI).2).lt
                have hE : Ext w9 w10 := ((Ext.refl w9).alloc _).trans' (unhide H10).2.1 (fun _ _ h => h) (fun i hi e => by omega)
                exact ⟨(unhide H10).1, ((unhide HB7).2.1.ext (unhide HI).2).ext hE, ((unhide HB7).2.2.1.trans (unhide HI).2).trans hE, (unhide HI).1.ext hE, hlt⟩)
              have HSL := hide (sha_length l)
              clear H10 HI
              go_loopw [10] (fun i wr => ∃ k : Nat, k ≤ 32 ∧ i = .int .i64 k ∧ Hid (Blk wr w9.heap.size 91 (bytesTo 32 ((sha l).take k)) ∧ Blk wr w.heap.size 91 (bytesTo 32 []) ∧ Ext w wr ∧ Reads wr 1 (.slice (some ⟨g8, o8, none⟩) 8 c8) 8 (st.map w32))) (fun i _ => 32 - (intOf i).toNat)
              case atStart => exact ⟨0, Nat.zero_le _, rfl, hide ⟨(unhide H11).1, (unhide H11).2.1, (unhide H11).2.2.1, (unhide H11).2.2.2.1⟩⟩
              case round =>
                obtain ⟨k, hk, rfl, HI⟩ := hrel
                by_cases hlt : k < 32
                · obtain ⟨q, r, rfl, hr4⟩ : ∃ q r, k = 4 * q + r ∧ r < 4 := ⟨k / 4, k % 4, by omega, by omega⟩
                  have hc1 := (unhide HI).2.2.2.wordAt (j := q) (by rw [unhide HL8]; omega)
                  have hc2 : wr.cell? ⟨w9.heap.size, 4 * q + r, none⟩ = some (.int .u8 0) := by
                    rw [(unhide HI).1.cell]
                    exact bytesTo_zero_at (by rw [List.length_take, unhide HSL]; omega) hlt
                  have hf := (unhide HI).1.frozen (4 * q + r)
                  have HX := hide (show (sha l).take (4 * q + r + 1) = (sha l).take (4 * q + r) ++ [UInt8.ofNat ((st.getD q 0).toNat / 256 ^ (3 - r))] from by
                    rw [← unhide HSH]
                    exact flat4_step st q r (by rw [unhide HL8]; omega) hr4)
                  have HBY := hide (byte_of (st.getD q 0).toNat (3 - r))
                  generalize st.getD q 0 = x at *
                  have hx := x.toNat_lt
                  have hq : q < 8 := by omega
                  have e1 : (4 * (q : Int) + (r : Int)) / 4 = (q : Int) := by omega
                  have e2 : (4 * (q : Int) + (r : Int)) % 4 = (r : Int) := by omega
                  have e3 : 24 - 8 * (r : Int) = ((8 * (3 - r) : Nat) : Int) := by omega
                  go_wp2
                  go_roundw
                  case rel =>
                    obtain ⟨q1, q2, q3, q4⟩ := unhide HI
                    have h1 := q1.set_ (4 * q + r) (.int .u8 ((UInt8.ofNat (x.toNat / 256 ^ (3 - r))).toNat : Int))
                    rw [bytesTo_set _ (by rw [List.length_take, unhide HSL]; omega) hlt, ← unhide HX] at h1
                    refine ⟨4 * q + r + 1, by omega, by go_num, hide ?_⟩
                    rw [unhide HBY]
                    have hlw := (unhide H11).2.2.2.2
                    refine ⟨h1, q2.far' (by omega) _ _, q3.setCell (by simp; omega) _, q4.chg (Chg.setCell (S := fun k => k = w9.heap.size) (Chg.refl _ _) (.inl rfl) _) (fun k _ hk e => by simp [Value.ownBlock] at hk; omega)⟩
                  case measure => simp [intOf]; omega
                · obtain rfl : k = 32 := by omega
                  obtain ⟨res, hres⟩ : ∃ r, ((sha l).map u8v).toArray = r := ⟨_, rfl⟩
                  have HR2 := hide (show bytesTo 32 ((sha l).take 32) = res from by rw [List.take_of_length_le (by rw [unhide HSL]; omega), bytesTo_all (unhide HSL), hres])
                  have HS := hide (show res.size = 32 ∧ res.all (·.oneCell') = true from by rw [← hres]; exact ⟨by simpa using unhide HSL, bytes_one _⟩)
                  have HRE := hide hres
                  clear hres
                  rw [unhide HR2] at HI
                  go_wp2_with (first
                    | (refine wpList_loadB (ty := 91) (t := 91) (x := .tmp 9) rfl rfl arr32_wide rfl (unhide HI).1 (unhide HS).1 ?_)
                    | (refine wpList_storeB (ty := 91) (t := 91) (x := .tmp 2) (y := .tmp 73) rfl rfl arr32_wide rfl rfl (unhide HI).2.1 (bytesTo_size (by simp)) (unhide HS).1 (unhide HS).2 ?_; intro w12 hb12 hc12 hz12; have H12 := hide (And.intro hb12 hc12); clear hb12 hc12 hz12))
                  refine bodyPost_ret (v := .agg res) (results_blk arr32_wide rfl (unhide H12).1 (unhide HS).1 rfl) rfl ⟨by rw [unhide HRE], ?_⟩
                  exact (unhide HI).2.2.1.trans' (unhide H12).2 (fun _ _ h => h) (fun i hi e => by omega)
end Go.Proofs.YtoefmncdloffaaaDoor


namespace Go.Proofs.YtoefmncdloffaaaDoor
open Go.RowKit
theorem GB.readsL {w0 wr : World} {B n : Nat} {v : Value} {l : List UInt8} (h : GB w0 B v n l wr) : Reads wr 1 v l.length (l.map u8v) := by rw [h.len]; exact h.reads
structure G2 (w0 : World) (B : Nat) (v1 : Value) (n1 : Nat) (l1 : List UInt8) (v2 : Value) (n2 : Nat) (l2 : List UInt8) (wr : World) : Prop where
  one : GB w0 B v1 n1 l1 wr
  two : GB w0 B v2 n2 l2 wr
  far : ∀ g, v1.ownBlock = some g → v2.ownBlock ≠ some g
theorem G2.swap {w0 wr : World} {B n1 n2 : Nat} {v1 v2 : Value} {l1 l2 : List UInt8} (h : G2 w0 B v1 n1 l1 v2 n2 l2 wr) : G2 w0 B v2 n2 l2 v1 n1 l1 wr := ⟨h.two, h.one, fun g h2 h1 => h.far g h1 h2⟩
theorem G2.to {w0 wr w1 : World} {B n1 n2 : Nat} {v1 v2 : Value} {l1 l2 : List UInt8} (h : G2 w0 B v1 n1 l1 v2 n2 l2 wr) (hE : Ext wr w1) : G2 w0 B v1 n1 l1 v2 n2 l2 w1 := ⟨h.one.to hE, h.two.to hE, h.far⟩
theorem G2.step {w0 wr w1 w2 : World} {B n1 n2 n' : Nat} {v1 v2 v' : Value} {l1 l2 l' : List UInt8} (h : G2 w0 B v1 n1 l1 v2 n2 l2 wr) (hE : Ext wr w1) (hc : Chg (fun k => v1.ownBlock = some k) w1 w2) (ho : w2.ownsRow B 5 1 v' n' (l'.map u8v))
    (hv : v'.ownBlock = v1.ownBlock ∨ ∃ g, v'.ownBlock = some g ∧ w1.heap.size ≤ g ∧ g < w2.heap.size) : G2 w0 B v' n' l' v2 n2 l2 w2 := by
  have h2 := h.two.to hE
  refine ⟨h.one.step hE hc ho, ⟨ownsRow_chg h2.own hc (fun k hk e => h.far k e hk), ((h.one.step hE hc ho).ext), h2.base, Nat.le_trans h2.room hc.size⟩, fun g hg hg2 => ?_⟩
  rcases hv with hv | ⟨g', hv, hge, _⟩
  · exact h.far g (hv ▸ hg) hg2
  · rw [hv] at hg
    cases hg
    have := (h2.own.lt _ hg2).2
    omega
theorem G2.blk {w0 wr w1 w2 : World} {B n1 n2 : Nat} {v1 v2 : Value} {l1 l2 : List UInt8} (h : G2 w0 B v1 n1 l1 v2 n2 l2 wr) (hE : Ext wr w1) (hc : Chg (fun k => v1.ownBlock = some k) w1 w2) {g : Nat} {t : TypeId} {cs : Array Value} (hb : Blk wr g t cs) (hg : g < B) : Blk w2 g t cs := h.one.blk hE hc hb hg
def padTake (key : List UInt8) (x : UInt8) (k : Nat) : List UInt8 := (List.range k).map fun i => key.getD i 0 ^^^ x
theorem padTake_step (key : List UInt8) (x : UInt8) (k : Nat) : padTake key x (k + 1) = padTake key x k ++ [key.getD k 0 ^^^ x] := by unfold padTake; rw [List.range_succ, List.map_append]; rfl
theorem padTake_end (key : List UInt8) (x : UInt8) : padTake key x 64 = padOf key x := rfl
theorem own_push {w : World} {B : Nat} {v : Value} {n : Nat} {l l' : List UInt8} {b : UInt8} (h : w.ownsRow B 5 1 v n (l.map u8v ++ [.int .u8 (b.toNat : Int)])) (e : l' = l ++ [b]) : w.ownsRow B 5 1 v n (l'.map u8v) := by
  rw [e, List.map_append]; exact h
theorem own_cat {w : World} {B : Nat} {v : Value} {n : Nat} {l m : List UInt8} (h : w.ownsRow B 5 1 v n (l.map u8v ++ m.map u8v)) : w.ownsRow B 5 1 v n ((l ++ m).map u8v) := by
  rw [List.map_append]; exact h
set_option maxRecDepth 100000 in
set_option maxHeartbeats 4000000 in
theorem rhmac_any (key b : List UInt8) (kv bv : Value) (w : World) (hk : Reads w 1 kv key.length (key.map u8v)) (hb : Reads w 1 bv b.length (b.map u8v)) (hkl : key.length ≤ 1000000) (hbl : b.length ≤ 1000000) :
    Calls Tryd.prog 148 #[kv, bv] w fun e w' => e = .returned (.agg ((hmac key b).map u8v).toArray) ∧ Ext w w' := by
  have HB := hide hb
  obtain ⟨A, c, rfl⟩ : ∃ A c, kv = .slice A key.length c := by obtain ⟨_, A, c, h, _⟩ := hk; exact ⟨A, c, h⟩
  obtain ⟨Ab, cb, rfl⟩ : ∃ A c, bv = .slice A b.length c := by obtain ⟨_, A, c, h, _⟩ := hb; exact ⟨A, c, h⟩
  have HK0 := hide hk
  clear hk hb
  rw [hmac_eq]
  by_cases hlen : key.length > 64
  · have d64 : decide ((64 : Int) < (key.length : Int)) = true := decide_eq_true (by omega)
    rw [if_pos hlen]
    go_enter Tryd.func148, Tryd.ntmps148
    go_wp2_with (first
      | (go_at_call 147; refine (rsum_any key _ _ ((unhide HK0).ext ((Ext.refl w).alloc _)) (by omega)).mono ?_; rintro e w1 ⟨rfl, hE1⟩; have H1 := hide hE1; clear hE1)
      | (go_at_call 164; refine (rall_any (sha key) _ (sha_length key)).mono ?_; rintro e w2 ⟨A0, c0, rfl, h2⟩; have H2 := hide h2; clear h2))
    have HK := hide (show Reads w2 1 (.slice A0 32 c0) 32 ((sha key).map u8v) ∧ Ext w w2 ∧ Blk w2 w.heap.size 91 (bytesTo 32 []) from
      ⟨(unhide H2).reads, (((Ext.refl w).alloc _).trans (unhide H1)).trans (unhide H2).ext, (Blk.new w _ _).ext ((unhide H1).trans (unhide H2).ext)⟩)
    clear H1 H2
    obtain ⟨kk, hkk⟩ : ∃ kk, kk = sha key := ⟨_, rfl⟩
    rw [← hkk] at HK
    have hkl : kk.length = 32 := by rw [hkk, sha_length]
    have HKK := hide hkk
    have HKN := hide hkl
    clear hkk hkl
    obtain ⟨wk, rfl⟩ : ∃ wk : World, wk = w2 := ⟨_, rfl⟩
    have TK1 := hide True.intro
    go_loopw [5, 6, 7] (fun a b i wr => ∃ (k : Nat) (A1 : Option Addr) (c1 : Nat) (A2 : Option Addr) (c2 : Nat), k ≤ 64 ∧ i = .int .i64 k ∧ a = .slice A1 k c1 ∧ b = .slice A2 k c2 ∧ Hid (G2 wk wk.heap.size (.slice A1 k c1) k (padTake kk 54 k) (.slice A2 k c2) k (padTake kk 92 k) wr ∧ Blk wr w.heap.size 91 (bytesTo 32 []))) (fun _ _ i _ => 64 - (intOf i).toNat)
    case atStart => exact ⟨0, none, 0, none, 0, Nat.zero_le _, rfl, rfl, rfl, hide ⟨⟨GB.nil (Ext.refl _) (Nat.le_refl _) (Nat.le_refl _), GB.nil (Ext.refl _) (Nat.le_refl _) (Nat.le_refl _), fun g h => by simp [Value.ownBlock] at h⟩, (unhide HK).2.2⟩⟩
    case round =>
      obtain ⟨k, A1, c1, A2, c2, hk, rfl, rfl, rfl, HI⟩ := hrel
      by_cases hlt : k < 64
      · have HS1 := hide (padTake_step kk 54 k)
        have HS2 := hide (padTake_step kk 92 k)
        have HX1 := hide (fun b : UInt8 => xor8 b 54)
        have HX2 := hide (fun b : UInt8 => xor8 b 92)
        have hcell : k < 32 → ∃ b o, A0 = some ⟨b, o, none⟩ ∧ wr.cell? ⟨b, o + k, none⟩ = some (.int .u8 ((kk.getD k 0).toNat : Int)) := fun h => by
          obtain ⟨b, o, c, u, e, _, _, _, _, _⟩ := ((unhide HK).1.ext (unhide HI).1.one.ext).at1 h
          cases e
          exact ⟨b, o, rfl, ((unhide HK).1.ext (unhide HI).1.one.ext).byteAt (by first | exact h | (rw [unhide HKN]; exact h))⟩
        have HCL := hide hcell
        clear hcell
        go_upto_if 22 with fail
        go_cut [8] (fun s wx => ∃ x : UInt8, s = .int .u8 (x.toNat : Int) ∧ Hid (x = kk.getD k 0 ∧ Ext wr wx ∧ G2 wk wk.heap.size (.slice A1 k c1) k (padTake kk 54 k) (.slice A2 k c2) k (padTake kk 92 k) wx ∧ Blk wx w.heap.size 91 (bytesTo 32 [])))
        case first =>
          by_cases hin : k < 32
          · obtain ⟨g, o, rfl, hc⟩ := unhide HCL hin
            have hin2 : decide (k < 32) = true := decide_eq_true hin
            have hin3 : (k : Int) < 32 := by omega
            have hin4 : decide ((k : Int) < 32) = true := decide_eq_true hin3
            generalize hx : kk.getD k 0 = x at *
            have HX := hide hx
            clear hx
            go_wp2_with fail
            go_meet
            exact ⟨x, rfl, hide ⟨rfl, Ext.refl _, (unhide HI).1, (unhide HI).2⟩⟩
          · have hin2 : decide (k < 32) = false := decide_eq_false hin
            have hin4 : decide ((k : Int) < 32) = false := decide_eq_false (by omega)
            have HX := hide (show (0 : UInt8) = kk.getD k 0 from by rw [List.getD_eq_getElem?_getD, List.getElem?_eq_none (by first | omega | (rw [unhide HKN]; omega))]; rfl)
            go_wp2_with fail
            go_meet
            exact ⟨0, rfl, hide ⟨unhide HX, Ext.refl _, (unhide HI).1, (unhide HI).2⟩⟩
        case rest =>
          obtain ⟨x, rfl, HX⟩ := hcut
          obtain ⟨wx, rfl⟩ : ∃ wx : World, wx = wc := ⟨_, rfl⟩
          have hx1 : bits BinOp.xor IntKind.u8 (x.toNat : Int) 54 = ((x ^^^ 54).toNat : Int) := xor8 x 54
          have hx2 : bits BinOp.xor IntKind.u8 (x.toNat : Int) 92 = ((x ^^^ 92).toNat : Int) := xor8 x 92
          rw [← (unhide HX).1] at HS1 HS2
          go_wp2_with (first
            | (at_builtin; refine wpList_app (s := .tmp 27) (x := .tmp 30) rfl rfl u8_row rfl (ownsRow_ext (unhide HX).2.2.1.one.own ((Ext.refl _).alloc _)) rfl (Reads.new1 _ _ _) (AllOne.one rfl) (by omega) (Nat.le_trans (unhide HX).2.2.1.one.room (by simp)) ?_; intro A3 c3 w3 ho hc hv; have H0 := hide (And.intro ho (And.intro hc hv)); clear ho hc hv
               have H3 := hide (And.intro (G2.step (unhide HX).2.2.1 ((Ext.refl _).alloc _) (unhide H0).2.1 (own_push (unhide H0).1 (unhide HS1)) (unhide H0).2.2) ((unhide HX).2.2.1.blk ((Ext.refl _).alloc _) (unhide H0).2.1 (unhide HX).2.2.2 (unhide HK).2.2.lt))
               clear H0)
            | (at_builtin; refine wpList_app (s := .tmp 32) (x := .tmp 35) rfl rfl u8_row rfl (ownsRow_ext (unhide H3).1.two.own ((Ext.refl _).alloc _)) rfl (Reads.new1 _ _ _) (AllOne.one rfl) (by omega) (Nat.le_trans (unhide H3).1.two.room (by simp)) ?_; intro A4 c4 w4 ho hc hv; have H0 := hide (And.intro ho (And.intro hc hv)); clear ho hc hv
               have H4 := hide (And.intro (G2.step (unhide H3).1.swap ((Ext.refl _).alloc _) (unhide H0).2.1 (own_push (unhide H0).1 (unhide HS2)) (unhide H0).2.2) ((unhide H3).1.swap.blk ((Ext.refl _).alloc _) (unhide H0).2.1 (unhide H3).2 (unhide HK).2.2.lt))
               clear H0))
          go_roundw
          case rel => exact ⟨k + 1, A3, c3, A4, c4, hlt, by go_num, rfl, rfl, hide ⟨(unhide H4).1.swap, (unhide H4).2⟩⟩
          case measure => simp [intOf]; omega
      · obtain rfl : k = 64 := by omega
        rw [padTake_end, padTake_end] at HI
        have HPL := hide (And.intro (padOf_length kk 54) (padOf_length kk 92))
        obtain ⟨p1, hp1⟩ : ∃ p, padOf kk 54 = p := ⟨_, rfl⟩
        obtain ⟨p2, hp2⟩ : ∃ p, padOf kk 92 = p := ⟨_, rfl⟩
        rw [hp1, hp2] at HPL HI
        have HPE := hide (And.intro hp1 hp2)
        clear hp1 hp2
        go_wp2_with (first
          | (at_builtin; refine wpList_app (s := .tmp 37) (x := .tmp 38) rfl rfl u8_row rfl (unhide HI).1.one.own rfl ((unhide HB).ext ((unhide HK).2.1.trans (unhide HI).1.one.ext)) (AllOne.u8 b) (by omega) (unhide HI).1.one.room ?_; intro A5 c5 w5 ho hc hv; have H0 := hide (And.intro ho (And.intro hc hv)); clear ho hc hv
             have H5 := hide (And.intro (G2.step (unhide HI).1 (Ext.refl _) (unhide H0).2.1 (own_cat (unhide H0).1) (unhide H0).2.2) ((unhide HI).1.blk (Ext.refl _) (unhide H0).2.1 (unhide HI).2 (unhide HK).2.2.lt))
             clear H0)
          | (have HT1 := unhide TK1; go_at_call 147; clear TK1 HT1; refine (rsum_any (p1 ++ b) _ _ (unhide H5).1.one.readsL (by rw [(unhide H5).1.one.len]; omega)).mono ?_; rintro e w6 ⟨rfl, hE6⟩; have H6 := hide (And.intro ((unhide H5).1.to hE6) ((unhide H5).2.ext hE6)); clear hE6)
          | (go_at_call 164; refine (rall_any (sha (p1 ++ b)) _ (sha_length _)).mono ?_; rintro e w7 ⟨A7, c7, rfl, h7⟩; have H7 := hide (And.intro h7 (And.intro ((unhide H6).1.to h7.ext) ((unhide H6).2.ext h7.ext))); clear h7)
          | (at_builtin; refine wpList_app (s := .tmp 40) (x := .tmp 43) rfl rfl u8_row rfl (unhide H7).2.1.two.own rfl (unhide H7).1.reads (AllOne.u8 _) (by omega) (unhide H7).2.1.two.room ?_; intro A8 c8 w8 ho hc hv; have H0 := hide (And.intro ho (And.intro hc hv)); clear ho hc hv
             have H8 := hide (And.intro (G2.step (unhide H7).2.1.swap (Ext.refl _) (unhide H0).2.1 (own_cat (unhide H0).1) (unhide H0).2.2) ((unhide H7).2.1.swap.blk (Ext.refl _) (unhide H0).2.1 (unhide H7).2.2 (unhide HK).2.2.lt))
             clear H0))
        refine (rsum_any (p2 ++ sha (p1 ++ b)) _ _ (unhide H8).1.one.readsL (by rw [(unhide H8).1.one.len]; omega)).mono ?_
        rintro e w9 ⟨rfl, hE9⟩
        have H9 := hide (And.intro ((unhide HK).2.1.trans ((unhide H8).1.one.ext.trans hE9)) ((unhide H8).2.ext hE9))
        clear hE9
        have HSZ := hide (sha_length (p2 ++ sha (p1 ++ b)))
        go_wp2_with (refine wpList_storeB (ty := 91) (t := 91) (x := .tmp 4) (y := .tmp 46) rfl rfl arr32_wide rfl rfl (unhide H9).2 (bytesTo_size (by simp)) (by simpa using unhide HSZ) (bytes_one _) ?_; intro w10 hb10 hc10 hz10; have H10 := hide (And.intro hb10 hc10); clear hb10 hc10 hz10)
        refine bodyPost_ret (v := .agg ((sha (p2 ++ sha (p1 ++ b))).map u8v).toArray) (results_blk arr32_wide rfl (unhide H10).1 (by simpa using unhide HSZ) rfl) rfl ⟨(by rw [← (unhide HPE).1, ← (unhide HPE).2, unhide HKK]), ?_⟩
        exact (unhide H9).1.trans' (unhide H10).2 (fun _ _ h => h) (fun i hi e => by omega)
  · have d64 : decide ((64 : Int) < (key.length : Int)) = false := decide_eq_false (by omega)
    rw [if_neg hlen]
    go_enter Tryd.func148, Tryd.ntmps148
    obtain ⟨kk, rfl⟩ : ∃ kk, kk = key := ⟨_, rfl⟩
    obtain ⟨A0, rfl⟩ : ∃ a, a = A := ⟨_, rfl⟩
    have HKN := hide (show kk.length = kk.length from rfl)
    go_wp2
    have HK := hide (show Reads (w.alloc (.cells (Array.replicate 32 (.int .u8 0)) 91)) 1 (.slice A0 kk.length c) kk.length (kk.map u8v) ∧ Ext w (w.alloc (.cells (Array.replicate 32 (.int .u8 0)) 91)) ∧ Blk (w.alloc (.cells (Array.replicate 32 (.int .u8 0)) 91)) w.heap.size 91 (bytesTo 32 []) from
      ⟨(unhide HK0).ext ((Ext.refl w).alloc _), (Ext.refl w).alloc _, by rw [bytesTo_nil]; exact Blk.new w _ _⟩)
    change Code.wp _ _ _ _ (w.alloc (.cells (Array.replicate 32 (.int .u8 0)) 91))
    generalize w.alloc (.cells (Array.replicate 32 (.int .u8 0)) 91) = wk at *
    have TK1 := hide True.intro
    go_loopw [5, 6, 7] (fun a b i wr => ∃ (k : Nat) (A1 : Option Addr) (c1 : Nat) (A2 : Option Addr) (c2 : Nat), k ≤ 64 ∧ i = .int .i64 k ∧ a = .slice A1 k c1 ∧ b = .slice A2 k c2 ∧ Hid (G2 wk wk.heap.size (.slice A1 k c1) k (padTake kk 54 k) (.slice A2 k c2) k (padTake kk 92 k) wr ∧ Blk wr w.heap.size 91 (bytesTo 32 []))) (fun _ _ i _ => 64 - (intOf i).toNat)
    case atStart => exact ⟨0, none, 0, none, 0, Nat.zero_le _, rfl, rfl, rfl, hide ⟨⟨GB.nil (Ext.refl _) (Nat.le_refl _) (Nat.le_refl _), GB.nil (Ext.refl _) (Nat.le_refl _) (Nat.le_refl _), fun g h => by simp [Value.ownBlock] at h⟩, (unhide HK).2.2⟩⟩
    case round =>
      obtain ⟨k, A1, c1, A2, c2, hk, rfl, rfl, rfl, HI⟩ := hrel
      by_cases hlt : k < 64
      · have HS1 := hide (padTake_step kk 54 k)
        have HS2 := hide (padTake_step kk 92 k)
        have HX1 := hide (fun b : UInt8 => xor8 b 54)
        have HX2 := hide (fun b : UInt8 => xor8 b 92)
        have hcell : k < kk.length → ∃ b o, A0 = some ⟨b, o, none⟩ ∧ wr.cell? ⟨b, o + k, none⟩ = some (.int .u8 ((kk.getD k 0).toNat : Int)) := fun h => by
          obtain ⟨b, o, c, u, e, _, _, _, _, _⟩ := ((unhide HK).1.ext (unhide HI).1.one.ext).at1 h
          cases e
          exact ⟨b, o, rfl, ((unhide HK).1.ext (unhide HI).1.one.ext).byteAt (by first | exact h | (rw [unhide HKN]; exact h))⟩
        have HCL := hide hcell
        clear hcell
        go_upto_if 22 with fail
        go_cut [8] (fun s wx => ∃ x : UInt8, s = .int .u8 (x.toNat : Int) ∧ Hid (x = kk.getD k 0 ∧ Ext wr wx ∧ G2 wk wk.heap.size (.slice A1 k c1) k (padTake kk 54 k) (.slice A2 k c2) k (padTake kk 92 k) wx ∧ Blk wx w.heap.size 91 (bytesTo 32 [])))
        case first =>
          by_cases hin : k < kk.length
          · obtain ⟨g, o, rfl, hc⟩ := unhide HCL hin
            have hin2 : decide (k < kk.length) = true := decide_eq_true hin
            have hin3 : (k : Int) < (kk.length : Int) := by omega
            have hin4 : decide ((k : Int) < (kk.length : Int)) = true := decide_eq_true hin3
            generalize hx : kk.getD k 0 = x at *
            have HX := hide hx
            clear hx
            go_wp2_with fail
            go_meet
            exact ⟨x, rfl, hide ⟨rfl, Ext.refl _, (unhide HI).1, (unhide HI).2⟩⟩
          · have hin2 : decide (k < kk.length) = false := decide_eq_false hin
            have hin4 : decide ((k : Int) < (kk.length : Int)) = false := decide_eq_false (by omega)
            have HX := hide (show (0 : UInt8) = kk.getD k 0 from by rw [List.getD_eq_getElem?_getD, List.getElem?_eq_none (by first | omega | (rw [unhide HKN]; omega))]; rfl)
            go_wp2_with fail
            go_meet
            exact ⟨0, rfl, hide ⟨unhide HX, Ext.refl _, (unhide HI).1, (unhide HI).2⟩⟩
        case rest =>
          obtain ⟨x, rfl, HX⟩ := hcut
          obtain ⟨wx, rfl⟩ : ∃ wx : World, wx = wc := ⟨_, rfl⟩
          have hx1 : bits BinOp.xor IntKind.u8 (x.toNat : Int) 54 = ((x ^^^ 54).toNat : Int) := xor8 x 54
          have hx2 : bits BinOp.xor IntKind.u8 (x.toNat : Int) 92 = ((x ^^^ 92).toNat : Int) := xor8 x 92
          rw [← (unhide HX).1] at HS1 HS2
          go_wp2_with (first
            | (at_builtin; refine wpList_app (s := .tmp 27) (x := .tmp 30) rfl rfl u8_row rfl (ownsRow_ext (unhide HX).2.2.1.one.own ((Ext.refl _).alloc _)) rfl (Reads.new1 _ _ _) (AllOne.one rfl) (by omega) (Nat.le_trans (unhide HX).2.2.1.one.room (by simp)) ?_; intro A3 c3 w3 ho hc hv; have H0 := hide (And.intro ho (And.intro hc hv)); clear ho hc hv
               have H3 := hide (And.intro (G2.step (unhide HX).2.2.1 ((Ext.refl _).alloc _) (unhide H0).2.1 (own_push (unhide H0).1 (unhide HS1)) (unhide H0).2.2) ((unhide HX).2.2.1.blk ((Ext.refl _).alloc _) (unhide H0).2.1 (unhide HX).2.2.2 (unhide HK).2.2.lt))
               clear H0)
            | (at_builtin; refine wpList_app (s := .tmp 32) (x := .tmp 35) rfl rfl u8_row rfl (ownsRow_ext (unhide H3).1.two.own ((Ext.refl _).alloc _)) rfl (Reads.new1 _ _ _) (AllOne.one rfl) (by omega) (Nat.le_trans (unhide H3).1.two.room (by simp)) ?_; intro A4 c4 w4 ho hc hv; have H0 := hide (And.intro ho (And.intro hc hv)); clear ho hc hv
               have H4 := hide (And.intro (G2.step (unhide H3).1.swap ((Ext.refl _).alloc _) (unhide H0).2.1 (own_push (unhide H0).1 (unhide HS2)) (unhide H0).2.2) ((unhide H3).1.swap.blk ((Ext.refl _).alloc _) (unhide H0).2.1 (unhide H3).2 (unhide HK).2.2.lt))
               clear H0))
          go_roundw
          case rel => exact ⟨k + 1, A3, c3, A4, c4, hlt, by go_num, rfl, rfl, hide ⟨(unhide H4).1.swap, (unhide H4).2⟩⟩
          case measure => simp [intOf]; omega
      · obtain rfl : k = 64 := by omega
        rw [padTake_end, padTake_end] at HI
        have HPL := hide (And.intro (padOf_length kk 54) (padOf_length kk 92))
        obtain ⟨p1, hp1⟩ : ∃ p, padOf kk 54 = p := ⟨_, rfl⟩
        obtain ⟨p2, hp2⟩ : ∃ p, padOf kk 92 = p := ⟨_, rfl⟩
        rw [hp1, hp2] at HPL HI
        have HPE := hide (And.intro hp1 hp2)
        clear hp1 hp2
        go_wp2_with (first
          | (at_builtin; refine wpList_app (s := .tmp 37) (x := .tmp 38) rfl rfl u8_row rfl (unhide HI).1.one.own rfl ((unhide HB).ext ((unhide HK).2.1.trans (unhide HI).1.one.ext)) (AllOne.u8 b) (by omega) (unhide HI).1.one.room ?_; intro A5 c5 w5 ho hc hv; have H0 := hide (And.intro ho (And.intro hc hv)); clear ho hc hv
             have H5 := hide (And.intro (G2.step (unhide HI).1 (Ext.refl _) (unhide H0).2.1 (own_cat (unhide H0).1) (unhide H0).2.2) ((unhide HI).1.blk (Ext.refl _) (unhide H0).2.1 (unhide HI).2 (unhide HK).2.2.lt))
             clear H0)
          | (have HT1 := unhide TK1; go_at_call 147; clear TK1 HT1; refine (rsum_any (p1 ++ b) _ _ (unhide H5).1.one.readsL (by rw [(unhide H5).1.one.len]; omega)).mono ?_; rintro e w6 ⟨rfl, hE6⟩; have H6 := hide (And.intro ((unhide H5).1.to hE6) ((unhide H5).2.ext hE6)); clear hE6)
          | (go_at_call 164; refine (rall_any (sha (p1 ++ b)) _ (sha_length _)).mono ?_; rintro e w7 ⟨A7, c7, rfl, h7⟩; have H7 := hide (And.intro h7 (And.intro ((unhide H6).1.to h7.ext) ((unhide H6).2.ext h7.ext))); clear h7)
          | (at_builtin; refine wpList_app (s := .tmp 40) (x := .tmp 43) rfl rfl u8_row rfl (unhide H7).2.1.two.own rfl (unhide H7).1.reads (AllOne.u8 _) (by omega) (unhide H7).2.1.two.room ?_; intro A8 c8 w8 ho hc hv; have H0 := hide (And.intro ho (And.intro hc hv)); clear ho hc hv
             have H8 := hide (And.intro (G2.step (unhide H7).2.1.swap (Ext.refl _) (unhide H0).2.1 (own_cat (unhide H0).1) (unhide H0).2.2) ((unhide H7).2.1.swap.blk (Ext.refl _) (unhide H0).2.1 (unhide H7).2.2 (unhide HK).2.2.lt))
             clear H0))
        refine (rsum_any (p2 ++ sha (p1 ++ b)) _ _ (unhide H8).1.one.readsL (by rw [(unhide H8).1.one.len]; omega)).mono ?_
        rintro e w9 ⟨rfl, hE9⟩
        have H9 := hide (And.intro ((unhide HK).2.1.trans ((unhide H8).1.one.ext.trans hE9)) ((unhide H8).2.ext hE9))
        clear hE9
        have HSZ := hide (sha_length (p2 ++ sha (p1 ++ b)))
        go_wp2_with (refine wpList_storeB (ty := 91) (t := 91) (x := .tmp 4) (y := .tmp 46) rfl rfl arr32_wide rfl rfl (unhide H9).2 (bytesTo_size (by simp)) (by simpa using unhide HSZ) (bytes_one _) ?_; intro w10 hb10 hc10 hz10; have H10 := hide (And.intro hb10 hc10); clear hb10 hc10 hz10)
        refine bodyPost_ret (v := .agg ((sha (p2 ++ sha (p1 ++ b))).map u8v).toArray) (results_blk arr32_wide rfl (unhide H10).1 (by simpa using unhide HSZ) rfl) rfl ⟨(by rw [(unhide HPE).1, (unhide HPE).2]), ?_⟩
        exact (unhide H9).1.trans' (unhide H10).2 (fun _ _ h => h) (fun i hi e => by omega)
end Go.Proofs.YtoefmncdloffaaaDoor


namespace Go.Proofs.YtoefmncdloffaaaDoor
open Go.RowKit
theorem own_one (w : World) (B : Nat) (e : TypeId) (x : Value) (hB : B ≤ w.heap.size) : (w.alloc (.cells #[x] e)).ownsRow B e 1 (.slice (some ⟨w.heap.size, 0, none⟩) 1 1) 1 [x] :=
  ⟨by simp, .inr ⟨w.heap.size, 1, #[x], rfl, hB, heap_alloc_new w _, Nat.le_refl _, by unfold maxLen; omega, rfl, rfl⟩⟩
theorem own_one' (w : World) (B : Nat) (e : TypeId) (x : Value) {g : Nat} (hg : g = w.heap.size) (hB : B ≤ w.heap.size) : (w.alloc (.cells #[x] e)).ownsRow B e 1 (.slice (some ⟨g, 0, none⟩) 1 1) 1 [x] := by subst hg; exact own_one w B e x hB
set_option maxRecDepth 100000 in
set_option maxHeartbeats 1000000 in
theorem join_any (v : Value) (l : List UInt8) (pv : Value) (ps : List (List UInt8)) (B : Nat) (w : World) (h : w.ownsRow B 5 1 v l.length (l.map u8v)) (hB : B ≤ w.heap.size) (hp : Parts w pv ps)
    (hl : l.length ≤ 1000000) (hps : ps.length ≤ 1000) (hpl : ∀ p ∈ ps, p.length ≤ 1000000) (hS : ∀ X, Chg (fun k => v.ownBlock = some k) w X → Parts X pv ps) :
    Calls Tryd.prog 51 #[v, pv] w fun e w' => ∃ A c, e = .returned (.slice A (l ++ encs ps).length c) ∧ w'.ownsRow B 5 1 (.slice A (l ++ encs ps).length c) (l ++ encs ps).length ((l ++ encs ps).map u8v) ∧ Onto w v w' (.slice A (l ++ encs ps).length c) := by
  have H0 := hide h
  have HP := hide hp
  have HS := hide hS
  have HPL := hide hpl
  obtain ⟨A1, c1, rfl⟩ : ∃ A c, pv = .slice A ps.length c := by obtain ⟨vs, _, ⟨_, A, c, h, _⟩, _⟩ := hp; exact ⟨A, c, h⟩
  obtain ⟨A0, c0, rfl⟩ := own_slice h
  clear h hp hS hpl
  go_enter Tryd.func51, Tryd.ntmps51
  go_wp2
  go_loopw [0, 9] (fun b i wr => ∃ (k n : Nat) (A : Option Addr) (c : Nat), k ≤ ps.length ∧ i = .int .i64 k ∧ b = .slice A n c ∧ n ≤ 1000000 + k * 1000010 ∧ Hid (n = (l ++ encs (ps.take k)).length ∧ wr.ownsRow B 5 1 (.slice A n c) n ((l ++ encs (ps.take k)).map u8v) ∧ Onto w (.slice A0 l.length c0) wr (.slice A n c))) (fun _ i _ => ps.length - (intOf i).toNat)
  case atStart => exact ⟨0, l.length, A0, c0, Nat.zero_le _, rfl, rfl, by omega, hide ⟨by simp [encs], by simpa [encs] using unhide H0, Onto.refl _ _⟩⟩
  case round =>
    obtain ⟨k, n, A, c, hk, rfl, rfl, hn, HI⟩ := hrel
    by_cases hlt : k < ps.length
    · have hpw : Parts wr (.slice A1 ps.length c1) ps := unhide HS wr (unhide HI).2.2.chg
      obtain ⟨vs, q1, q2, q3⟩ := hpw
      obtain ⟨u, q4, q5⟩ := q3 k ps[k] (List.getElem?_eq_getElem hlt)
      obtain ⟨b, o, c', u', hv, _, _, hb, hu, hcc⟩ := q2.at1 hlt
      cases hv
      rw [q4] at hu
      cases hu
      obtain ⟨Au, cu, rfl⟩ : ∃ A c, u = .slice A ps[k].length c := by obtain ⟨_, A, c, h, _⟩ := q5; exact ⟨A, c, h⟩
      have hpk := unhide HPL ps[k] (List.getElem_mem hlt)
      have HQ5 := hide q5
      have HE := hide (encs_step ps k hlt)
      clear q1 q2 q3 q4 q5
      have hwl := wBytes_length ps[k]
      generalize ps[k] = p at *
      have HW := hide (fun w => wbytes_any (strOf p) w (by rw [strOf_size]; omega))
      rw [strOf_list] at HW
      go_wp2_with (first
        | (refine wpList_strOf (src := 29) (dst := 9) (x := .tmp 14) (l := p) rfl rfl Tryd.underlying29 Tryd.underlying5 Tryd.underlying9 rfl (unhide HQ5) ?_)
        | (go_at_call 18; refine (unhide HW _).mono ?_; rintro e w3 ⟨A3, c3, rfl, ho3, hE3⟩; have H3 := hide (And.intro ho3 hE3); clear ho3 hE3)
        | (at_builtin; refine wpList_app rfl rfl u8_row rfl (ownsRow_ext (unhide HI).2.1 (unhide H3).2) rfl (Reads.of_own (unhide H3).1) (AllOne.u8 _) (by omega) (Nat.le_trans hB (Nat.le_trans (unhide HI).2.2.chg.size (unhide H3).2.size')) ?_; intro A' c4 w4 ho hc hv; have H4 := hide (And.intro ho (((unhide HI).2.2.ext (unhide H3).2).trans (Onto.app hc hv))); clear ho hc hv))
      go_roundw
      case rel =>
        refine ⟨k + 1, n + (wBytes p).length, A', c4, by omega, by go_num, rfl, by rw [Nat.succ_mul]; omega, hide ⟨?_, ?_, (unhide H4).2⟩⟩
        · rw [unhide HE, ← List.append_assoc, List.length_append, ← (unhide HI).1]
        · rw [unhide HE, ← List.append_assoc, List.map_append]
          exact (unhide H4).1
      case measure => simp [intOf]; omega
    · obtain rfl : k = ps.length := by omega
      go_wp2
      go_ret
      obtain ⟨h1, h2, h3⟩ := unhide HI
      rw [List.take_length] at h1 h2
      subst h1
      exact ⟨A, c, rfl, h2, h3⟩
def tagByte (t : Int) : UInt8 := UInt8.ofNat (t % 256).toNat
theorem tag_wrap (t : Int) : t % 256 = ((tagByte t).toNat : Int) := by
  unfold tagByte; simp; omega
def digestS (tag : Int) (ps : List (List UInt8)) : List UInt8 := (sha ([tagByte tag] ++ encs ps)).take 16
def deriveS (key label : List UInt8) (ps : List (List UInt8)) : List UInt8 := mac key (wBytes label ++ encs ps)
theorem digestS_length (tag : Int) (ps : List (List UInt8)) : (digestS tag ps).length = 16 := by unfold digestS; rw [List.length_take, sha_length]; omega
theorem deriveS_length (key label : List UInt8) (ps : List (List UInt8)) : (deriveS key label ps).length = 16 := mac_length _ _
theorem digest_short (tag : Int) (ps : List (List UInt8)) (w : World) : Calls Tryd.prog 52 #[.agg ((sha ([tagByte tag] ++ encs ps)).map u8v).toArray] w fun e w' => e = .returned (.agg ((digestS tag ps).map u8v).toArray) ∧ Ext w w' := short_any _ _ (sha_length _)
set_option maxHeartbeats 1000000 in
theorem digest_any (tag : Int) (ps : List (List UInt8)) (pv : Value) (w : World) (hM : ShaMem w) (hp : Parts w pv ps) (hps : ps.length ≤ 1000) (hpl : ∀ p ∈ ps, p.length ≤ 10000) :
    Calls Tryd.prog 101 #[.int .i64 tag, pv] w fun e w' => e = .returned (.agg ((digestS tag ps).map u8v).toArray) ∧ Ext w w' := by
  have HM := hide hM
  have HP := hide hp
  have HPL := hide hpl
  have HT := hide (tag_wrap tag)
  have HB := hide (encs_bound ps 10000 hpl)
  clear hM hp hpl
  go_enter Tryd.func101, Tryd.ntmps101
  go_wp2_with fail
  rw [unhide HT]
  refine (join_any _ [tagByte tag] _ ps (w.heap.size + 1) _ ?h1 ?h2 ?h3 (by simp) hps ?h4 ?h5).mono ?_
  case h1 => exact own_one' _ _ _ _ (by simp) (by simp)
  case h2 => simp
  case h3 => exact (unhide HP).ext (((Ext.refl w).alloc _).alloc _)
  case h4 => intro p hp; have := unhide HPL p hp; omega
  case h5 =>
    intro X hX
    refine (unhide HP).ext ((((Ext.refl w).alloc _).alloc _).trans' hX (fun _ _ h => h) (fun i hi e => ?_))
    simp [Value.ownBlock] at e
    omega
  rintro e w1 ⟨A, c, rfl, ho, hO⟩
  have hE : Ext w w1 := (((Ext.refl w).alloc _).alloc _).trans' hO.chg (fun _ _ h => h) (fun i hi e => by simp [Value.ownBlock] at e; omega)
  have hB : Blk w1 w.heap.size 23 (Array.replicate 16 (.int .u8 0)) := ((Blk.new w 23 (Array.replicate 16 (.int .u8 0))).alloc _).chg hO.chg (by intro e; simp [Value.ownBlock] at e)
  have H1 := hide (And.intro ho (And.intro hE hB))
  clear ho hO hE hB
  go_wp2_with fail
  refine (sum_any ([tagByte tag] ++ encs ps) _ _ ((unhide HM).ext (unhide H1).2.1) ?hr ?hl).mono ?_
  case hr => have := Reads.of_own (unhide H1).1; first | exact this | (rw [List.length_append] at this; rw [List.length_append]; exact this) | (simp only [List.length_append, List.length_cons, List.length_nil] at this ⊢; exact this)
  case hl =>
    have := unhide HB
    have h2 : ps.length * (10000 + 10) ≤ 1000 * (10000 + 10) := Nat.mul_le_mul_right _ hps
    simp
    omega
  rintro e w2 ⟨rfl, hE2⟩
  go_wp2_with fail
  refine (digest_short tag ps _).mono ?_
  rintro e w3 ⟨rfl, hE3⟩
  have H3 := hide (And.intro ((unhide H1).2.1.trans (hE2.trans hE3)) ((unhide H1).2.2.ext (hE2.trans hE3)))
  clear hE2 hE3
  go_wp2_with (refine wpList_storeB (ty := 23) (t := 23) (x := .tmp 4) (y := .tmp 11) rfl rfl digest_wide rfl rfl (unhide H3).2 (by simp) ?_ (bytes_one _) ?_; (focus (simpa using digestS_length tag ps)); intro w4 hb4 hc4 hz4; have H4 := hide (And.intro hb4 hc4); clear hb4 hc4 hz4)
  refine bodyPost_ret (v := .agg ((digestS tag ps).map u8v).toArray) (results_blk digest_wide rfl (unhide H4).1 (by simpa using digestS_length tag ps) rfl) rfl ⟨rfl, ?_⟩
  exact (unhide H3).1.trans' (unhide H4).2 (fun _ _ h => h) (fun i hi e => by omega)
set_option maxHeartbeats 1000000 in
theorem derive_any (key : List UInt8) (kv : Value) (label : ByteArray) (ps : List (List UInt8)) (pv : Value) (w : World) (hM : ShaMem w) (hk : Reads w 1 kv key.length (key.map u8v)) (hkl : key.length ≤ 10000) (hll : label.size ≤ 10000) (hp : Parts w pv ps) (hps : ps.length ≤ 90) (hpl : ∀ p ∈ ps, p.length ≤ 10000) :
    Calls Tryd.prog 15 #[kv, .string label, pv] w fun e w' => e = .returned (.agg ((deriveS key label.data.toList ps).map u8v).toArray) ∧ Ext w w' := by
  have HM := hide hM
  have HK := hide hk
  have HP := hide hp
  have HPL := hide hpl
  have HB := hide (encs_bound ps 10000 hpl)
  have HW := hide (fun w => wbytes_any label w (by omega))
  have HWL := hide (show (wBytes label.data.toList).length ≤ 10 + label.size from wBytes_length label.data.toList)
  clear hM hp hpl hk
  go_enter Tryd.func15, Tryd.ntmps15
  go_wp2_with fail
  refine (unhide HW _).mono ?_
  rintro e w1 ⟨A1, c1, rfl, ho1, hE1⟩
  have H1 := hide (And.intro ho1 hE1)
  clear ho1 hE1
  have hge : Hid (∀ k, (Value.slice A1 (wBytes label.data.toList).length c1).ownBlock = some k → w.heap.size + 1 ≤ k) := hide (fun k hk => by have := ((unhide H1).1.lt k hk).1; simp at this; omega)
  go_wp2_with fail
  refine (join_any _ (wBytes label.data.toList) _ ps (w.heap.size + 1) _ ?h1 ?h2 ?h3 ?h6 (by omega) ?h4 ?h5).mono ?_
  case h1 => have := (unhide H1).1; simp only [World.size_alloc] at this; exact this
  case h2 => have := (unhide H1).2.size'; simp at this; omega
  case h3 => exact (unhide HP).ext (((Ext.refl w).alloc _).trans (unhide H1).2)
  case h6 => have := unhide HWL; omega
  case h4 => intro p hp; have := unhide HPL p hp; omega
  case h5 =>
    intro X hX
    refine (unhide HP).ext ((((Ext.refl w).alloc _).trans (unhide H1).2).trans' hX (fun _ _ h => h) (fun i hi e => ?_))
    have := unhide hge i e
    omega
  rintro e w2 ⟨A, c, rfl, ho, hO⟩
  have hE : Ext w w2 := (((Ext.refl w).alloc _).trans (unhide H1).2).trans' hO.chg (fun _ _ h => h) (fun i hi e => by have := unhide hge i e; omega)
  have hB : Blk w2 w.heap.size 23 (Array.replicate 16 (.int .u8 0)) := ((Blk.new w 23 (Array.replicate 16 (.int .u8 0))).ext (unhide H1).2).chg hO.chg (by intro e; have := unhide hge _ e; omega)
  have H2 := hide (And.intro ho (And.intro hE hB))
  clear ho hO hE hB
  go_wp2_with fail
  refine (mac_any key (wBytes label.data.toList ++ encs ps) _ _ _ ((unhide HM).ext (unhide H2).2.1) ((unhide HK).ext (unhide H2).2.1) ?hr (by omega) ?hl).mono ?_
  case hr => have := Reads.of_own (unhide H2).1; rw [List.length_append] at this; rw [List.length_append]; exact this
  case hl =>
    have := unhide HB
    have := unhide HWL
    have h2 : ps.length * (10000 + 10) ≤ 90 * (10000 + 10) := Nat.mul_le_mul_right _ hps
    simp
    omega
  rintro e w3 ⟨rfl, hE3⟩
  have H3 := hide (And.intro ((unhide H2).2.1.trans hE3) ((unhide H2).2.2.ext hE3))
  clear hE3
  go_wp2_with (refine wpList_storeB (ty := 23) (t := 23) (x := .tmp 6) (y := .tmp 12) rfl rfl digest_wide rfl rfl (unhide H3).2 (by simp) ?_ (bytes_one _) ?_; (focus (first | (simpa using deriveS_length _ _ _) | (simpa using mac_length _ _))); intro w4 hb4 hc4 hz4; have H4 := hide (And.intro hb4 hc4); clear hb4 hc4 hz4)
  refine bodyPost_ret (v := .agg ((deriveS key label.data.toList ps).map u8v).toArray) (results_blk digest_wide rfl (unhide H4).1 (by simpa using deriveS_length _ _ _) rfl) rfl ⟨rfl, ?_⟩
  exact (unhide H3).1.trans' (unhide H4).2 (fun _ _ h => h) (fun i hi e => by omega)
end Go.Proofs.YtoefmncdloffaaaDoor
