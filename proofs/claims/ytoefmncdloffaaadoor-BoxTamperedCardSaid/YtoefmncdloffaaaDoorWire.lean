
/-
  wire.Int, wire.Bytes and the reference's Int, Bytes.
-/
import Derived.Test.YtoefmncdloffaaaDoorWireSpec
import Derived.Test.YtoefmncdloffaaaDoorShaC
import Derived.Outline
namespace Go.Proofs.YtoefmncdloffaaaDoor
open Go.RowKit

/-- Below 2 ^ 64. -/
def IsU64 (x : Nat) : Prop := x < 18446744073709551616
/-- What the loops over the groups of seven bits keep. -/
def WI (n : Int) (w : World) (x f m : Nat) (v : Value) (wr : World) : Prop :=
  ∃ pre : List UInt8, wInt n = pre ++ varint f x ∧ m = pre.length ∧ x < 128 ^ (f + 1) ∧ f ≤ 9 ∧ wr.ownsRow w.heap.size 5 1 v m (pre.map u8v) ∧ Ext w wr
theorem WI.small {n : Int} {w wr : World} {x f m : Nat} {v : Value} (h : WI n w x f m v wr) : m ≤ 10 := by
  obtain ⟨pre, h1, rfl, _⟩ := h
  have := wInt_length n
  rw [h1] at this
  simp at this
  omega
theorem WI.app {n : Int} {w wr w3 : World} {x f m : Nat} {A A' : Option Addr} {c c' : Nat} (h : WI n w x f m (.slice A m c) wr) (hx : ¬ x < 128)
    (ho : w3.ownsRow w.heap.size 5 1 (.slice A' (m + 1) c') (m + 1) ((h.choose).map u8v ++ [u8v (UInt8.ofNat (128 + x % 128))])) {o : Obj} (hc : Chg (fun k => (Value.slice A m c).ownBlock = some k) (wr.alloc o) w3) :
    ∃ g, WI n w (x / 128) g (m + 1) (.slice A' (m + 1) c') w3 := by
  obtain ⟨h1, h2, h3, h4, h5, h6⟩ := h.choose_spec
  generalize h.choose = pre at *
  cases f with
  | zero => simp at h3; omega
  | succ g =>
    rw [varint_big hx] at h1
    refine ⟨g, pre ++ [UInt8.ofNat (128 + x % 128)], by rw [h1]; simp, by simp [h2], ?_, by omega, by simpa using ho, (h6.alloc o).trans' hc (fun _ _ h => h) (fun i hi e => by have := h5.lt i e; omega)⟩
    rw [Nat.pow_succ] at h3
    exact Nat.div_lt_of_lt_mul (by rw [Nat.mul_comm]; exact h3)
theorem WI.last {n : Int} {w wr w3 : World} {x f m : Nat} {A A' : Option Addr} {c c' : Nat} (h : WI n w x f m (.slice A m c) wr) (hx : x < 128)
    (ho : w3.ownsRow w.heap.size 5 1 (.slice A' (m + 1) c') (m + 1) ((h.choose).map u8v ++ [u8v (UInt8.ofNat x)])) {o : Obj} (hc : Chg (fun k => (Value.slice A m c).ownBlock = some k) (wr.alloc o) w3) :
    m + 1 = (wInt n).length ∧ w3.ownsRow w.heap.size 5 1 (.slice A' (m + 1) c') (m + 1) ((wInt n).map u8v) ∧ Ext w w3 := by
  obtain ⟨h1, h2, h3, h4, h5, h6⟩ := h.choose_spec
  generalize h.choose = pre at *
  rw [varint_small hx] at h1
  refine ⟨by rw [h1]; simp [h2], by rw [h1]; simpa using ho, (h6.alloc o).trans' hc (fun _ _ h => h) (fun i hi e => by have := h5.lt i e; omega)⟩
theorem not64 (a : Nat) (h : a < 18446744073709551616) : bits BinOp.xor IntKind.u64 IntKind.u64.max (a : Int) = ((18446744073709551615 - a : Nat) : Int) := by
  have e := u64_xor IntKind.u64.max (a : Int) (by decide) (by decide) (by omega) (by omega)
  rw [e]
  have h1 : (UInt64.ofNat a).toNat = a := by simp; omega
  have h2 : (-1 ^^^ UInt64.ofNat a).toNat = 18446744073709551615 - a := by
    rw [UInt64.neg_one_xor, UInt64.toNat_not, h1]
    rfl
  rw [UInt64.toNat_xor, h1] at h2
  rw [← h2]
  rfl
theorem zig_pos (n : Int) (h0 : 0 ≤ n) (h2 : n < 9223372036854775808) : IntKind.u64.wrap (IntKind.u64.wrap n * 2) = (zig n : Int) := by
  rw [IntKind.wrap_u64, IntKind.wrap_u64]; unfold zig; rw [if_pos h0]; omega
theorem zig_neg (n : Int) (h0 : n < 0) (h1 : -9223372036854775808 ≤ n) : bits BinOp.xor IntKind.u64 IntKind.u64.max (IntKind.u64.wrap (IntKind.u64.wrap n * 2)) = (zig n : Int) := by
  have e : IntKind.u64.wrap (IntKind.u64.wrap n * 2) = ((2 * n + 18446744073709551616).toNat : Int) := by rw [IntKind.wrap_u64, IntKind.wrap_u64]; omega
  rw [e, not64 _ (by omega)]; unfold zig; rw [if_neg (by omega)]; omega
theorem WI.start {n : Int} (h1 : -9223372036854775808 ≤ n) (h2 : n < 9223372036854775808) (w : World) : WI n w (zig n) 9 0 (.slice none 0 0) w :=
  ⟨[], rfl, rfl, Nat.lt_of_lt_of_le (zig_lt h1 h2) (by decide), by omega, World.ownsRow_nil _ _ _ _, Ext.refl _⟩

set_option maxHeartbeats 1000000 in
theorem zigzag_any (n : Int) (w : World) (h1 : -9223372036854775808 ≤ n) (h2 : n < 9223372036854775808) :
    Calls Tryd.prog 117 #[.int .i64 n] w fun e w' => e = .returned (.int .u64 (zig n : Int)) ∧ w = w' := by
  by_cases h0 : 0 ≤ n
  · have hz := hide (show ((zig n : Nat) : Int) = 2 * n from by unfold zig; rw [if_pos h0]; omega)
    go_enter Tryd.func117, Tryd.ntmps117
    go_wp2
    go_ret
    exact ⟨ret_int (by first | exact (unhide hz).symm | (rw [unhide hz]; omega) | (rw [unhide hz]; simp [IntKind.wrap_u64]; omega)), rfl⟩
  · have hz := hide (show ((zig n : Nat) : Int) = -2 * n - 1 from by unfold zig; rw [if_neg h0]; omega)
    have d0 : decide (0 ≤ n) = false := decide_eq_false h0
    have hn : n < 0 := by omega
    clear h0
    go_enter Tryd.func117, Tryd.ntmps117
    go_wp2
    go_ret
    exact ⟨ret_int (by first | exact (unhide hz).symm | (rw [unhide hz]; omega) | (rw [unhide hz]; simp [IntKind.wrap_u64]; omega)), rfl⟩

set_option maxRecDepth 100000 in
set_option maxHeartbeats 1000000 in
theorem rint_any (n : Int) (w : World) (h1 : -9223372036854775808 ≤ n) (h2 : n < 9223372036854775808) :
    Calls Tryd.prog 76 #[.int .i64 n] w fun e w' => ∃ A c, e = .returned (.slice A (wInt n).length c) ∧ w'.ownsRow w.heap.size 5 1 (.slice A (wInt n).length c) (wInt n).length ((wInt n).map u8v) ∧ Ext w w' := by
  have HI := hide (WI.start h1 h2 w)
  have HZ := hide (show IsU64 (zig n) from zig_lt h1 h2)
  have HZZ := hide (fun w => zigzag_any n w h1 h2)
  clear h1 h2
  go_enter Tryd.func76, Tryd.ntmps76
  go_wp2_with (go_at_call 117; refine (unhide HZZ _).mono ?_; rintro e w' ⟨rfl, rfl⟩)
  generalize zig n = z at *
  go_loopw [3, 4] (fun u b wr => ∃ (x f m : Nat) (A : Option Addr) (c : Nat), u = .int .u64 (x : Int) ∧ IsU64 x ∧ b = .slice A m c ∧ Hid (WI n w x f m (.slice A m c) wr)) (fun u _ _ => (intOf u).toNat)
  case atStart => exact ⟨z, 9, 0, none, 0, rfl, unhide HZ, rfl, HI⟩
  case round =>
    clear HI HZ
    obtain ⟨x, f, m, A, c, rfl, hx64, rfl, HI⟩ := hrel
    have hm := (unhide HI).small
    by_cases hlt : x < 128
    · have HB := hide (show (x : Int) = ((UInt8.ofNat x).toNat : Int) from by simp; omega)
      go_wp2_with (at_builtin; refine wpList_app rfl rfl u8_row rfl (ownsRow_ext (unhide HI).choose_spec.2.2.2.2.1 ((Ext.refl wr).alloc _)) rfl (Reads.new1 _ _ _) (AllOne.one rfl) (by omega) (by have := (unhide HI).choose_spec.2.2.2.2.2.size'; simp; omega) ?_; intro A' c' w3 ho hc hv; have HQ := hide (And.intro ho hc); clear ho hc hv)
      go_ret
      obtain ⟨q1, q2⟩ := unhide HQ
      rw [unhide HB] at q1
      obtain ⟨q3, q4, q5⟩ := (unhide HI).last hlt q1 q2
      rw [q3] at q4 ⊢
      exact ⟨_, _, rfl, q4, q5⟩
    · have hwq : IntKind.u64.wrap ((x : Int) / 128) = ((x / 128 : Nat) : Int) := by rw [IntKind.wrap_u64]; unfold IsU64 at hx64; omega
      have HB := hide (show 128 + (x : Int) % 128 = ((UInt8.ofNat (128 + x % 128)).toNat : Int) from by simp; omega)
      go_wp2_with (at_builtin; refine wpList_app rfl rfl u8_row rfl (ownsRow_ext (unhide HI).choose_spec.2.2.2.2.1 ((Ext.refl wr).alloc _)) rfl (Reads.new1 _ _ _) (AllOne.one rfl) (by omega) (by have := (unhide HI).choose_spec.2.2.2.2.2.size'; simp; omega) ?_; intro A' c' w3 ho hc hv; have HQ := hide (And.intro ho hc); clear ho hc hv)
      go_roundw
      case rel =>
        obtain ⟨q1, q2⟩ := unhide HQ
        rw [unhide HB] at q1
        obtain ⟨g, q3⟩ := (unhide HI).app hlt q1 q2
        exact ⟨x / 128, g, m + 1, A', c', by go_num, by unfold IsU64 at hx64 ⊢; omega, rfl, hide q3⟩
      case measure => simp [intOf]; omega

set_option maxRecDepth 100000 in
set_option maxHeartbeats 1000000 in
theorem wint_any (n : Int) (w : World) (h1 : -9223372036854775808 ≤ n) (h2 : n < 9223372036854775808) :
    Calls Tryd.prog 17 #[.int .i64 n] w fun e w' => ∃ A c, e = .returned (.slice A (wInt n).length c) ∧ w'.ownsRow w.heap.size 5 1 (.slice A (wInt n).length c) (wInt n).length ((wInt n).map u8v) ∧ Ext w w' := by
  have HI := hide (WI.start h1 h2 w)
  have HZ := hide (show IsU64 (zig n) from zig_lt h1 h2)
  rcases Int.lt_or_le n 0 with h0 | h0
  · have hz := zig_neg n h0 h1
    have d0 : decide (n < 0) = true := decide_eq_true h0
    clear h1 h2
    go_enter Tryd.func17, Tryd.ntmps17
    go_wp2
    go_step3
    go_wp2
    go_step3
    go_wp2
    generalize zig n = z at *
    clear hz d0
    go_loopw [3, 4] (fun u b wr => ∃ (x f m : Nat) (A : Option Addr) (c : Nat), u = .int .u64 (x : Int) ∧ IsU64 x ∧ b = .slice A m c ∧ Hid (WI n w x f m (.slice A m c) wr)) (fun u _ _ => (intOf u).toNat)
    case atStart => exact ⟨z, 9, 0, none, 0, rfl, unhide HZ, rfl, HI⟩
    case round =>
      clear HI HZ
      obtain ⟨x, f, m, A, c, rfl, hx64, rfl, HI⟩ := hrel
      have hm := (unhide HI).small
      by_cases hlt : x < 128
      · have HB := hide (show (x : Int) = ((UInt8.ofNat x).toNat : Int) from by simp; omega)
        go_wp2_with (at_builtin; refine wpList_app rfl rfl u8_row rfl (ownsRow_ext (unhide HI).choose_spec.2.2.2.2.1 ((Ext.refl wr).alloc _)) rfl (Reads.new1 _ _ _) (AllOne.one rfl) (by omega) (by have := (unhide HI).choose_spec.2.2.2.2.2.size'; simp; omega) ?_; intro A' c' w3 ho hc hv; have HQ := hide (And.intro ho hc); clear ho hc hv)
        try rw [Exit.noGoto_ret]
        go_ret
        obtain ⟨q1, q2⟩ := unhide HQ
        rw [unhide HB] at q1
        obtain ⟨q3, q4, q5⟩ := (unhide HI).last hlt q1 q2
        rw [q3] at q4 ⊢
        exact ⟨_, _, rfl, q4, q5⟩
      · have hwq : (x : Int).fdiv (2 ^ min (Int.toNat 7) IntKind.u64.bits) = ((x / 128 : Nat) : Int) := by
          show (x : Int).fdiv 128 = _
          rw [Int.fdiv_eq_ediv_of_nonneg _ (by omega)]; omega
        have HB := hide (or_byte x)
        go_wp2_with (at_builtin; refine wpList_app rfl rfl u8_row rfl (ownsRow_ext (unhide HI).choose_spec.2.2.2.2.1 ((Ext.refl wr).alloc _)) rfl (Reads.new1 _ _ _) (AllOne.one rfl) (by omega) (by have := (unhide HI).choose_spec.2.2.2.2.2.size'; simp; omega) ?_; intro A' c' w3 ho hc hv; have HQ := hide (And.intro ho hc); clear ho hc hv)
        go_roundw
        case rel =>
          obtain ⟨q1, q2⟩ := unhide HQ
          rw [unhide HB] at q1
          obtain ⟨g, q3⟩ := (unhide HI).app hlt q1 q2
          exact ⟨x / 128, g, m + 1, A', c', by go_num, by unfold IsU64 at hx64 ⊢; omega, rfl, hide q3⟩
        case measure => simp [intOf]; omega
  · have hz := zig_pos n h0 h2
    have d0 : decide (n < 0) = false := decide_eq_false (by omega)
    clear h1 h2
    go_enter Tryd.func17, Tryd.ntmps17
    go_wp2
    go_step3
    go_wp2
    go_step3
    go_wp2
    generalize zig n = z at *
    clear hz d0
    go_loopw [3, 4] (fun u b wr => ∃ (x f m : Nat) (A : Option Addr) (c : Nat), u = .int .u64 (x : Int) ∧ IsU64 x ∧ b = .slice A m c ∧ Hid (WI n w x f m (.slice A m c) wr)) (fun u _ _ => (intOf u).toNat)
    case atStart => exact ⟨z, 9, 0, none, 0, rfl, unhide HZ, rfl, HI⟩
    case round =>
      clear HI HZ
      obtain ⟨x, f, m, A, c, rfl, hx64, rfl, HI⟩ := hrel
      have hm := (unhide HI).small
      by_cases hlt : x < 128
      · have HB := hide (show (x : Int) = ((UInt8.ofNat x).toNat : Int) from by simp; omega)
        go_wp2_with (at_builtin; refine wpList_app rfl rfl u8_row rfl (ownsRow_ext (unhide HI).choose_spec.2.2.2.2.1 ((Ext.refl wr).alloc _)) rfl (Reads.new1 _ _ _) (AllOne.one rfl) (by omega) (by have := (unhide HI).choose_spec.2.2.2.2.2.size'; simp; omega) ?_; intro A' c' w3 ho hc hv; have HQ := hide (And.intro ho hc); clear ho hc hv)
        try rw [Exit.noGoto_ret]
        go_ret
        obtain ⟨q1, q2⟩ := unhide HQ
        rw [unhide HB] at q1
        obtain ⟨q3, q4, q5⟩ := (unhide HI).last hlt q1 q2
        rw [q3] at q4 ⊢
        exact ⟨_, _, rfl, q4, q5⟩
      · have hwq : (x : Int).fdiv (2 ^ min (Int.toNat 7) IntKind.u64.bits) = ((x / 128 : Nat) : Int) := by
          show (x : Int).fdiv 128 = _
          rw [Int.fdiv_eq_ediv_of_nonneg _ (by omega)]; omega
        have HB := hide (or_byte x)
        go_wp2_with (at_builtin; refine wpList_app rfl rfl u8_row rfl (ownsRow_ext (unhide HI).choose_spec.2.2.2.2.1 ((Ext.refl wr).alloc _)) rfl (Reads.new1 _ _ _) (AllOne.one rfl) (by omega) (by have := (unhide HI).choose_spec.2.2.2.2.2.size'; simp; omega) ?_; intro A' c' w3 ho hc hv; have HQ := hide (And.intro ho hc); clear ho hc hv)
        go_roundw
        case rel =>
          obtain ⟨q1, q2⟩ := unhide HQ
          rw [unhide HB] at q1
          obtain ⟨g, q3⟩ := (unhide HI).app hlt q1 q2
          exact ⟨x / 128, g, m + 1, A', c', by go_num, by unfold IsU64 at hx64 ⊢; omega, rfl, hide q3⟩
        case measure => simp [intOf]; omega

end Go.Proofs.YtoefmncdloffaaaDoor
