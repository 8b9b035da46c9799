/-
  Several texts in one file: each has its own heading below.
-/
import Derived.Test.YtcjlkjcadaaleaaDoorQpF
import Derived.Test.YtcjlkjcadaaleaaDoorQpE
import Derived.Outline
import Derived.Test.YtcjlkjcadaaleaaDoorQpA
import Derived.Laws.IdiomStrings
import Derived.Laws.BytesArg
import Derived.Lib.AppendStr
import Derived.Defers
import Derived.Deep.CutRange
import Derived.Deep.RegionHeld3
import Derived.ChangeKeysEq
import Derived.Lib.SlBytesConst

/-
  wire.Int, wire.Bytes and the reference's Int, Bytes.
-/
namespace Go.Proofs.YtcjlkjcadaaleaaDoor
open Go.RowKit

/-- Below 2 ^ 64. -/
def IsU64 (x : Nat) : Prop := x < 18446744073709551616
/-- What the loops over the groups of seven bits keep. -/
def WI (n : Int) (w : World) (x f m : Nat) (v : Value) (wr : World) : Prop :=
  ∃ pre : List UInt8, wInt n = pre ++ varint f x ∧ m = pre.length ∧ x < 128 ^ (f + 1) ∧ f ≤ 9 ∧ wr.ownsRow w.heap.size 5 1 v m (pre.map u8v) ∧ Ext w wr
theorem WI.small {n : Int} {w wr : World} {x f m : Nat} {v : Value} (h : WI n w x f m v wr) : m ≤ 10 := by
  obtain ⟨pre, h1, rfl, _⟩ := h
  have := wInt_length n
  rw [h1] at this
  simp at this
  omega
theorem WI.app {n : Int} {w wr w3 : World} {x f m : Nat} {A A' : Option Addr} {c c' : Nat} (h : WI n w x f m (.slice A m c) wr) (hx : ¬ x < 128)
    (ho : w3.ownsRow w.heap.size 5 1 (.slice A' (m + 1) c') (m + 1) ((h.choose).map u8v ++ [u8v (UInt8.ofNat (128 + x % 128))])) {o : Obj} (hc : Chg (fun k => (Value.slice A m c).ownBlock = some k) (wr.alloc o) w3) :
    ∃ g, WI n w (x / 128) g (m + 1) (.slice A' (m + 1) c') w3 := by
  obtain ⟨h1, h2, h3, h4, h5, h6⟩ := h.choose_spec
  generalize h.choose = pre at *
  cases f with
  | zero => simp at h3; omega
  | succ g =>
    rw [varint_big hx] at h1
    refine ⟨g, pre ++ [UInt8.ofNat (128 + x % 128)], by rw [h1]; simp, by simp [h2], ?_, by omega, by simpa using ho, (h6.alloc o).trans' hc (fun _ _ h => h) (fun i hi e => by have := h5.lt i e; omega)⟩
    rw [Nat.pow_succ] at h3
    exact Nat.div_lt_of_lt_mul (by rw [Nat.mul_comm]; exact h3)
theorem WI.last {n : Int} {w wr w3 : World} {x f m : Nat} {A A' : Option Addr} {c c' : Nat} (h : WI n w x f m (.slice A m c) wr) (hx : x < 128)
    (ho : w3.ownsRow w.heap.size 5 1 (.slice A' (m + 1) c') (m + 1) ((h.choose).map u8v ++ [u8v (UInt8.ofNat x)])) {o : Obj} (hc : Chg (fun k => (Value.slice A m c).ownBlock = some k) (wr.alloc o) w3) :
    m + 1 = (wInt n).length ∧ w3.ownsRow w.heap.size 5 1 (.slice A' (m + 1) c') (m + 1) ((wInt n).map u8v) ∧ Ext w w3 := by
  obtain ⟨h1, h2, h3, h4, h5, h6⟩ := h.choose_spec
  generalize h.choose = pre at *
  rw [varint_small hx] at h1
  refine ⟨by rw [h1]; simp [h2], by rw [h1]; simpa using ho, (h6.alloc o).trans' hc (fun _ _ h => h) (fun i hi e => by have := h5.lt i e; omega)⟩
theorem not64 (a : Nat) (h : a < 18446744073709551616) : bits BinOp.xor IntKind.u64 IntKind.u64.max (a : Int) = ((18446744073709551615 - a : Nat) : Int) := by
  have e := u64_xor IntKind.u64.max (a : Int) (by decide) (by decide) (by omega) (by omega)
  rw [e]
  have h1 : (UInt64.ofNat a).toNat = a := by simp; omega
  have h2 : (-1 ^^^ UInt64.ofNat a).toNat = 18446744073709551615 - a := by
    rw [UInt64.neg_one_xor, UInt64.toNat_not, h1]
    rfl
  rw [UInt64.toNat_xor, h1] at h2
  rw [← h2]
  rfl
theorem zig_pos (n : Int) (h0 : 0 ≤ n) (h2 : n < 9223372036854775808) : IntKind.u64.wrap (IntKind.u64.wrap n * 2) = (zig n : Int) := by
  rw [IntKind.wrap_u64, IntKind.wrap_u64]; unfold zig; rw [if_pos h0]; omega
theorem zig_neg (n : Int) (h0 : n < 0) (h1 : -9223372036854775808 ≤ n) : bits BinOp.xor IntKind.u64 IntKind.u64.max (IntKind.u64.wrap (IntKind.u64.wrap n * 2)) = (zig n : Int) := by
  have e : IntKind.u64.wrap (IntKind.u64.wrap n * 2) = ((2 * n + 18446744073709551616).toNat : Int) := by rw [IntKind.wrap_u64, IntKind.wrap_u64]; omega
  rw [e, not64 _ (by omega)]; unfold zig; rw [if_neg (by omega)]; omega
theorem WI.start {n : Int} (h1 : -9223372036854775808 ≤ n) (h2 : n < 9223372036854775808) (w : World) : WI n w (zig n) 9 0 (.slice none 0 0) w :=
  ⟨[], rfl, rfl, Nat.lt_of_lt_of_le (zig_lt h1 h2) (by decide), by omega, World.ownsRow_nil _ _ _ _, Ext.refl _⟩

set_option maxHeartbeats 1000000 in
theorem zigzag_any (n : Int) (w : World) (h1 : -9223372036854775808 ≤ n) (h2 : n < 9223372036854775808) :
    Calls Tryd.prog 85 #[.int .i64 n] w fun e w' => e = .returned (.int .u64 (zig n : Int)) ∧ w = w' := by
  by_cases h0 : 0 ≤ n
  · have hz := hide (show ((zig n : Nat) : Int) = 2 * n from by unfold zig; rw [if_pos h0]; omega)
    go_enter Tryd.func85, Tryd.ntmps85
    go_wp2
    go_ret
    exact ⟨ret_int (by first | exact (unhide hz).symm | (rw [unhide hz]; omega) | (rw [unhide hz]; simp [IntKind.wrap_u64]; omega)), rfl⟩
  · have hz := hide (show ((zig n : Nat) : Int) = -2 * n - 1 from by unfold zig; rw [if_neg h0]; omega)
    have d0 : decide (0 ≤ n) = false := decide_eq_false h0
    have hn : n < 0 := by omega
    clear h0
    go_enter Tryd.func85, Tryd.ntmps85
    go_wp2
    go_ret
    exact ⟨ret_int (by first | exact (unhide hz).symm | (rw [unhide hz]; omega) | (rw [unhide hz]; simp [IntKind.wrap_u64]; omega)), rfl⟩

set_option maxRecDepth 100000 in
set_option maxHeartbeats 1000000 in
theorem rint_any (n : Int) (w : World) (h1 : -9223372036854775808 ≤ n) (h2 : n < 9223372036854775808) :
    Calls Tryd.prog 52 #[.int .i64 n] w fun e w' => ∃ A c, e = .returned (.slice A (wInt n).length c) ∧ w'.ownsRow w.heap.size 5 1 (.slice A (wInt n).length c) (wInt n).length ((wInt n).map u8v) ∧ Ext w w' := by
  have HI := hide (WI.start h1 h2 w)
  have HZ := hide (show IsU64 (zig n) from zig_lt h1 h2)
  have HZZ := hide (fun w => zigzag_any n w h1 h2)
  clear h1 h2
  go_enter Tryd.func52, Tryd.ntmps52
  go_wp2_with (go_at_call 85; refine (unhide HZZ _).mono ?_; rintro e w' ⟨rfl, rfl⟩)
  generalize zig n = z at *
  go_loopw [3, 4] (fun u b wr => ∃ (x f m : Nat) (A : Option Addr) (c : Nat), u = .int .u64 (x : Int) ∧ IsU64 x ∧ b = .slice A m c ∧ Hid (WI n w x f m (.slice A m c) wr)) (fun u _ _ => (intOf u).toNat)
  case atStart => exact ⟨z, 9, 0, none, 0, rfl, unhide HZ, rfl, HI⟩
  case round =>
    clear HI HZ
    obtain ⟨x, f, m, A, c, rfl, hx64, rfl, HI⟩ := hrel
    have hm := (unhide HI).small
    by_cases hlt : x < 128
    · have HB := hide (show (x : Int) = ((UInt8.ofNat x).toNat : Int) from by simp; omega)
      go_wp2_with (at_builtin; refine wpList_app rfl rfl u8_row rfl (ownsRow_ext (unhide HI).choose_spec.2.2.2.2.1 ((Ext.refl wr).alloc _)) rfl (Reads.new1 _ _ _) (AllOne.one rfl) (by omega) (by have := (unhide HI).choose_spec.2.2.2.2.2.size'; simp; omega) ?_; intro A' c' w3 ho hc hv; have HQ := hide (And.intro ho hc); clear ho hc hv)
      go_ret
      obtain ⟨q1, q2⟩ := unhide HQ
      rw [unhide HB] at q1
      obtain ⟨q3, q4, q5⟩ := (unhide HI).last hlt q1 q2
      rw [q3] at q4 ⊢
      exact ⟨_, _, rfl, q4, q5⟩
    · have hwq : IntKind.u64.wrap ((x : Int) / 128) = ((x / 128 : Nat) : Int) := by rw [IntKind.wrap_u64]; unfold IsU64 at hx64; omega
      have HB := hide (show 128 + (x : Int) % 128 = ((UInt8.ofNat (128 + x % 128)).toNat : Int) from by simp; omega)
      go_wp2_with (at_builtin; refine wpList_app rfl rfl u8_row rfl (ownsRow_ext (unhide HI).choose_spec.2.2.2.2.1 ((Ext.refl wr).alloc _)) rfl (Reads.new1 _ _ _) (AllOne.one rfl) (by omega) (by have := (unhide HI).choose_spec.2.2.2.2.2.size'; simp; omega) ?_; intro A' c' w3 ho hc hv; have HQ := hide (And.intro ho hc); clear ho hc hv)
      go_roundw
      case rel =>
        obtain ⟨q1, q2⟩ := unhide HQ
        rw [unhide HB] at q1
        obtain ⟨g, q3⟩ := (unhide HI).app hlt q1 q2
        exact ⟨x / 128, g, m + 1, A', c', by go_num, by unfold IsU64 at hx64 ⊢; omega, rfl, hide q3⟩
      case measure => simp [intOf]; omega

set_option maxRecDepth 100000 in
set_option maxHeartbeats 1000000 in
theorem wint_any (n : Int) (w : World) (h1 : -9223372036854775808 ≤ n) (h2 : n < 9223372036854775808) :
    Calls Tryd.prog 19 #[.int .i64 n] w fun e w' => ∃ A c, e = .returned (.slice A (wInt n).length c) ∧ w'.ownsRow w.heap.size 5 1 (.slice A (wInt n).length c) (wInt n).length ((wInt n).map u8v) ∧ Ext w w' := by
  have HI := hide (WI.start h1 h2 w)
  have HZ := hide (show IsU64 (zig n) from zig_lt h1 h2)
  rcases Int.lt_or_le n 0 with h0 | h0
  · have hz := zig_neg n h0 h1
    have d0 : decide (n < 0) = true := decide_eq_true h0
    clear h1 h2
    go_enter Tryd.func19, Tryd.ntmps19
    go_wp2
    go_step3
    go_wp2
    go_step3
    go_wp2
    generalize zig n = z at *
    clear hz d0
    go_loopw [3, 4] (fun u b wr => ∃ (x f m : Nat) (A : Option Addr) (c : Nat), u = .int .u64 (x : Int) ∧ IsU64 x ∧ b = .slice A m c ∧ Hid (WI n w x f m (.slice A m c) wr)) (fun u _ _ => (intOf u).toNat)
    case atStart => exact ⟨z, 9, 0, none, 0, rfl, unhide HZ, rfl, HI⟩
    case round =>
      clear HI HZ
      obtain ⟨x, f, m, A, c, rfl, hx64, rfl, HI⟩ := hrel
      have hm := (unhide HI).small
      by_cases hlt : x < 128
      · have HB := hide (show (x : Int) = ((UInt8.ofNat x).toNat : Int) from by simp; omega)
        go_wp2_with (at_builtin; refine wpList_app rfl rfl u8_row rfl (ownsRow_ext (unhide HI).choose_spec.2.2.2.2.1 ((Ext.refl wr).alloc _)) rfl (Reads.new1 _ _ _) (AllOne.one rfl) (by omega) (by have := (unhide HI).choose_spec.2.2.2.2.2.size'; simp; omega) ?_; intro A' c' w3 ho hc hv; have HQ := hide (And.intro ho hc); clear ho hc hv)
        try rw [Exit.noGoto_ret]
        go_ret
        obtain ⟨q1, q2⟩ := unhide HQ
        rw [unhide HB] at q1
        obtain ⟨q3, q4, q5⟩ := (unhide HI).last hlt q1 q2
        rw [q3] at q4 ⊢
        exact ⟨_, _, rfl, q4, q5⟩
      · have hwq : (x : Int).fdiv (2 ^ min (Int.toNat 7) IntKind.u64.bits) = ((x / 128 : Nat) : Int) := by
          show (x : Int).fdiv 128 = _
          rw [Int.fdiv_eq_ediv_of_nonneg _ (by omega)]; omega
        have HB := hide (or_byte x)
        go_wp2_with (at_builtin; refine wpList_app rfl rfl u8_row rfl (ownsRow_ext (unhide HI).choose_spec.2.2.2.2.1 ((Ext.refl wr).alloc _)) rfl (Reads.new1 _ _ _) (AllOne.one rfl) (by omega) (by have := (unhide HI).choose_spec.2.2.2.2.2.size'; simp; omega) ?_; intro A' c' w3 ho hc hv; have HQ := hide (And.intro ho hc); clear ho hc hv)
        go_roundw
        case rel =>
          obtain ⟨q1, q2⟩ := unhide HQ
          rw [unhide HB] at q1
          obtain ⟨g, q3⟩ := (unhide HI).app hlt q1 q2
          exact ⟨x / 128, g, m + 1, A', c', by go_num, by unfold IsU64 at hx64 ⊢; omega, rfl, hide q3⟩
        case measure => simp [intOf]; omega
  · have hz := zig_pos n h0 h2
    have d0 : decide (n < 0) = false := decide_eq_false (by omega)
    clear h1 h2
    go_enter Tryd.func19, Tryd.ntmps19
    go_wp2
    go_step3
    go_wp2
    go_step3
    go_wp2
    generalize zig n = z at *
    clear hz d0
    go_loopw [3, 4] (fun u b wr => ∃ (x f m : Nat) (A : Option Addr) (c : Nat), u = .int .u64 (x : Int) ∧ IsU64 x ∧ b = .slice A m c ∧ Hid (WI n w x f m (.slice A m c) wr)) (fun u _ _ => (intOf u).toNat)
    case atStart => exact ⟨z, 9, 0, none, 0, rfl, unhide HZ, rfl, HI⟩
    case round =>
      clear HI HZ
      obtain ⟨x, f, m, A, c, rfl, hx64, rfl, HI⟩ := hrel
      have hm := (unhide HI).small
      by_cases hlt : x < 128
      · have HB := hide (show (x : Int) = ((UInt8.ofNat x).toNat : Int) from by simp; omega)
        go_wp2_with (at_builtin; refine wpList_app rfl rfl u8_row rfl (ownsRow_ext (unhide HI).choose_spec.2.2.2.2.1 ((Ext.refl wr).alloc _)) rfl (Reads.new1 _ _ _) (AllOne.one rfl) (by omega) (by have := (unhide HI).choose_spec.2.2.2.2.2.size'; simp; omega) ?_; intro A' c' w3 ho hc hv; have HQ := hide (And.intro ho hc); clear ho hc hv)
        try rw [Exit.noGoto_ret]
        go_ret
        obtain ⟨q1, q2⟩ := unhide HQ
        rw [unhide HB] at q1
        obtain ⟨q3, q4, q5⟩ := (unhide HI).last hlt q1 q2
        rw [q3] at q4 ⊢
        exact ⟨_, _, rfl, q4, q5⟩
      · have hwq : (x : Int).fdiv (2 ^ min (Int.toNat 7) IntKind.u64.bits) = ((x / 128 : Nat) : Int) := by
          show (x : Int).fdiv 128 = _
          rw [Int.fdiv_eq_ediv_of_nonneg _ (by omega)]; omega
        have HB := hide (or_byte x)
        go_wp2_with (at_builtin; refine wpList_app rfl rfl u8_row rfl (ownsRow_ext (unhide HI).choose_spec.2.2.2.2.1 ((Ext.refl wr).alloc _)) rfl (Reads.new1 _ _ _) (AllOne.one rfl) (by omega) (by have := (unhide HI).choose_spec.2.2.2.2.2.size'; simp; omega) ?_; intro A' c' w3 ho hc hv; have HQ := hide (And.intro ho hc); clear ho hc hv)
        go_roundw
        case rel =>
          obtain ⟨q1, q2⟩ := unhide HQ
          rw [unhide HB] at q1
          obtain ⟨g, q3⟩ := (unhide HI).app hlt q1 q2
          exact ⟨x / 128, g, m + 1, A', c', by go_num, by unfold IsU64 at hx64 ⊢; omega, rfl, hide q3⟩
        case measure => simp [intOf]; omega

end Go.Proofs.YtcjlkjcadaaleaaDoor

/-
  Strings and bytes: conversions, appending a string.
-/
namespace Go.Proofs.YtcjlkjcadaaleaaDoor
open Go.RowKit

def strOf (l : List UInt8) : ByteArray := ⟨l.toArray⟩
theorem strOf_toList (s : ByteArray) : strOf s.data.toList = s := by cases s; simp [strOf]
theorem strOf_list (l : List UInt8) : (strOf l).data.toList = l := by simp [strOf]
theorem strOf_size (l : List UInt8) : (strOf l).size = l.length := by simp [strOf, ByteArray.size]
theorem strOf_inj {a b : List UInt8} (h : strOf a = strOf b) : a = b := by rw [← strOf_list a, h, strOf_list]
def byteV (b : UInt8) : Value := .int .u8 (b.toNat : Int)

section
variable {P : Program}
/-- 'string(b)'. -/
theorem run_str_of {src dst e : TypeId} (hs : P.underlying src = some (.slice e)) (he : P.underlying e = some (.int .u8)) (hd : P.underlying dst = some .string) {w : World} {v : Value} {n : Nat} {l : List UInt8} (hr : Reads w 1 v n (l.map byteV)) :
    (convert src dst v).run P w = .ok (.string (strOf l)) w := by
  obtain ⟨hl, A, c, rfl, _, _, hc⟩ := hr
  rw [List.length_map, Nat.mul_one] at hl
  subst hl
  cases A with
  | none =>
    have : l = [] := by
      cases l with
      | nil => rfl
      | cons x l => obtain ⟨b, o, e, _⟩ := hc (by simp); cases e
    subst this
    exact run_convert_bytes_nil w src e hs he _ c dst hd
  | some a =>
    refine run_convert_bytes_back w src dst e a c l hs he hd fun j hj => ?_
    obtain ⟨b, o, e2, hcc⟩ := hc (by omega)
    cases e2
    rw [add_lit]
    exact hcc j _ (by rw [List.getElem?_map, List.getElem?_eq_getElem hj]; rfl)
/-- '[]byte(s)'. -/
theorem run_bytes_of {src dst e : TypeId} (hs : P.underlying src = some .string) (hd : P.underlying dst = some (.slice e)) (he : P.underlying e = some (.int .u8)) (w : World) (s : ByteArray) (hm : s.size ≤ maxLen) :
    ∃ c w', (convert src dst (.string s)).run P w = .ok (.slice (some ⟨w.heap.size, 0, none⟩) s.size c) w' ∧ Reads w' 1 (.slice (some ⟨w.heap.size, 0, none⟩) s.size c) s.size (s.data.toList.map byteV) ∧ Ext w w' ∧ (∀ i, i < s.size → w'.frozen? ⟨w.heap.size, i, none⟩ = false) := by
  refine ⟨_, _, run_bytes_of_string w src dst e s hs hd he, ⟨by rw [List.length_map, Array.length_toList, Nat.mul_one]; rfl, _, _, rfl, ?_, grownCap_le_maxLen w s.size 0 e hm, fun _ => ⟨_, _, rfl, fun j u hu => ?_⟩⟩, ((Ext.refl w).drew).alloc _, fun i hi => ?_⟩
  · simpa using grownCap_ge w s.size 0 e
  · have hj : j < s.data.size := by
      rcases Nat.lt_or_ge j s.data.size with h | h
      · exact h
      · rw [List.getElem?_eq_none (by simpa using h)] at hu; cases hu
    have h1 := World.cell?_alloc_mark w.drew (bytesRow s (grownCap w s.size 0 e)) e ((bytesRow s (grownCap w s.size 0 e)).size, (bytesRow s (grownCap w s.size 0 e)).size + 1) j
    rw [Nat.zero_add]
    refine Eq.trans h1 ?_
    rw [bytesRow_at s _ j hj, ← hu, List.getElem?_map, Array.getElem?_toList, Array.getElem?_eq_getElem hj]
    rfl
  · have hsz : (bytesRow s (grownCap w s.size 0 e)).size ≥ s.size := by unfold bytesRow; rw [Array.size_append, Array.size_map]; exact Nat.le_add_right _ _
    show (w.drew.alloc (.cells (bytesRow s (grownCap w s.size 0 e)) e ((bytesRow s (grownCap w s.size 0 e)).size, (bytesRow s (grownCap w s.size 0 e)).size + 1))).frozen? ⟨w.drew.heap.size, i, none⟩ = false
    have : (w.drew.alloc (.cells (bytesRow s (grownCap w s.size 0 e)) e ((bytesRow s (grownCap w s.size 0 e)).size, (bytesRow s (grownCap w s.size 0 e)).size + 1))).heap[w.drew.heap.size]? = some (.cells (bytesRow s (grownCap w s.size 0 e)) e ((bytesRow s (grownCap w s.size 0 e)).size, (bytesRow s (grownCap w s.size 0 e)).size + 1)) := heap_alloc_new _ _
    unfold World.frozen?
    rw [this]
    simp
    omega

theorem wpList_bytesOf {ops : Array Oper} {rest : List Oper} {o : Oper} {a : Act} {w : World} {Q : Exit → Act → World → Prop} (hgd : o.guard = none) {src dst e : TypeId} {x : Operand} (ho : o.op = .convert src dst x)
    (hs : P.underlying src = some .string) (hd : P.underlying dst = some (.slice e)) (he : P.underlying e = some (.int .u8)) {s : ByteArray} (hx : a.eval x = .string s) (hm : s.size ≤ maxLen)
    (h : ∀ c w', Reads w' 1 (.slice (some ⟨w.heap.size, 0, none⟩) s.size c) s.size (s.data.toList.map byteV) → Ext w w' → (∀ i, i < s.size → w'.frozen? ⟨w.heap.size, i, none⟩ = false) → wpList P ops Q rest (a.put o.dst (.slice (some ⟨w.heap.size, 0, none⟩) s.size c)) w') : wpList P ops Q (o :: rest) a w :=
  wpList_plain hgd fun _ hK => by
    obtain ⟨c, w', hrun, h1, h2, h3⟩ := run_bytes_of (P := P) hs hd he w s hm
    unfold Oper.wp execOp
    simp only [ho, hx, hrun, Sem.run_bind, Sem.run_pure, Result.andThen_ok]
    exact hK _ _ (h c w' h1 h2 h3)
theorem wpList_strOf {ops : Array Oper} {rest : List Oper} {o : Oper} {a : Act} {w : World} {Q : Exit → Act → World → Prop} (hgd : o.guard = none) {src dst e : TypeId} {x : Operand} (ho : o.op = .convert src dst x)
    (hs : P.underlying src = some (.slice e)) (he : P.underlying e = some (.int .u8)) (hd : P.underlying dst = some .string) {v : Value} (hx : a.eval x = v) {n : Nat} {l : List UInt8} (hr : Reads w 1 v n (l.map byteV))
    (h : wpList P ops Q rest (a.put o.dst (.string (strOf l))) w) : wpList P ops Q (o :: rest) a w :=
  wpList_plain hgd fun _ hK => by
    have hrun := run_str_of (P := P) hs he hd hr
    unfold Oper.wp execOp
    simp only [ho, hx, hrun, Sem.run_bind, Sem.run_pure, Result.andThen_ok]
    exact hK _ _ h
theorem wpList_appS {ops : Array Oper} {rest : List Oper} {o : Oper} {a : Act} {w : World} {Q : Exit → Act → World → Prop} (hgd : o.guard = none) {sl x : Operand} {t u : TypeId}
    (ho : o.op = .call { callee := .builtin .append, args := #[sl, x], argTypes := #[t, u] })
    {B : Nat} {e : TypeId} (T : SlTy P t e 1 1) (hz : (P.info? e).map (·.zero) = some (some (.int .u8 0))) (hu : P.underlying u = some .string) {v : Value} {n : Nat} {xs : List Value} (hs : a.eval sl = v) (hown : w.ownsRow B e 1 v n xs) {s : ByteArray} (hx : a.eval x = .string s)
    (hbytes : n + s.size ≤ 140737488355328) (hbase : B ≤ w.heap.size)
    (h : ∀ (A' : Option Addr) (c' : Nat) w', w'.ownsRow B e 1 (.slice A' (n + s.size) c') (n + s.size) (xs ++ s.data.toList.map byteV) → Chg (fun k => v.ownBlock = some k) w w' → wpList P ops Q rest (a.put o.dst (.slice A' (n + s.size) c')) w') : wpList P ops Q (o :: rest) a w := by
  obtain ⟨ht, ⟨i, z, hi, hz2, hsize, hby, hzs⟩, _, _⟩ := T
  have hz' : i.zero = some (.int .u8 0) := by rw [hi] at hz; simpa using hz
  refine Lib.wpList_append_own_string (P := P) (w := w) hgd sl x t u ho B e i ht hu hi hz' hsize hby v n xs hs hown s hx (by unfold maxLen; omega) hbytes hbase fun v' w' h1 h2 _ => ?_
  obtain ⟨A', c', rfl⟩ := own_slice h1
  exact h A' c' w' h1 ⟨h2.os, h2.tape, h2.output, h2.size, fun k hk hn => h2.block k hk (fun e => hn e.symm)⟩
end

end Go.Proofs.YtcjlkjcadaaleaaDoor

/-
  wire.Bytes and the reference's Bytes.
-/
namespace Go.Proofs.YtcjlkjcadaaleaaDoor
open Go.RowKit

theorem u8_zero : (Tryd.prog.info? 5).map (·.zero) = some (some (.int .u8 0)) := by kernel_rfl
theorem wBytes_len (s : ByteArray) : (wBytes s.data.toList).length = (wInt s.size).length + s.size := by
  unfold wBytes
  rw [List.length_append, Array.length_toList]
  rfl
theorem wBytes_map (s : ByteArray) : (wBytes s.data.toList).map u8v = (wInt s.size).map u8v ++ s.data.toList.map byteV := by
  unfold wBytes
  rw [List.map_append, Array.length_toList]
  rfl

set_option maxHeartbeats 400000 in
theorem wbytes_any (s : ByteArray) (w : World) (hs : s.size ≤ 1000000000) :
    Calls Tryd.prog 20 #[.string s] w fun e w' => ∃ A c, e = .returned (.slice A (wBytes s.data.toList).length c) ∧ w'.ownsRow w.heap.size 5 1 (.slice A (wBytes s.data.toList).length c) (wBytes s.data.toList).length ((wBytes s.data.toList).map u8v) ∧ Ext w w' := by
  have HW := hide (fun w => wint_any (s.size : Int) w (by omega) (by omega))
  have HL := hide (wBytes_len s)
  have HM := hide (wBytes_map s)
  have hl := wInt_length (s.size : Int)
  go_enter Tryd.func20, Tryd.ntmps20
  go_wp2_with fail
  refine (unhide HW _).mono ?_
  rintro e w1 ⟨A, c, rfl, ho, hE⟩
  have HO := hide (And.intro ho hE)
  clear ho hE
  go_wp2_with (at_builtin; refine wpList_appS rfl rfl u8_row u8_zero Tryd.underlying9 rfl (unhide HO).1 rfl (by omega) (unhide HO).2.size' ?_; intro A' c' w2 ho hc; have HQ := hide (And.intro ho hc); clear ho hc)
  go_ret
  obtain ⟨h1, h2⟩ := unhide HQ
  rw [← unhide HL, ← unhide HM] at h1
  exact ⟨A', c', by rw [unhide HL]; rfl, h1, (unhide HO).2.trans' h2 (fun _ _ h => h) (fun i hi e => by have := ((unhide HO).1.lt i e).1; omega)⟩

set_option maxHeartbeats 400000 in
theorem rbytes_any (s : ByteArray) (w : World) (hs : s.size ≤ 1000000000) :
    Calls Tryd.prog 64 #[.string s] w fun e w' => ∃ A c, e = .returned (.slice A (wBytes s.data.toList).length c) ∧ w'.ownsRow w.heap.size 5 1 (.slice A (wBytes s.data.toList).length c) (wBytes s.data.toList).length ((wBytes s.data.toList).map u8v) ∧ Ext w w' := by
  have HW := hide (fun w => rint_any (s.size : Int) w (by omega) (by omega))
  have HL := hide (wBytes_len s)
  have HM := hide (wBytes_map s)
  have hl := wInt_length (s.size : Int)
  go_enter Tryd.func64, Tryd.ntmps64
  go_wp2_with fail
  refine (unhide HW _).mono ?_
  rintro e w1 ⟨A, c, rfl, ho, hE⟩
  have HO := hide (And.intro ho hE)
  clear ho hE
  go_wp2_with (first
    | (refine wpList_bytesOf (src := 9) (dst := 29) (x := .tmp 6) (s := s) rfl rfl Tryd.underlying9 Tryd.underlying29 Tryd.underlying5 rfl (by unfold maxLen; omega) ?_; intro c2 w2 hr2 hE2 hf2; have HR := hide (And.intro hr2 hE2); clear hr2 hE2 hf2)
    | (at_builtin; refine wpList_app rfl rfl u8_row rfl (ownsRow_ext (unhide HO).1 (unhide HR).2) rfl (unhide HR).1 (AllOne.map (fun _ => rfl) _) (by omega) (Nat.le_trans (unhide HO).2.size' (unhide HR).2.size') ?_; intro A' c' w3 ho hc hv; have HQ := hide (And.intro ho hc); clear ho hc hv))
  go_ret
  obtain ⟨h1, h2⟩ := unhide HQ
  rw [← unhide HL, ← unhide HM] at h1
  exact ⟨A', c', by rw [unhide HL]; rfl, h1, ((unhide HO).2.trans (unhide HR).2).trans' h2 (fun _ _ h => h) (fun i hi e => by have := ((unhide HO).1.lt i e).1; omega)⟩

end Go.Proofs.YtcjlkjcadaaleaaDoor

/-
  sha's short, MAC, join, Digest, Derive.
-/
namespace Go.Proofs.YtcjlkjcadaaleaaDoor
open Go.RowKit

theorem digest_wide : Wide Tryd.prog 23 16 := ⟨⟨_, Tryd.underlying23, rfl⟩, by kernel_rfl⟩
theorem slices_row : SlTy Tryd.prog 79 29 1 24 := SlTy.mk' (z := .slice none 0 0) (by kernel_rfl) (by kernel_rfl) rfl (by omega) (by omega)

set_option maxHeartbeats 1000000 in
theorem short_any (l : List UInt8) (w : World) (hl : l.length = 32) :
    Calls Tryd.prog 46 #[.agg (l.map u8v).toArray] w fun e w' => e = .returned (.agg ((l.take 16).map u8v).toArray) ∧ Ext w w' := by
  obtain ⟨arr, harr⟩ : ∃ r, (l.map u8v).toArray = r := ⟨_, rfl⟩
  obtain ⟨res, hres⟩ : ∃ r, ((l.take 16).map u8v).toArray = r := ⟨_, rfl⟩
  have HA := hide (And.intro harr hl)
  have HR := hide hres
  have HS := hide (show res.size = 16 ∧ res.all (·.oneCell') = true from by rw [← hres]; exact ⟨by simp; omega, bytes_one _⟩)
  rw [harr, hres]
  clear harr hres hl
  have hat := fun X => run_arrayAt (P := Tryd.prog) Tryd.underlying23 (ad := some ⟨w.heap.size, 0, none⟩) (len := 16) (c := 32) (by omega) X
  go_enter Tryd.func46, Tryd.ntmps46
  go_wp2_with (first
    | (refine wpList_loadR (ty := 23) (x := .tmp 4) rfl rfl digest_wide rfl (arr := res) (cs := (l.take 16).map u8v) ?_ ?_ (unhide HR) ?_; (focus (refine rangeAt_chg (w := w.alloc (.cells arr 82)) (S := Non) (fun j v hj => ?_) ((Ext.refl _).alloc _) (fun h => h); rw [Nat.zero_add, (Blk.new w _ arr).cell, ← (unhide HA).1]; rw [List.map_take, List.getElem?_take] at hj; split at hj; (simpa using hj); (cases hj))); (focus (have := (unhide HA).2; simp; omega)))
    | (refine wpList_storeB (ty := 23) (t := 23) (x := .tmp 2) (y := .tmp 5) rfl rfl digest_wide rfl rfl (Blk.new' _ _ _ ?_) rfl (unhide HS).1 (unhide HS).2 ?_; (focus (simp; done)); intro w2 hb2 hc2 hz2; have H2 := hide (And.intro hb2 hc2); clear hb2 hc2 hz2))
  refine bodyPost_ret (v := .agg res) (results_blk digest_wide rfl (unhide H2).1 (unhide HS).1 rfl) rfl ⟨rfl, ?_⟩
  exact (((Ext.refl w).alloc _).alloc _).trans' (unhide H2).2 (fun _ _ h => h) (fun i hi e => by omega)

theorem mac_short (key b : List UInt8) (w : World) : Calls Tryd.prog 46 #[.agg ((hmac key b).map u8v).toArray] w fun e w' => e = .returned (.agg ((mac key b).map u8v).toArray) ∧ Ext w w' := short_any _ _ (hmac_length _ _)
theorem mac_length (key b : List UInt8) : (mac key b).length = 16 := by unfold mac; rw [List.length_take, hmac_length]; omega
set_option maxHeartbeats 1000000 in
theorem mac_any (key b : List UInt8) (kv bv : Value) (w : World) (hM : ShaMem w) (hk : Reads w 1 kv key.length (key.map u8v)) (hb : Reads w 1 bv b.length (b.map u8v)) (hkl : key.length ≤ 1000000) (hbl : b.length ≤ 1000000) :
    Calls Tryd.prog 18 #[kv, bv] w fun e w' => e = .returned (.agg ((mac key b).map u8v).toArray) ∧ Ext w w' := by
  have HH := hide (hmac_any key b kv bv _ (hM.ext ((Ext.refl w).alloc (.cells (Array.replicate 16 (.int .u8 0)) 23))) (hk.ext ((Ext.refl w).alloc _)) (hb.ext ((Ext.refl w).alloc _)) hkl hbl)
  have HL := hide (mac_length key b)
  clear hM hk hb
  go_enter Tryd.func18, Tryd.ntmps18
  go_wp2_with fail
  refine (unhide HH).mono ?_
  rintro e w1 ⟨rfl, hE1⟩
  go_wp2_with fail
  refine (mac_short key b _).mono ?_
  rintro e w2 ⟨rfl, hE2⟩
  have hB := (Blk.new w 23 (Array.replicate 16 (.int .u8 0))).ext (hE1.trans hE2)
  have HB := hide (And.intro hB (hE1.trans hE2))
  clear hB hE1 hE2
  go_wp2_with (refine wpList_storeB (ty := 23) (t := 23) (x := .tmp 4) (y := .tmp 8) rfl rfl digest_wide rfl rfl (unhide HB).1 (by simp) ?_ (bytes_one _) ?_; (focus (simpa using unhide HL)); intro w3 hb3 hc3 hz3; have H3 := hide (And.intro hb3 hc3); clear hb3 hc3 hz3)
  refine bodyPost_ret (v := .agg ((mac key b).map u8v).toArray) (results_blk digest_wide rfl (unhide H3).1 (by simpa using unhide HL) rfl) rfl ⟨rfl, ?_⟩
  exact (((Ext.refl w).alloc _).trans (unhide HB).2).trans' (unhide H3).2 (fun _ _ h => h) (fun i hi e => by omega)

/-- A slice of slices of bytes. -/
def Parts (w : World) (v : Value) (ps : List (List UInt8)) : Prop := ∃ vs : List Value, vs.length = ps.length ∧ Reads w 1 v ps.length vs ∧ ∀ (i : Nat) (p : List UInt8), ps[i]? = some p → ∃ u, vs[i]? = some u ∧ Reads w 1 u p.length (p.map u8v)
theorem Parts.ext {w w' : World} {v : Value} {ps : List (List UInt8)} (h : Parts w v ps) (hE : Ext w w') : Parts w' v ps := by
  obtain ⟨vs, h1, h2, h3⟩ := h
  refine ⟨vs, h1, h2.ext hE, fun i p hp => ?_⟩
  obtain ⟨u, h4, h5⟩ := h3 i p hp
  exact ⟨u, h4, h5.ext hE⟩
theorem Parts.chg {S : Nat → Prop} {w w' : World} {v : Value} {ps : List (List UInt8)} (h : Parts w v ps) {B : Nat} (hB : w.heap.size = B) (hE : Chg S w w') (hS : ∀ k, S k → B ≤ k) : Parts w' v ps :=
  h.ext (hE.mono fun k hk hs => by have := hS k hs; omega)
theorem Parts.nil (w : World) : Parts w (.slice none 0 0) [] := ⟨[], rfl, Reads.nil w 1, fun i p h => by simp at h⟩

/-- The encodings of the parts, one behind the other. -/
def encs (ps : List (List UInt8)) : List UInt8 := ps.flatMap wBytes
theorem encs_step (ps : List (List UInt8)) (k : Nat) (h : k < ps.length) : encs (ps.take (k + 1)) = encs (ps.take k) ++ wBytes ps[k] := by
  unfold encs
  rw [take_step ps k h, List.flatMap_append]
  simp
theorem encs_bound (ps : List (List UInt8)) (M : Nat) (h : ∀ p ∈ ps, p.length ≤ M) : (encs ps).length ≤ ps.length * (M + 10) := by
  unfold encs
  induction ps with
  | nil => simp
  | cons p ps ih =>
    have h1 := ih fun q hq => h q (List.mem_cons_of_mem _ hq)
    have h2 := h p List.mem_cons_self
    have h3 := wBytes_length p
    rw [List.flatMap_cons, List.length_append, List.length_cons, Nat.succ_mul]
    omega

end Go.Proofs.YtcjlkjcadaaleaaDoor

/-
  sha's join, Digest, Derive, Stream.
-/
namespace Go.Proofs.YtcjlkjcadaaleaaDoor
open Go.RowKit

theorem own_one (w : World) (B : Nat) (e : TypeId) (x : Value) (hB : B ≤ w.heap.size) : (w.alloc (.cells #[x] e)).ownsRow B e 1 (.slice (some ⟨w.heap.size, 0, none⟩) 1 1) 1 [x] :=
  ⟨by simp, .inr ⟨w.heap.size, 1, #[x], rfl, hB, heap_alloc_new w _, Nat.le_refl _, by unfold maxLen; omega, rfl, rfl⟩⟩

theorem own_one' (w : World) (B : Nat) (e : TypeId) (x : Value) {g : Nat} (hg : g = w.heap.size) (hB : B ≤ w.heap.size) : (w.alloc (.cells #[x] e)).ownsRow B e 1 (.slice (some ⟨g, 0, none⟩) 1 1) 1 [x] := by subst hg; exact own_one w B e x hB
set_option maxRecDepth 100000 in
set_option maxHeartbeats 1000000 in
theorem join_any (v : Value) (l : List UInt8) (pv : Value) (ps : List (List UInt8)) (B : Nat) (w : World) (h : w.ownsRow B 5 1 v l.length (l.map u8v)) (hB : B ≤ w.heap.size) (hp : Parts w pv ps)
    (hl : l.length ≤ 1000000) (hps : ps.length ≤ 1000) (hpl : ∀ p ∈ ps, p.length ≤ 1000000) (hS : ∀ X, Chg (fun k => v.ownBlock = some k) w X → Parts X pv ps) :
    Calls Tryd.prog 45 #[v, pv] w fun e w' => ∃ A c, e = .returned (.slice A (l ++ encs ps).length c) ∧ w'.ownsRow B 5 1 (.slice A (l ++ encs ps).length c) (l ++ encs ps).length ((l ++ encs ps).map u8v) ∧ Onto w v w' (.slice A (l ++ encs ps).length c) := by
  have H0 := hide h
  have HP := hide hp
  have HS := hide hS
  have HPL := hide hpl
  obtain ⟨A1, c1, rfl⟩ : ∃ A c, pv = .slice A ps.length c := by obtain ⟨vs, _, ⟨_, A, c, h, _⟩, _⟩ := hp; exact ⟨A, c, h⟩
  obtain ⟨A0, c0, rfl⟩ := own_slice h
  clear h hp hS hpl
  go_enter Tryd.func45, Tryd.ntmps45
  go_wp2
  go_loopw [0, 9] (fun b i wr => ∃ (k n : Nat) (A : Option Addr) (c : Nat), k ≤ ps.length ∧ i = .int .i64 k ∧ b = .slice A n c ∧ n ≤ 1000000 + k * 1000010 ∧ Hid (n = (l ++ encs (ps.take k)).length ∧ wr.ownsRow B 5 1 (.slice A n c) n ((l ++ encs (ps.take k)).map u8v) ∧ Onto w (.slice A0 l.length c0) wr (.slice A n c))) (fun _ i _ => ps.length - (intOf i).toNat)
  case atStart => exact ⟨0, l.length, A0, c0, Nat.zero_le _, rfl, rfl, by omega, hide ⟨by simp [encs], by simpa [encs] using unhide H0, Onto.refl _ _⟩⟩
  case round =>
    obtain ⟨k, n, A, c, hk, rfl, rfl, hn, HI⟩ := hrel
    by_cases hlt : k < ps.length
    · have hpw : Parts wr (.slice A1 ps.length c1) ps := unhide HS wr (unhide HI).2.2.chg
      obtain ⟨vs, q1, q2, q3⟩ := hpw
      obtain ⟨u, q4, q5⟩ := q3 k ps[k] (List.getElem?_eq_getElem hlt)
      obtain ⟨b, o, c', u', hv, _, _, hb, hu, hcc⟩ := q2.at1 hlt
      cases hv
      rw [q4] at hu
      cases hu
      obtain ⟨Au, cu, rfl⟩ : ∃ A c, u = .slice A ps[k].length c := by obtain ⟨_, A, c, h, _⟩ := q5; exact ⟨A, c, h⟩
      have hpk := unhide HPL ps[k] (List.getElem_mem hlt)
      have HQ5 := hide q5
      have HE := hide (encs_step ps k hlt)
      clear q1 q2 q3 q4 q5
      have hwl := wBytes_length ps[k]
      generalize ps[k] = p at *
      have HW := hide (fun w => wbytes_any (strOf p) w (by rw [strOf_size]; omega))
      rw [strOf_list] at HW
      go_wp2_with (first
        | (refine wpList_strOf (src := 29) (dst := 9) (x := .tmp 14) (l := p) rfl rfl Tryd.underlying29 Tryd.underlying5 Tryd.underlying9 rfl (unhide HQ5) ?_)
        | (go_at_call 20; refine (unhide HW _).mono ?_; rintro e w3 ⟨A3, c3, rfl, ho3, hE3⟩; have H3 := hide (And.intro ho3 hE3); clear ho3 hE3)
        | (at_builtin; refine wpList_app rfl rfl u8_row rfl (ownsRow_ext (unhide HI).2.1 (unhide H3).2) rfl (Reads.of_own (unhide H3).1) (AllOne.u8 _) (by omega) (Nat.le_trans hB (Nat.le_trans (unhide HI).2.2.chg.size (unhide H3).2.size')) ?_; intro A' c4 w4 ho hc hv; have H4 := hide (And.intro ho (((unhide HI).2.2.ext (unhide H3).2).trans (Onto.app hc hv))); clear ho hc hv))
      go_roundw
      case rel =>
        refine ⟨k + 1, n + (wBytes p).length, A', c4, by omega, by go_num, rfl, by rw [Nat.succ_mul]; omega, hide ⟨?_, ?_, (unhide H4).2⟩⟩
        · rw [unhide HE, ← List.append_assoc, List.length_append, ← (unhide HI).1]
        · rw [unhide HE, ← List.append_assoc, List.map_append]
          exact (unhide H4).1
      case measure => simp [intOf]; omega
    · obtain rfl : k = ps.length := by omega
      go_wp2
      go_ret
      obtain ⟨h1, h2, h3⟩ := unhide HI
      rw [List.take_length] at h1 h2
      subst h1
      exact ⟨A, c, rfl, h2, h3⟩

def tagByte (t : Int) : UInt8 := UInt8.ofNat (t % 256).toNat
theorem tag_wrap (t : Int) : t % 256 = ((tagByte t).toNat : Int) := by
  unfold tagByte; simp; omega
def digestS (tag : Int) (ps : List (List UInt8)) : List UInt8 := (sha ([tagByte tag] ++ encs ps)).take 16
def deriveS (key label : List UInt8) (ps : List (List UInt8)) : List UInt8 := mac key (wBytes label ++ encs ps)
theorem digestS_length (tag : Int) (ps : List (List UInt8)) : (digestS tag ps).length = 16 := by unfold digestS; rw [List.length_take, sha_length]; omega
theorem deriveS_length (key label : List UInt8) (ps : List (List UInt8)) : (deriveS key label ps).length = 16 := mac_length _ _
theorem digest_short (tag : Int) (ps : List (List UInt8)) (w : World) : Calls Tryd.prog 46 #[.agg ((sha ([tagByte tag] ++ encs ps)).map u8v).toArray] w fun e w' => e = .returned (.agg ((digestS tag ps).map u8v).toArray) ∧ Ext w w' := short_any _ _ (sha_length _)

set_option maxHeartbeats 1000000 in
theorem digest_any (tag : Int) (ps : List (List UInt8)) (pv : Value) (w : World) (hM : ShaMem w) (hp : Parts w pv ps) (hps : ps.length ≤ 1000) (hpl : ∀ p ∈ ps, p.length ≤ 10000) :
    Calls Tryd.prog 75 #[.int .i64 tag, pv] w fun e w' => e = .returned (.agg ((digestS tag ps).map u8v).toArray) ∧ Ext w w' := by
  have HM := hide hM
  have HP := hide hp
  have HPL := hide hpl
  have HT := hide (tag_wrap tag)
  have HB := hide (encs_bound ps 10000 hpl)
  clear hM hp hpl
  go_enter Tryd.func75, Tryd.ntmps75
  go_wp2_with fail
  rw [unhide HT]
  refine (join_any _ [tagByte tag] _ ps (w.heap.size + 1) _ ?h1 ?h2 ?h3 (by simp) hps ?h4 ?h5).mono ?_
  case h1 => exact own_one' _ _ _ _ (by simp) (by simp)
  case h2 => simp
  case h3 => exact (unhide HP).ext (((Ext.refl w).alloc _).alloc _)
  case h4 => intro p hp; have := unhide HPL p hp; omega
  case h5 =>
    intro X hX
    refine (unhide HP).ext ((((Ext.refl w).alloc _).alloc _).trans' hX (fun _ _ h => h) (fun i hi e => ?_))
    simp [Value.ownBlock] at e
    omega
  rintro e w1 ⟨A, c, rfl, ho, hO⟩
  have hE : Ext w w1 := (((Ext.refl w).alloc _).alloc _).trans' hO.chg (fun _ _ h => h) (fun i hi e => by simp [Value.ownBlock] at e; omega)
  have hB : Blk w1 w.heap.size 23 (Array.replicate 16 (.int .u8 0)) := ((Blk.new w 23 (Array.replicate 16 (.int .u8 0))).alloc _).chg hO.chg (by intro e; simp [Value.ownBlock] at e)
  have H1 := hide (And.intro ho (And.intro hE hB))
  clear ho hO hE hB
  go_wp2_with fail
  refine (sum_any ([tagByte tag] ++ encs ps) _ _ ((unhide HM).ext (unhide H1).2.1) ?hr ?hl).mono ?_
  case hr => have := Reads.of_own (unhide H1).1; first | exact this | (rw [List.length_append] at this; rw [List.length_append]; exact this) | (simp only [List.length_append, List.length_cons, List.length_nil] at this ⊢; exact this)
  case hl =>
    have := unhide HB
    have h2 : ps.length * (10000 + 10) ≤ 1000 * (10000 + 10) := Nat.mul_le_mul_right _ hps
    simp
    omega
  rintro e w2 ⟨rfl, hE2⟩
  go_wp2_with fail
  refine (digest_short tag ps _).mono ?_
  rintro e w3 ⟨rfl, hE3⟩
  have H3 := hide (And.intro ((unhide H1).2.1.trans (hE2.trans hE3)) ((unhide H1).2.2.ext (hE2.trans hE3)))
  clear hE2 hE3
  go_wp2_with (refine wpList_storeB (ty := 23) (t := 23) (x := .tmp 4) (y := .tmp 11) rfl rfl digest_wide rfl rfl (unhide H3).2 (by simp) ?_ (bytes_one _) ?_; (focus (simpa using digestS_length tag ps)); intro w4 hb4 hc4 hz4; have H4 := hide (And.intro hb4 hc4); clear hb4 hc4 hz4)
  refine bodyPost_ret (v := .agg ((digestS tag ps).map u8v).toArray) (results_blk digest_wide rfl (unhide H4).1 (by simpa using digestS_length tag ps) rfl) rfl ⟨rfl, ?_⟩
  exact (unhide H3).1.trans' (unhide H4).2 (fun _ _ h => h) (fun i hi e => by omega)

set_option maxHeartbeats 1000000 in
theorem derive_any (key : List UInt8) (kv : Value) (label : ByteArray) (ps : List (List UInt8)) (pv : Value) (w : World) (hM : ShaMem w) (hk : Reads w 1 kv key.length (key.map u8v)) (hkl : key.length ≤ 10000) (hll : label.size ≤ 10000) (hp : Parts w pv ps) (hps : ps.length ≤ 90) (hpl : ∀ p ∈ ps, p.length ≤ 10000) :
    Calls Tryd.prog 17 #[kv, .string label, pv] w fun e w' => e = .returned (.agg ((deriveS key label.data.toList ps).map u8v).toArray) ∧ Ext w w' := by
  have HM := hide hM
  have HK := hide hk
  have HP := hide hp
  have HPL := hide hpl
  have HB := hide (encs_bound ps 10000 hpl)
  have HW := hide (fun w => wbytes_any label w (by omega))
  have HWL := hide (show (wBytes label.data.toList).length ≤ 10 + label.size from wBytes_length label.data.toList)
  clear hM hp hpl hk
  go_enter Tryd.func17, Tryd.ntmps17
  go_wp2_with fail
  refine (unhide HW _).mono ?_
  rintro e w1 ⟨A1, c1, rfl, ho1, hE1⟩
  have H1 := hide (And.intro ho1 hE1)
  clear ho1 hE1
  have hge : Hid (∀ k, (Value.slice A1 (wBytes label.data.toList).length c1).ownBlock = some k → w.heap.size + 1 ≤ k) := hide (fun k hk => by have := ((unhide H1).1.lt k hk).1; simp at this; omega)
  go_wp2_with fail
  refine (join_any _ (wBytes label.data.toList) _ ps (w.heap.size + 1) _ ?h1 ?h2 ?h3 ?h6 (by omega) ?h4 ?h5).mono ?_
  case h1 => have := (unhide H1).1; simp only [World.size_alloc] at this; exact this
  case h2 => have := (unhide H1).2.size'; simp at this; omega
  case h3 => exact (unhide HP).ext (((Ext.refl w).alloc _).trans (unhide H1).2)
  case h6 => have := unhide HWL; omega
  case h4 => intro p hp; have := unhide HPL p hp; omega
  case h5 =>
    intro X hX
    refine (unhide HP).ext ((((Ext.refl w).alloc _).trans (unhide H1).2).trans' hX (fun _ _ h => h) (fun i hi e => ?_))
    have := unhide hge i e
    omega
  rintro e w2 ⟨A, c, rfl, ho, hO⟩
  have hE : Ext w w2 := (((Ext.refl w).alloc _).trans (unhide H1).2).trans' hO.chg (fun _ _ h => h) (fun i hi e => by have := unhide hge i e; omega)
  have hB : Blk w2 w.heap.size 23 (Array.replicate 16 (.int .u8 0)) := ((Blk.new w 23 (Array.replicate 16 (.int .u8 0))).ext (unhide H1).2).chg hO.chg (by intro e; have := unhide hge _ e; omega)
  have H2 := hide (And.intro ho (And.intro hE hB))
  clear ho hO hE hB
  go_wp2_with fail
  refine (mac_any key (wBytes label.data.toList ++ encs ps) _ _ _ ((unhide HM).ext (unhide H2).2.1) ((unhide HK).ext (unhide H2).2.1) ?hr (by omega) ?hl).mono ?_
  case hr => have := Reads.of_own (unhide H2).1; rw [List.length_append] at this; rw [List.length_append]; exact this
  case hl =>
    have := unhide HB
    have := unhide HWL
    have h2 : ps.length * (10000 + 10) ≤ 90 * (10000 + 10) := Nat.mul_le_mul_right _ hps
    simp
    omega
  rintro e w3 ⟨rfl, hE3⟩
  have H3 := hide (And.intro ((unhide H2).2.1.trans hE3) ((unhide H2).2.2.ext hE3))
  clear hE3
  go_wp2_with (refine wpList_storeB (ty := 23) (t := 23) (x := .tmp 6) (y := .tmp 12) rfl rfl digest_wide rfl rfl (unhide H3).2 (by simp) ?_ (bytes_one _) ?_; (focus (first | (simpa using deriveS_length _ _ _) | (simpa using mac_length _ _))); intro w4 hb4 hc4 hz4; have H4 := hide (And.intro hb4 hc4); clear hb4 hc4 hz4)
  refine bodyPost_ret (v := .agg ((deriveS key label.data.toList ps).map u8v).toArray) (results_blk digest_wide rfl (unhide H4).1 (by simpa using deriveS_length _ _ _) rfl) rfl ⟨rfl, ?_⟩
  exact (unhide H3).1.trans' (unhide H4).2 (fun _ _ h => h) (fun i hi e => by omega)

end Go.Proofs.YtcjlkjcadaaleaaDoor

/-
  sha.Stream.
-/
namespace Go.Proofs.YtcjlkjcadaaleaaDoor
open Go.RowKit

def streamCat (key : List UInt8) (k : Nat) : List UInt8 := (List.range k).flatMap fun j : Nat => hmac key (wInt (j : Int))
def streamS (key : List UInt8) (n : Int) : List UInt8 := (streamCat key ((n.toNat + 31) / 32)).take n.toNat
theorem streamCat_step (key : List UInt8) (k : Nat) : streamCat key (k + 1) = streamCat key k ++ hmac key (wInt k) := by
  unfold streamCat; rw [List.range_succ, List.flatMap_append]; simp
theorem streamCat_length (key : List UInt8) (k : Nat) : (streamCat key k).length = 32 * k := by
  induction k with
  | zero => rfl
  | succ k ih => rw [streamCat_step, List.length_append, ih, hmac_length]; omega
theorem streamCat_pre (key : List UInt8) (k d : Nat) : streamCat key k <+: streamCat key (k + d) := by
  induction d with
  | zero => exact List.prefix_refl _
  | succ d ih => exact ih.trans (by rw [← Nat.add_assoc, streamCat_step]; exact List.prefix_append _ _)
theorem take_pre {α : Type} {a b : List α} (h : a <+: b) {n : Nat} (hn : n ≤ a.length) : b.take n = a.take n := by
  obtain ⟨t, rfl⟩ := h
  rw [List.take_append_of_le_length hn]
theorem streamS_of (key : List UInt8) (N k : Nat) (h : N ≤ 32 * k) : (streamCat key k).take N = streamS key N := by
  have h1 : streamS key N = (streamCat key ((N + 31) / 32)).take N := rfl
  rw [h1]
  rcases Nat.le_total k ((N + 31) / 32) with hk | hk
  · obtain ⟨d, hd⟩ := Nat.exists_eq_add_of_le hk
    rw [hd, take_pre (streamCat_pre key k d) (by rw [streamCat_length]; exact h)]
  · obtain ⟨d, hd⟩ := Nat.exists_eq_add_of_le hk
    rw [hd, take_pre (streamCat_pre key ((N + 31) / 32) d) (by rw [streamCat_length]; omega)]
theorem streamS_length (key : List UInt8) (n : Int) : (streamS key n).length = n.toNat := by
  unfold streamS; rw [List.length_take, streamCat_length]; omega
theorem streamS_prefix (key : List UInt8) (n : Int) (m : Nat) : (streamS key (max n 0 + m)).take n.toNat = streamS key n := by
  have e1 : (max n 0 + (m : Int)).toNat = n.toNat + m := by omega
  have h1 : streamS key (max n 0 + m) = streamS key ((n.toNat + m : Nat) : Int) := by unfold streamS; rw [e1]; rfl
  have h2 : streamS key n = streamS key (n.toNat : Int) := by unfold streamS; rfl
  rw [h1, h2, ← streamS_of key (n.toNat + m) (n.toNat + m) (by omega), ← streamS_of key n.toNat (n.toNat + m) (by omega), List.take_take]
  congr 1
  omega

theorem stream_neg (kv : Value) (n : Int) (w : World) (hn : n < 0) :
    Calls Tryd.prog 78 #[kv, .int .i64 n] w fun e w' => e = .returned (.slice none 0 0) ∧ w = w' := by
  have d0 : decide (0 < n) = false := decide_eq_false (by omega)
  go_enter Tryd.func78, Tryd.ntmps78
  go_wp2
  go_loop [5] (fun b => b = .slice none 0 0) (fun _ => 0)
  case atStart => rfl
  case round =>
    subst hrel
    go_wp2
    go_ret
    exact ⟨rfl, rfl⟩

set_option maxRecDepth 100000 in
set_option maxHeartbeats 2000000 in
theorem stream_pos (key : List UInt8) (kv : Value) (N : Nat) (w : World) (hM : ShaMem w) (hk : Reads w 1 kv key.length (key.map u8v)) (hkl : key.length ≤ 10000) (hN : N ≤ 100000) :
    Calls Tryd.prog 78 #[kv, .int .i64 (N : Int)] w fun e w' => ∃ A c, e = .returned (.slice A N c) ∧ w'.ownsRow w.heap.size 5 1 (.slice A N c) N ((streamS key N).map u8v) ∧ Ext w w' := by
  have HM := hide hM
  have HK := hide hk
  clear hM hk
  have hkl : key.length ≤ 1000000 := by omega
  go_enter Tryd.func78, Tryd.ntmps78
  go_wp2
  go_loopw [5, 6] (fun b i wr => ∃ (k m : Nat) (A : Option Addr) (c : Nat), k ≤ N ∧ i = .int .i64 k ∧ b = .slice A m c ∧ m ≤ N ∧ Hid (m = min (32 * k) N ∧ wr.ownsRow w.heap.size 5 1 (.slice A m c) m (((streamCat key k).take N).map u8v) ∧ Ext w wr)) (fun b _ _ => match b with | .slice _ m _ => N - m | _ => 0)
  case atStart => exact ⟨0, 0, none, 0, Nat.zero_le _, rfl, rfl, by omega, hide ⟨by omega, by rw [show streamCat key 0 = [] from rfl, List.take_nil]; exact World.ownsRow_nil _ _ _ _, Ext.refl _⟩⟩
  case round =>
    obtain ⟨k, m, A, c, hkN, rfl, rfl, hm, HI⟩ := hrel
    by_cases hlt : m < N
    · by_cases hq : 32 ≤ N - m
      · go_wp2_with (first
          | (go_at_call 19; refine (wint_any (k : Int) _ (by omega) (by omega)).mono ?_; rintro e w2 ⟨A2, c2, rfl, ho2, hE2⟩; have H2 := hide (And.intro ho2 hE2); clear ho2 hE2)
          | (go_at_call 47; refine (hmac_any key (wInt k) _ _ _ ((unhide HM).ext ((unhide HI).2.2.trans (unhide H2).2)) ((unhide HK).ext ((unhide HI).2.2.trans (unhide H2).2)) (Reads.of_own (unhide H2).1) hkl (by have := wInt_length k; omega)).mono ?_; rintro e w3 ⟨rfl, hE3⟩; have H3 := hide hE3; clear hE3)
          | (refine wpList_storeB (ty := 82) (t := 82) (x := .tmp 7) (y := .tmp 17) rfl rfl arr32_wide rfl rfl (Blk.new _ _ _) rfl ?_ (bytes_one _) ?_; (focus (simpa using hmac_length _ _)); intro w4 hb4 hc4 hz4; have HOW := hide (ownsRow_chg (ownsRow_ext (unhide HI).2.1 (((unhide H2).2.trans (unhide H3)).alloc _)) hc4 (fun q hq e => by have := ((unhide HI).2.1.lt q hq).2; have s := ((unhide H2).2.trans (unhide H3)).size'; omega)); have HEW := hide (show Ext wr w4 from (((unhide H2).2.trans (unhide H3)).alloc _).trans' hc4 (fun _ _ h => h) (fun i hi e => by have s := ((unhide H2).2.trans (unhide H3)).size'; omega)); have HRW := hide (show Reads w4 1 (.slice (some ⟨w3.heap.size, 0, none⟩) (32) 32) (32) (((hmac key (wInt k)).take (32)).map u8v) from by (have := Reads.of_blk hb4 (i := 0) (n := 32) (c := 32) (by rw [List.size_toArray, List.length_map, hmac_length]; omega) (by omega) (by unfold maxLen; omega)); simp only [List.drop_zero] at this; rw [List.map_take]; exact this); clear hb4 hc4 hz4)
          | (at_builtin; refine wpList_app rfl rfl u8_row rfl (unhide HOW) rfl (unhide HRW) (AllOne.u8 _) (by omega) (Nat.le_trans (unhide HI).2.2.size' (unhide HEW).size') ?_; intro A' c' w5 ho hc hv; have H5 := hide (And.intro ho hc); clear ho hc hv))
        go_roundw
        case rel =>
          refine ⟨k + 1, m + (32), A', c', by have := (unhide HI).1; omega, by go_num, rfl, by omega, hide ⟨by have := (unhide HI).1; omega, ?_, ((unhide HI).2.2.trans (unhide HEW)).trans' (unhide H5).2 (fun _ _ h => h) (fun i hi e => by have := ((unhide HI).2.1.lt i e).1; omega)⟩⟩
          have e1 : (streamCat key (k + 1)).take N = (streamCat key k).take N ++ (hmac key (wInt k)).take (32) := by
            have := (unhide HI).1
            rw [streamCat_step, List.take_append, streamCat_length]
            congr 1
            rw [List.take_eq_take_iff, hmac_length]
            omega
          rw [e1, List.map_append]
          exact (unhide H5).1
        case measure => simp; omega
      · obtain ⟨q, hqa, hqb⟩ : ∃ q, m + q ≤ N ∧ N ≤ m + q := ⟨N - m, by omega, by omega⟩
        have hnm : ((N : Int) - (m : Int)) = (q : Int) := by omega
        have hb32 : q ≤ 32 := by omega
        have hb31 : q < 32 := by omega
        have hb33 : (q : Int) ≤ 32 := by omega
        go_wp2_with (first
          | (go_at_call 19; refine (wint_any (k : Int) _ (by omega) (by omega)).mono ?_; rintro e w2 ⟨A2, c2, rfl, ho2, hE2⟩; have H2 := hide (And.intro ho2 hE2); clear ho2 hE2)
          | (go_at_call 47; refine (hmac_any key (wInt k) _ _ _ ((unhide HM).ext ((unhide HI).2.2.trans (unhide H2).2)) ((unhide HK).ext ((unhide HI).2.2.trans (unhide H2).2)) (Reads.of_own (unhide H2).1) hkl (by have := wInt_length k; omega)).mono ?_; rintro e w3 ⟨rfl, hE3⟩; have H3 := hide hE3; clear hE3)
          | (refine wpList_storeB (ty := 82) (t := 82) (x := .tmp 7) (y := .tmp 17) rfl rfl arr32_wide rfl rfl (Blk.new _ _ _) rfl ?_ (bytes_one _) ?_; (focus (simpa using hmac_length _ _)); intro w4 hb4 hc4 hz4; have HOW := hide (ownsRow_chg (ownsRow_ext (unhide HI).2.1 (((unhide H2).2.trans (unhide H3)).alloc _)) hc4 (fun q hq e => by have := ((unhide HI).2.1.lt q hq).2; have s := ((unhide H2).2.trans (unhide H3)).size'; omega)); have HEW := hide (show Ext wr w4 from (((unhide H2).2.trans (unhide H3)).alloc _).trans' hc4 (fun _ _ h => h) (fun i hi e => by have s := ((unhide H2).2.trans (unhide H3)).size'; omega)); have HRW := hide (show Reads w4 1 (.slice (some ⟨w3.heap.size, 0, none⟩) (q) 32) (q) (((hmac key (wInt k)).take (q)).map u8v) from by (have := Reads.of_blk hb4 (i := 0) (n := q) (c := 32) (by rw [List.size_toArray, List.length_map, hmac_length]; omega) (by omega) (by unfold maxLen; omega)); simp only [List.drop_zero] at this; rw [List.map_take]; exact this); clear hb4 hc4 hz4)
          | (at_builtin; refine wpList_app rfl rfl u8_row rfl (unhide HOW) rfl (unhide HRW) (AllOne.u8 _) (by omega) (Nat.le_trans (unhide HI).2.2.size' (unhide HEW).size') ?_; intro A' c' w5 ho hc hv; have H5 := hide (And.intro ho hc); clear ho hc hv))
        go_roundw
        case rel =>
          refine ⟨k + 1, m + (q), A', c', by have := (unhide HI).1; omega, by go_num, rfl, by omega, hide ⟨by have := (unhide HI).1; omega, ?_, ((unhide HI).2.2.trans (unhide HEW)).trans' (unhide H5).2 (fun _ _ h => h) (fun i hi e => by have := ((unhide HI).2.1.lt i e).1; omega)⟩⟩
          have e1 : (streamCat key (k + 1)).take N = (streamCat key k).take N ++ (hmac key (wInt k)).take (q) := by
            have := (unhide HI).1
            rw [streamCat_step, List.take_append, streamCat_length]
            congr 1
            rw [List.take_eq_take_iff, hmac_length]
            omega
          rw [e1, List.map_append]
          exact (unhide H5).1
        case measure => simp; omega
    · obtain rfl : m = N := by omega
      go_wp2
      go_ret
      obtain ⟨h1, h2, h3⟩ := unhide HI
      rw [streamS_of key m k (by omega)] at h2
      exact ⟨A, c, rfl, h2, h3⟩

end Go.Proofs.YtcjlkjcadaaleaaDoor

/-
  box.tag.
-/
namespace Go.Proofs.YtcjlkjcadaaleaaDoor
open Go.RowKit

def labAuth : ByteArray := { data := #[97, 117, 116, 104, 101, 110, 116, 105, 99, 97, 116, 101] }
def labEnc : ByteArray := { data := #[101, 110, 99, 114, 121, 112, 116] }
def tagS (key : List UInt8) (nonce : Int) (c : List UInt8) : List UInt8 := mac (deriveS key labAuth.data.toList []) (wInt nonce ++ wBytes c)
theorem tagS_length (key : List UInt8) (nonce : Int) (c : List UInt8) : (tagS key nonce c).length = 16 := mac_length _ _

set_option maxRecDepth 100000 in
set_option maxHeartbeats 2000000 in
theorem tag_any (key : List UInt8) (nonce : Int) (c : ByteArray) (w : World) (hM : ShaMem w) (hk : key.length = 16) (h1 : -9223372036854775808 ≤ nonce) (h2 : nonce < 9223372036854775808) (hc : c.size ≤ 100000) :
    Calls Tryd.prog 44 #[.agg (key.map u8v).toArray, .int .i64 nonce, .string c] w fun e w' => e = .returned (.agg ((tagS key nonce c.data.toList).map u8v).toArray) ∧ Ext w w' := by
  obtain ⟨arr, harr⟩ : ∃ r, (key.map u8v).toArray = r := ⟨_, rfl⟩
  obtain ⟨dk, hdk⟩ : ∃ d, deriveS key labAuth.data.toList [] = d := ⟨_, rfl⟩
  obtain ⟨res, hres⟩ : ∃ d, tagS key nonce c.data.toList = d := ⟨_, rfl⟩
  have hdl : dk.length = 16 := by rw [← hdk]; exact deriveS_length _ _ _
  have HM := hide hM
  have HW1 := hide (fun w => wint_any nonce w h1 h2)
  have HW2 := hide (fun w => wbytes_any c w (by omega))
  have HB := hide (show (wInt nonce).length ≤ 10 ∧ (wBytes c.data.toList).length ≤ 10 + c.size from ⟨wInt_length _, wBytes_length c.data.toList⟩)
  have HR := hide hres
  have HD := hide hdk
  have HA := hide harr
  rw [harr, hres]
  clear harr hdk hres hM h1 h2
  have hasz : arr.size = 16 := by rw [← unhide HA]; simpa using hk
  go_enter Tryd.func44, Tryd.ntmps44
  go_wp2_with fail
  refine (derive_any key _ labAuth [] _ _ ((unhide HM).ext (((Ext.refl w).alloc _).alloc _)) ?_ (by omega) (by decide) (Parts.nil _) (by simp) (fun p hp => by cases hp)).mono ?_
  · have := Reads.of_blk ((Blk.new w 23 arr).alloc (.cells (Array.replicate 16 (.int .u8 0)) 23)) (i := 0) (n := 16) (c := 16) (by omega) (by omega) (by unfold maxLen; omega)
    rw [← unhide HA] at this
    simp only [List.drop_zero] at this
    rw [List.take_of_length_le (by rw [List.length_map]; omega), unhide HA] at this
    rw [hk]
    exact this
  rintro e w1 ⟨rfl, hE1⟩
  rw [unhide HD]
  have H1 := hide (show Ext w w1 ∧ Blk w1 (w.heap.size + 1) 23 (Array.replicate 16 (.int .u8 0)) ∧ w.heap.size + 2 ≤ w1.heap.size from ⟨(((Ext.refl w).alloc _).alloc _).trans hE1, (Blk.new' (w.alloc (.cells arr 23)) _ _ (by simp)).ext hE1, by have := hE1.size'; simp at this; omega⟩)
  clear hE1
  have HS := hide (show ((dk.map u8v).toArray).size = 16 from by simpa using hdl)
  go_wp2_with (refine wpList_storeB (ty := 23) (t := 23) (x := .tmp 7) (y := .tmp 9) rfl rfl digest_wide rfl rfl (Blk.new w1 _ _) rfl (unhide HS) (bytes_one _) ?_; intro w2 hb2 hc2 hz2; have H2 := hide (show Blk w2 w1.heap.size 23 ((dk.map u8v).toArray) ∧ Ext w w2 ∧ Blk w2 (w.heap.size + 1) 23 (Array.replicate 16 (.int .u8 0)) from ⟨hb2, ((unhide H1).1.alloc _).trans' hc2 (fun _ _ h => h) (fun i hi e => by have := (unhide H1).2.2; omega), ((unhide H1).2.1.alloc _).chg hc2 (by have := (unhide H1).2.2; omega)⟩); clear hb2 hc2 hz2)
  have HK := hide (show Reads w2 1 (.slice (some ⟨w1.heap.size, 0, none⟩) 16 16) dk.length (dk.map u8v) from by
    have := Reads.of_blk (unhide H2).1 (i := 0) (n := 16) (c := 16) (by rw [unhide HS]; omega) (by omega) (by unfold maxLen; omega)
    simp only [List.drop_zero] at this
    rw [List.take_of_length_le (by rw [List.length_map]; omega)] at this
    rw [hdl]
    exact this)
  have HMR := hide (show mac dk (wInt nonce ++ wBytes c.data.toList) = res from by rw [← unhide HR, ← unhide HD]; rfl)
  have HRS := hide (show ((res.map u8v).toArray).size = 16 from by rw [← unhide HR]; simpa using tagS_length _ _ _)
  have hB := hide (show (wInt nonce).length + (wBytes c.data.toList).length ≤ 1000000 from by have := unhide HB; omega)
  go_region_law (first
    | (refine step_app (s := .tmp 12) (x := .tmp 14) rfl rfl u8_row rfl (ownsRow_ext (unhide H3).1 (unhide H4).2.1) rfl (Reads.of_own (unhide H4).1) (AllOne.u8 _) (by have := unhide hB; omega) (Nat.le_trans (unhide H3).2.2 (unhide H4).2.2) ?_; intro A5 c5 w5 ho5 hc5 hv5; have H5 := hide (show Reads w5 1 (.slice A5 ((wInt nonce).length + (wBytes c.data.toList).length) c5) ((wInt nonce).length + (wBytes c.data.toList).length) ((wInt nonce).map u8v ++ (wBytes c.data.toList).map u8v) ∧ Ext w2 w5 from ⟨Reads.of_own ho5, (((unhide H3).2.1.trans (unhide H4).2.1)).trans' hc5 (fun _ _ h => h) (fun i hi e => by have := ((unhide H3).1.lt i e).1; simp at this; omega)⟩); clear ho5 hc5 hv5)
    | (go_simp; go_at_call 19; refine (unhide HW1 _).mono ?_; rintro e w3 ⟨A3, c3, rfl, ho3, hE3⟩; have H3 := hide (And.intro ho3 (And.intro (((Ext.refl w2).drew).trans hE3) hE3.size')); clear ho3 hE3)
    | (go_simp; go_at_call 20; refine (unhide HW2 _).mono ?_; rintro e w4 ⟨A4, c4, rfl, ho4, hE4⟩; have H4 := hide (And.intro ho4 (And.intro hE4 hE4.size')); clear ho4 hE4)
    | (rename_i K hK; go_simp; go_at_call 18
       refine (mac_any dk (wInt nonce ++ wBytes c.data.toList) _ _ _ ((unhide HM).ext ((unhide H2).2.1.trans (unhide H5).2)) ((unhide HK).ext (unhide H5).2) ?_ (by omega) ?_).mono ?_
       (focus (rw [List.map_append, List.length_append]; exact (unhide H5).1))
       (focus (have := unhide hB; rw [List.length_append]; omega))
       rintro e w6 ⟨rfl, hE6⟩
       rw [unhide HMR]
       have H6 := hide (show Ext w w6 ∧ Blk w6 (w.heap.size + 1) 23 (Array.replicate 16 (.int .u8 0)) from ⟨((unhide H2).2.1.trans (unhide H5).2).trans hE6, (unhide H2).2.2.ext ((unhide H5).2.trans hE6)⟩)
       clear hE6
       dsimp only
       refine hK _ _ ?_
       clear hK K
       refine wpAny_ready (rs := [7]) (by kernel_rfl) (by simp) (AllReady.cons rfl (fun J hJ => ?_) AllReady.nil)
       refine step_storeB (ty := 23) (t := 23) (x := .tmp 6) (y := .tmp 16) rfl rfl digest_wide rfl rfl (unhide H6).2 ?_ ?_ ?_ ?_
       · rw [Array.size_replicate]
       · exact unhide HRS
       · exact bytes_one _
       intro w7 hb7 hc7 hz7
       have H7 := hide (And.intro hb7 hc7)
       clear hb7 hc7 hz7
       refine hJ _ _ ?_
       clear hJ J))
  go_wp2
  refine bodyPost_ret (v := .agg ((res.map u8v).toArray)) (results_blk digest_wide rfl (unhide H7).1 (unhide HRS) rfl) rfl ⟨rfl, ?_⟩
  exact (unhide H6).1.trans' (unhide H7).2 (fun _ _ h => h) (fun i hi e => by omega)

end Go.Proofs.YtcjlkjcadaaleaaDoor

/-
  box.apply.
-/
namespace Go.Proofs.YtcjlkjcadaaleaaDoor
open Go.RowKit

def keyS (key : List UInt8) (nonce : Int) : List UInt8 := deriveS key labEnc.data.toList [wInt nonce]
def applyS (key : List UInt8) (nonce : Int) (s : List UInt8) : List UInt8 := List.zipWith (· ^^^ ·) s (streamS (keyS key nonce) s.length)

def mixS (s x : List UInt8) (k : Nat) : List UInt8 := (List.zipWith (· ^^^ ·) s x).take k ++ s.drop k
theorem mixS_zero (s x : List UInt8) : mixS s x 0 = s := by unfold mixS; simp
theorem mixS_end (s x : List UInt8) (h : x.length = s.length) : mixS s x s.length = List.zipWith (· ^^^ ·) s x := by
  unfold mixS
  rw [List.drop_length, List.append_nil, List.take_of_length_le (by rw [List.length_zipWith]; omega)]
theorem mixS_length (s x : List UInt8) (k : Nat) (h : x.length = s.length) (hk : k ≤ s.length) : (mixS s x k).length = s.length := by
  unfold mixS
  rw [List.length_append, List.length_take, List.length_zipWith, List.length_drop]
  omega
theorem mixS_at (s x : List UInt8) (k : Nat) (h : x.length = s.length) (hk : k < s.length) : (mixS s x k)[k]? = some s[k] := by
  unfold mixS
  rw [List.getElem?_append_right (by rw [List.length_take]; omega), List.length_take, List.length_zipWith, List.getElem?_drop, show min k (min s.length x.length) = k from by omega, Nat.sub_self, Nat.add_zero, List.getElem?_eq_getElem hk]
theorem mixS_step (s x : List UInt8) (k : Nat) (h : x.length = s.length) (hk : k < s.length) : mixS s x (k + 1) = (mixS s x k).set k (s[k] ^^^ x[k]) := by
  apply List.ext_getElem?
  intro i
  unfold mixS
  rw [List.getElem?_set]
  have hl : ((List.zipWith (· ^^^ ·) s x).take k).length = k := by rw [List.length_take, List.length_zipWith]; omega
  have hl' : ((List.zipWith (· ^^^ ·) s x).take (k + 1)).length = k + 1 := by rw [List.length_take, List.length_zipWith]; omega
  rw [List.getElem?_append, List.getElem?_append, hl, hl', List.length_append, hl, List.length_drop]
  by_cases h1 : i < k
  · rw [if_pos (by omega), if_neg (by omega), if_pos h1, List.getElem?_take, List.getElem?_take, if_pos (by omega), if_pos h1]
  · by_cases h2 : k = i
    · subst h2
      rw [if_pos (by omega), if_pos rfl, if_pos (by omega), List.getElem?_take, if_pos (by omega), List.getElem?_zipWith, List.getElem?_eq_getElem hk, List.getElem?_eq_getElem (by omega)]
    · rw [if_neg (by omega), if_neg h2, if_neg h1, List.getElem?_drop, List.getElem?_drop]
      congr 1
      omega

/-- The deferred closure: the result is the bytes at hand. -/
theorem applyD (l : List UInt8) (v o : Value) (g7 g6 : Nat) (u : FrameMode) (w : World) (h7 : w.cell? ⟨g7, 0, none⟩ = some v) (h6 : w.cell? ⟨g6, 0, none⟩ = some o) (f6 : w.frozen? ⟨g6, 0, none⟩ = false) (hr : Reads w 1 v l.length (l.map u8v)) :
    CallsD Tryd.prog 77 #[.pointer (some ⟨g7, 0, none⟩), .pointer (some ⟨g6, 0, none⟩)] u w fun e u' w' => u' = u ∧ (e = .returned (.tuple #[]) ∧ w' = w.setCell ⟨g6, 0, none⟩ (.string (strOf l))) := by
  have hc := run_str_of (P := Tryd.prog) (w := w) Tryd.underlying29 Tryd.underlying5 Tryd.underlying9 hr
  obtain ⟨A, c, rfl⟩ : ∃ A c, v = .slice A l.length c := by obtain ⟨_, A, c, h, _⟩ := hr; exact ⟨A, c, h⟩
  go_enter_d Tryd.func77, Tryd.ntmps77
  go_wp2
  go_end0
  exact ⟨rfl, rfl⟩

set_option maxRecDepth 100000 in
set_option maxHeartbeats 2000000 in
theorem apply_any (key : List UInt8) (nonce : Int) (s : ByteArray) (w : World) (hM : ShaMem w) (hk : key.length = 16) (h1 : -9223372036854775808 ≤ nonce) (h2 : nonce < 9223372036854775808) (hs : s.size ≤ 100000) :
    Calls Tryd.prog 43 #[.agg (key.map u8v).toArray, .int .i64 nonce, .string s] w fun e w' => e = .returned (.string (strOf (applyS key nonce s.data.toList))) ∧ Ext w w' := by
  obtain ⟨arr, harr⟩ : ∃ r, (key.map u8v).toArray = r := ⟨_, rfl⟩
  have HM := hide hM
  have HW1 := hide (fun w => wint_any nonce w h1 h2)
  have HA := hide harr
  rw [harr]
  clear harr hM h1 h2
  have hasz : arr.size = 16 := by rw [← unhide HA]; simpa using hk
  have hmf : ∀ (fn : Fn) (first cap : Array Value) (w : World), (Instr.makeFunc fn first cap).run Tryd.prog w = .ok (.func fn first cap) w := fun _ _ _ _ => rfl
  go_enter_defers Tryd.func43, Tryd.ntmps43
  go_wp2_with (refine wpList_bytesOf rfl rfl Tryd.underlying9 Tryd.underlying29 Tryd.underlying5 rfl (by unfold maxLen; omega) ?_; intro c1 w1 hr1 hE1 hf1; have H1 := hide (And.intro hr1 (And.intro hE1 hf1)); clear hr1 hE1 hf1)
  have hsz1 : w.heap.size + 2 ≤ w1.heap.size := by have h2 := (unhide H1).2.1.size'; simp at h2; omega
  have HRB := hide (show Reads (w1.alloc (.cells #[.slice (some ⟨w.heap.size + 1 + 1, 0, none⟩) s.size c1] 29)) 1 (.slice (some ⟨w.heap.size + 1 + 1, 0, none⟩) s.size c1) s.size (s.data.toList.map byteV) ∧ ∀ i, i < s.size → (w1.alloc (.cells #[.slice (some ⟨w.heap.size + 1 + 1, 0, none⟩) s.size c1] 29)).frozen? ⟨w.heap.size + 1 + 1, i, none⟩ = false from by
    have h1 := (unhide H1).1
    have h3 := (unhide H1).2.2
    simp only [World.size_alloc] at h1 h3
    refine ⟨h1.ext ((Ext.refl w1).alloc _), fun i hi => ?_⟩
    obtain ⟨_, hc⟩ : ∃ u, w1.cell? ⟨w.heap.size + 1 + 1, i, none⟩ = some u := by
      obtain ⟨b, o, c, u, hv, _, _, _, _, hcc⟩ := h1.at1 hi
      cases hv
      exact ⟨u, by simpa using hcc⟩
    exact Ext.frozenv ((Ext.refl w1).alloc _) (h3 i hi) (lt_of_cell hc))
  have HB6 := hide (show Blk (w1.alloc (.cells #[.slice (some ⟨w.heap.size + 1 + 1, 0, none⟩) s.size c1] 29)) (w.heap.size + 1) 9 #[.string { data := #[] }] from ((Blk.new' (w.alloc (.cells arr 23)) _ _ (by simp)).ext (unhide H1).2.1).alloc _)
  have HB7 := hide (show Blk (w1.alloc (.cells #[.slice (some ⟨w.heap.size + 1 + 1, 0, none⟩) s.size c1] 29)) w1.heap.size 29 #[.slice (some ⟨w.heap.size + 1 + 1, 0, none⟩) s.size c1] from Blk.new _ _ _)
  have HBA := hide (show Blk (w1.alloc (.cells #[.slice (some ⟨w.heap.size + 1 + 1, 0, none⟩) s.size c1] 29)) w.heap.size 23 arr from ((((Blk.new w _ arr).alloc _).ext (unhide H1).2.1).alloc _))
  have HP := hide (show Ext w (w1.alloc (.cells #[.slice (some ⟨w.heap.size + 1 + 1, 0, none⟩) s.size c1] 29)) from ((((Ext.refl w).alloc _).alloc _).trans (unhide H1).2.1).alloc _)
  generalize hW0 : (w1.alloc (.cells #[.slice (some ⟨w.heap.size + 1 + 1, 0, none⟩) s.size c1] 29)) = W0
  rw [hW0] at HP HRB HB6 HB7 HBA
  obtain ⟨dk, hdk⟩ : ∃ d, keyS key nonce = d := ⟨_, rfl⟩
  have HD := hide hdk
  have HKA := hide (show Reads W0 1 (.slice (some ⟨w.heap.size, 0, none⟩) 16 16) key.length (key.map u8v) from by
    have := Reads.of_blk (unhide HBA) (i := 0) (n := 16) (c := 16) (by omega) (by omega) (by unfold maxLen; omega)
    rw [← unhide HA] at this
    simp only [List.drop_zero] at this
    rw [List.take_of_length_le (by rw [List.length_map]; omega)] at this
    rw [hk]
    exact this)
  clear hdk
  have HPC := hide (fun (W4 : World) (pv : Value) (A3 : Option Addr) (c3 : Nat) (hX : Ext W0 W4) (hpv : Reads W4 1 pv 1 [.slice A3 (wInt nonce).length c3]) (hr : Reads W4 1 (.slice A3 (wInt nonce).length c3) (wInt nonce).length ((wInt nonce).map u8v)) => derive_any key (.slice (some ⟨w.heap.size, 0, none⟩) 16 16) labEnc [wInt nonce] pv W4 ((unhide HM).ext ((unhide HP).trans hX)) ((unhide HKA).ext hX) (by omega) (by decide) ⟨[.slice A3 (wInt nonce).length c3], rfl, hpv, fun i p hp => by
    cases i with
    | zero => cases hp; exact ⟨_, rfl, hr⟩
    | succ i => simp at hp⟩ (by simp) (fun p hp => by simp at hp; subst hp; have := wInt_length nonce; omega))
  go_cut [8] from 14 to 18 (fun s8 wx => ∃ g, s8 = .pointer (some ⟨g, 0, none⟩) ∧ Hid (Blk wx g 23 ((dk.map u8v).toArray) ∧ Ext W0 wx ∧ W0.heap.size ≤ g))
  case first =>
    have HS := hide (show ((dk.map u8v).toArray).size = 16 from by rw [← unhide HD]; unfold keyS; simpa using deriveS_length _ _ _)
    refine wp_region_noPanic ?_
    go_region_law (first
      | (go_simp; go_at_call 19; refine (unhide HW1 _).mono ?_; rintro e w3 ⟨A3, c3, rfl, ho3, hE3⟩
         first
         | (have H3 := hide (show Reads w3 1 (.slice A3 (wInt nonce).length c3) (wInt nonce).length ((wInt nonce).map u8v) ∧ Ext W0 w3 ∧ True from And.intro (Reads.of_own ho3) (And.intro (((Ext.refl W0).drew).trans hE3) trivial)); clear ho3 hE3)
         | (have H3 := hide (show Reads w3 1 (.slice A3 (wInt nonce).length c3) (wInt nonce).length ((wInt nonce).map u8v) ∧ Ext W0 w3 ∧ Blk w3 W0.heap.size 23 (Array.replicate 16 (.int .u8 0)) from And.intro (Reads.of_own ho3) (And.intro ((((Ext.refl W0).drew).alloc _).trans hE3) ((Blk.new W0.drew _ _).ext hE3))); clear ho3 hE3))
      | (rename_i K hK; go_simp; go_at_call 17; refine (unhide HPC _ _ A3 c3 ?_ ?_ ?_).mono ?_
         (focus (first | exact (unhide H3).2.1.alloc _ | exact ((unhide H3).2.1.alloc _).alloc _))
         (focus (first | exact Reads.new1 _ _ _ | exact (Reads.new1 _ _ _).ext ((Ext.refl _).alloc _) | (have h := Reads.new1 (w3.alloc (.cells (Array.replicate 16 (.int .u8 0)) 23)) (.slice A3 (wInt nonce).length c3) 29; rw [World.size_alloc] at h; exact h)))
         (focus (first | exact (unhide H3).1.ext ((Ext.refl _).alloc _) | exact (unhide H3).1.ext (((Ext.refl _).alloc _).alloc _)))
         rintro e w5 ⟨rfl, hE5⟩
         rw [show deriveS key labEnc.data.toList [wInt nonce] = dk from unhide HD]
         have H5 := hide (show Ext W0 w5 ∧ Ext _ w5 from And.intro (by first | exact ((unhide H3).2.1.alloc _).trans hE5 | exact (((unhide H3).2.1.alloc _).alloc _).trans hE5) hE5)
         clear hE5
         dsimp only
         refine hK _ _ ?_
         clear hK K
         first
         | (refine wpAny_ready (rs := [5]) (by kernel_rfl) (by simp) (AllReady.cons rfl (fun J hJ => ?_) AllReady.nil)
            rw [if_pos (by rfl)]
            go_simp
            refine hJ _ _ ?_
            clear hJ J
            refine wpAny_ready (rs := [6]) (by kernel_rfl) (by simp) (AllReady.cons rfl (fun J hJ => ?_) AllReady.nil)
            refine step_storeB (ty := 23) (t := 23) (x := .tmp 8) (y := .tmp 18) rfl rfl digest_wide rfl rfl (Blk.new w5 _ _) ?_ ?_ ?_ ?_
            · rfl
            · exact unhide HS
            · exact bytes_one _
            intro w7 hb7 hc7 hz7
            have H7 := hide (And.intro hb7 (And.intro (((unhide H5).1.alloc _).trans' hc7 (fun _ _ h => h) (fun i hi e => by have := (unhide H5).1.size'; omega)) (unhide H5).1.size'))
            clear hb7 hc7 hz7
            refine hJ _ _ ?_
            clear hJ J)
         | (refine wpAny_ready (rs := [6]) (by kernel_rfl) (by simp) (AllReady.cons rfl (fun J hJ => ?_) AllReady.nil)
            have hz3 := (unhide H3).2.1.size'
            refine step_storeB (ty := 23) (t := 23) (x := .tmp 8) (y := .tmp 18) (old := Array.replicate 16 (.int .u8 0)) rfl rfl digest_wide rfl rfl ?_ ?_ ?_ ?_ ?_
            · first | exact (((unhide H3).2.2).alloc _).ext (unhide H5).2 | exact ((Blk.new w3 _ _).alloc _).ext (unhide H5).2 | exact (Blk.new' (w3.alloc _) _ _ (by simp)).ext (unhide H5).2
            · rfl
            · exact unhide HS
            · exact bytes_one _
            intro w7 hb7 hc7 hz7
            have H7 := hide (And.intro hb7 (And.intro ((unhide H5).1.trans' hc7 (fun _ _ h => h) (fun i hi e => by omega)) (show W0.heap.size ≤ _ by omega)))
            clear hb7 hc7 hz7 hz3
            refine hJ _ _ ?_
            clear hJ J)))
    all_goals
      refine NoPanic.normal ?_
      go_wp2_with fail
      go_meet
      exact ⟨_, rfl, hide ⟨(unhide H7).1, (unhide H7).2.1, by have := (unhide H7).2.2; omega⟩⟩
  case rest =>
    obtain ⟨g8, rfl, H8⟩ := hcut
    have HS := hide (show ((dk.map u8v).toArray).size = 16 ∧ dk.length = 16 from by rw [← unhide HD]; unfold keyS; exact ⟨by simpa using deriveS_length _ _ _, deriveS_length _ _ _⟩)
    have c7 := ((unhide HB7).ext (unhide H8).2.1).cell 0
    have HQ := hide (fun (W : World) (hE : Ext wc W) => stream_pos dk (.slice (some ⟨g8, 0, none⟩) 16 16) s.size W ((unhide HM).ext (((unhide HP).trans (unhide H8).2.1).trans hE)) (by
      have := Reads.of_blk ((unhide H8).1.ext hE) (i := 0) (n := 16) (c := 16) (by rw [(unhide HS).1]; omega) (by omega) (by unfold maxLen; omega)
      simp only [List.drop_zero] at this
      rw [List.take_of_length_le (by rw [List.length_map, (unhide HS).2]; omega)] at this
      rw [(unhide HS).2]
      exact this) (by have := (unhide HS).2; omega) (by omega))
    go_upto_region 4 with fail
    refine wp_region_noPanic ?_
    go_region_law (first
      | (go_simp; go_at_call 78; refine (unhide HQ _ ((Ext.refl wc).drew)).mono ?_; rintro e w9 ⟨A9, c9, rfl, ho9, hE9⟩
         have H9 := hide (And.intro ho9 (((Ext.refl wc).drew).trans hE9))
         clear ho9 hE9))
    refine NoPanic.normal ?_
    obtain ⟨x, hx⟩ : ∃ x, streamS dk s.size = x := ⟨_, rfl⟩
    have HX := hide hx
    rw [hx] at H9
    obtain ⟨sl, hsl⟩ : ∃ l, s.data.toList = l := ⟨_, rfl⟩
    have hsz : sl.length = s.size := by rw [← hsl, Array.length_toList]; rfl
    have hsW : W0.heap.size = w1.heap.size + 1 := by rw [← hW0]; simp
    have E9 : Ext W0 w9 := (unhide H8).2.1.trans (unhide H9).2
    have hxl : x.length = sl.length := by have := (unhide H9).1.1; rw [List.length_map] at this; omega
    have HSL := hide hsl
    rw [hsl] at HRB
    clear hx c7
    go_wp2
    go_simp
    go_loopw [24] (fun i wr => ∃ k : Nat, k ≤ s.size ∧ i = .int .i64 k ∧ Hid (Reads wr 1 (.slice (some ⟨w.heap.size + 1 + 1, 0, none⟩) s.size c1) s.size ((mixS sl x k).map u8v) ∧ (∀ i, i < s.size → wr.frozen? ⟨w.heap.size + 1 + 1, i, none⟩ = false) ∧ Blk wr w1.heap.size 29 #[.slice (some ⟨w.heap.size + 1 + 1, 0, none⟩) s.size c1] ∧ Blk wr (w.heap.size + 1) 9 #[.string { data := #[] }] ∧ Chg (fun b => b = w.heap.size + 1 + 1) w9 wr)) (fun i _ => s.size - (intOf i).toNat)
    case atStart => exact ⟨0, Nat.zero_le _, rfl, hide ⟨by rw [mixS_zero]; exact (unhide HRB).1.ext E9, fun i hi => Ext.frozenv E9 ((unhide HRB).2 i hi) (by show w.heap.size + 1 + 1 < _; omega), (unhide HB7).ext E9, (unhide HB6).ext E9, Chg.refl _ _⟩⟩
    case round =>
      obtain ⟨k, hk, rfl, HI⟩ := hrel
      by_cases hlt : k < s.size
      · obtain ⟨b, o, c', u, hv, _, _, hb, hu, hcc⟩ := (unhide HI).1.at1 hlt
        cases hv
        rw [List.getElem?_map, mixS_at sl x k hxl (by omega)] at hu
        cases hu
        have hOX := ownsRow_chg (unhide H9).1 (unhide HI).2.2.2.2 (fun j hj e => by have h1 := ((unhide H9).1.lt j hj).1; have h2 := (unhide H8).2.1.size'; simp at h1; omega)
        obtain ⟨b, o, c', u, hv, _, _, hb', hu, hcx⟩ := (Reads.of_own hOX).at1 hlt
        cases hv
        rw [List.getElem?_map, List.getElem?_eq_getElem (show k < x.length by omega)] at hu
        cases hu
        clear hOX
        have hw12 : ¬ w1.heap.size = w.heap.size + 1 + 1 := by have := (unhide H1).1.own_lt (by omega) (by omega) _ rfl; simp at this; omega
        have c7 := (unhide HI).2.2.1.cell 0
        have hf := (unhide HI).2.1 k hlt
        have HS2 := hide (mixS_step sl x k hxl (by omega))
        rw [Nat.zero_add] at hcc
        unfold u8v at hcc hcx
        generalize sl[k] = y at *
        generalize x[k] = z at *
        have HX2 := hide (xor8 y z)
        go_wp2
        go_roundw
        case rel =>
          refine ⟨k + 1, by omega, by go_num, hide ⟨?_, fun i hi => by rw [World.frozen?_setCell]; exact (unhide HI).2.1 i hi, (unhide HI).2.2.1.far' hw12 k _, (unhide HI).2.2.2.1.far' (by omega) k _, (unhide HI).2.2.2.2.setCell (p := ⟨w.heap.size + 1 + 1, k, none⟩) (.inl rfl) _⟩⟩
          rw [unhide HS2, List.map_set]
          have := (unhide HI).1.set (k := k) (by omega) (u8v (y ^^^ z))
          rw [unhide HX2]
          exact this
        case measure => simp [intOf]; omega
      · obtain rfl : k = s.size := by omega
        have hA : applyS key nonce s.data.toList = mixS sl x s.size := by
          unfold applyS
          rw [unhide HD, unhide HSL, hsz, unhide HX, ← hsz, mixS_end _ _ hxl]
        have hAl : (applyS key nonce s.data.toList).length = s.size := by rw [hA, mixS_length _ _ _ hxl (by omega), hsz]
        have hfin : Reads wr 1 (.slice (some ⟨w.heap.size + 1 + 1, 0, none⟩) s.size c1) (applyS key nonce s.data.toList).length ((applyS key nonce s.data.toList).map u8v) := by rw [hAl, hA]; exact (unhide HI).1
        have HF := hide hfin
        have hw12 := hsz1
        clear hA hAl hfin
        go_wp2
        refine leaves_cons (f := 77) (args := #[.pointer (some ⟨w1.heap.size, 0, none⟩), .pointer (some ⟨w.heap.size + 1, 0, none⟩)]) (by simp) (by simp [go_sem]) ?_
        refine (applyD (applyS key nonce s.data.toList) _ _ _ _ .returning _ ((unhide HI).2.2.1.cell 0) ((unhide HI).2.2.2.1.cell 0) ((unhide HI).2.2.2.1.frozen 0) (unhide HF)).mono ?_
        rintro e u' w'' ⟨rfl, rfl, rfl⟩
        have hc6 : (wr.setCell ⟨w.heap.size + 1, 0, none⟩ (.string (strOf (applyS key nonce s.data.toList)))).cell? ⟨w.heap.size + 1, 0, none⟩ = some (.string (strOf (applyS key nonce s.data.toList))) := World.cell?_setCell_same' _ _ _ (by rw [(unhide HI).2.2.2.1.cell 0]; rfl)
        have hE : Ext w (wr.setCell ⟨w.heap.size + 1, 0, none⟩ (.string (strOf (applyS key nonce s.data.toList)))) := ((unhide HP).trans E9).trans' ((Chg.mono (T := fun b => b = w.heap.size + 1 + 1 ∨ b = w.heap.size + 1) (unhide HI).2.2.2.2 (fun _ _ h => .inl h)).setCell (p := ⟨w.heap.size + 1, 0, none⟩) (.inl (.inr rfl)) _) (fun _ _ h => h.elim) (fun i hi e => by omega)
        simp [Leaves, settle, results, Tryd.results43, go_sem, hc6]
        exact hE

end Go.Proofs.YtcjlkjcadaaleaaDoor

/-
  box.Seal, box.Open.
-/
namespace Go.Proofs.YtcjlkjcadaaleaaDoor
open Go.RowKit

theorem box_wide : Wide Tryd.prog 27 18 := ⟨⟨_, Tryd.underlying27, rfl⟩, by kernel_rfl⟩
/-- A box's cells. -/
def boxV (n : Int) (c : ByteArray) (t : List UInt8) : Array Value := (Value.int .i64 n :: Value.string c :: t.map u8v).toArray
theorem applyS_length (key : List UInt8) (nonce : Int) (s : List UInt8) : (applyS key nonce s).length = s.length := by
  unfold applyS
  rw [List.length_zipWith, streamS_length]
  simp

theorem list16 {l : List UInt8} (h : l.length = 16) : ∃ t0 t1 t2 t3 t4 t5 t6 t7 t8 t9 t10 t11 t12 t13 t14 t15, l = [t0, t1, t2, t3, t4, t5, t6, t7, t8, t9, t10, t11, t12, t13, t14, t15] := by
  match l, h with
  | [t0, t1, t2, t3, t4, t5, t6, t7, t8, t9, t10, t11, t12, t13, t14, t15], _ => exact ⟨t0, t1, t2, t3, t4, t5, t6, t7, t8, t9, t10, t11, t12, t13, t14, t15, rfl⟩

set_option maxRecDepth 100000 in
set_option maxHeartbeats 2000000 in
theorem seal_any (key : List UInt8) (nonce : Int) (s : ByteArray) (w : World) (hM : ShaMem w) (hk : key.length = 16) (h1 : -9223372036854775808 ≤ nonce) (h2 : nonce < 9223372036854775808) (hs : s.size ≤ 100000) :
    Calls Tryd.prog 15 #[.agg (key.map u8v).toArray, .int .i64 nonce, .string s] w fun e w' => e = .returned (.agg (boxV nonce (strOf (applyS key nonce s.data.toList)) (tagS key nonce (applyS key nonce s.data.toList)))) ∧ Ext w w' := by
  obtain ⟨arr, harr⟩ : ∃ r, (key.map u8v).toArray = r := ⟨_, rfl⟩
  have HM := hide hM
  have HAp := hide (fun W hW => apply_any key nonce s W hW hk h1 h2 hs)
  rw [harr] at HAp ⊢
  have hasz : arr.size = 16 := by rw [← harr]; simpa using hk
  have h1c : arr.all (·.oneCell') = true := by rw [← harr]; exact bytes_one _
  have HA := hide harr
  clear hM harr
  go_enter Tryd.func15, Tryd.ntmps15
  obtain ⟨cs, hcs⟩ : ∃ c, strOf (applyS key nonce s.data.toList) = c := ⟨_, rfl⟩
  have hcl : cs.data.toList = applyS key nonce s.data.toList := by rw [← hcs]; exact strOf_list _
  have hcz : cs.size ≤ 100000 := by have h : cs.data.toList.length = s.data.toList.length := by rw [hcl, applyS_length]
                                    rw [Array.length_toList, Array.length_toList] at h
                                    have h2 : cs.size = s.size := h
                                    omega
  have HTg := hide (fun W hW => tag_any key nonce cs W hW hk h1 h2 hcz)
  rw [unhide HA, hcl] at HTg
  rw [hcs] at HAp ⊢
  have HTL := hide (tagS_length key nonce (applyS key nonce s.data.toList))
  generalize tagS key nonce (applyS key nonce s.data.toList) = tg at *
  clear hcs hcl
  obtain ⟨t0, t1, t2, t3, t4, t5, t6, t7, t8, t9, t10, t11, t12, t13, t14, t15, rfl⟩ := list16 (unhide HTL)
  go_wp2_with (first
    | (refine wpList_loadB (x := .tmp 3) rfl rfl digest_wide rfl (cs := arr) (g := w.heap.size) (by first | exact (Blk.new w _ _).alloc _ | assumption) hasz ?_)
    | (go_at_call 43; refine (unhide HAp _ ((unhide HM).ext (((Ext.refl w).alloc _).alloc _))).mono ?_; rintro e w1 ⟨rfl, hE1⟩
       have hba : Blk w1 w.heap.size 23 arr := ((Blk.new w _ _).alloc _).ext hE1
       have hbb := (Blk.new' (g := w.heap.size + 1) (w.alloc (.cells arr 23)) _ _ (by simp)).ext hE1
       have H1 := hide (show Ext w w1 ∧ Blk w1 (w.heap.size + 1) 27 (#[.int .i64 0, .string { data := #[] }] ++ Array.replicate 16 (.int .u8 0)) from And.intro ((((Ext.refl w).alloc _).alloc _).trans hE1) hbb); clear hE1 hbb)
    | (go_at_call 44; refine (unhide HTg _ ((unhide HM).ext (unhide H1).1)).mono ?_; rintro e w2 ⟨rfl, hE2⟩; have H2 := hide (And.intro ((unhide H1).1.trans hE2) ((unhide H1).2.ext hE2)); clear hE2)
    | (refine wpList_storeB (ty := 27) (t := 27) (x := .tmp 6) (y := .tmp 18) rfl rfl box_wide rfl rfl (unhide H2).2 (by simp) rfl (by rw [← Array.all_toList]; rfl) ?_; intro w3 hb3 hc3 hz3; have H3 := hide (And.intro hb3 hc3); clear hb3 hc3 hz3))
  refine bodyPost_ret (results_blk box_wide rfl (unhide H3).1 rfl rfl) rfl ⟨rfl, ?_⟩
  exact (unhide H2).1.trans' (unhide H3).2 (fun _ _ h => h) (fun i hi e => by omega)

end Go.Proofs.YtcjlkjcadaaleaaDoor

/-
  Loads of wide arrays in a region that draws its order.
-/
namespace Go.Proofs.YtcjlkjcadaaleaaDoor
open Go.RowKit

theorem ylm {S : World → Prop} {ops : Array Oper} {o : Oper} {a : Act} {T : TypeId} {n : Nat} (Wd : Wide Tryd.prog T n) {x : Operand} (ho : o.op = .load T x) (hw : Region.wanted o (yielded ops a.tmps) = true) {g off : Nat} {cs : List Value} (hx : a.eval x = .pointer (some ⟨g, off, none⟩)) (hn : cs.length = n) (hB : ∀ w, S w → w.rangeAt g off cs) : YieldsIf Tryd.prog ops S o (.agg cs.toArray) a := by
  obtain ⟨d, hu, hd⟩ := Wd.und
  exact yieldsIf_load_mid (P := Tryd.prog) (S := S) hw T x ho g off hx cs d hB hu hd (by rw [hn]; exact Wd.info)
theorem ylb {S : World → Prop} {ops : Array Oper} {o : Oper} {a : Act} {T : TypeId} {n : Nat} (Wd : Wide Tryd.prog T n) {x : Operand} (ho : o.op = .load T x) (hw : Region.wanted o (yielded ops a.tmps) = true) {g : Nat} {t : TypeId} {cs : Array Value} (hx : a.eval x = .pointer (some ⟨g, 0, none⟩)) (hn : cs.size = n) (hB : ∀ w, S w → Blk w g t cs) : YieldsIf Tryd.prog ops S o (.agg cs) a := by
  have := ylm (S := S) (ops := ops) (o := o) (a := a) Wd ho hw (cs := cs.toList) hx (by rw [Array.length_toList, hn]) (fun w h => (hB w h).range)
  rwa [Array.toArray_toList] at this
theorem range_from {w : World} {g : Nat} {t : TypeId} {pre l : List Value} (h : Blk w g t (pre ++ l).toArray) : w.rangeAt g pre.length l := fun j v hj => by
  rw [h.cell, List.getElem?_toArray, List.getElem?_append_right (by omega), show pre.length + j - pre.length = j from by omega]
  exact hj
theorem rangeAt_ext {w w' : World} {g o : Nat} {cs : List Value} (h : w.rangeAt g o cs) (hE : Ext w w') : w'.rangeAt g o cs := fun j v hj => Ext.cellv hE (h j v hj)

/-- A block is made and filled: nothing that was there has changed. -/
theorem made_ext {w w1 w2 : World} {o : Obj} (h : Ext w w1) (hc : Chg (fun k => k = w1.heap.size) (w1.alloc o) w2) : Ext w w2 := (h.alloc _).trans' hc (fun _ _ h => h) (fun i hi e => by have := h.size'; omega)
theorem made_ext1 {w1 w2 : World} {o : Obj} (hc : Chg (fun k => k = w1.heap.size) (w1.alloc o) w2) : Ext w1 w2 := made_ext (Ext.refl w1) hc
/-- An array in the midst of a block, loaded whole (the operation may be guarded, the guard known). -/
theorem wpList_loadMG {P : Program} {ops : Array Oper} {rest : List Oper} {o : Oper} {a : Act} {w : World} {Q : Exit → Act → World → Prop} (hgd : Region.wanted o (yielded ops a.tmps) = true) {ty : TypeId} {x : Operand} (ho : o.op = .load ty x) {n : Nat} (W : Wide P ty n)
    {g off : Nat} (hx : a.eval x = .pointer (some ⟨g, off, none⟩)) {cs : List Value} (hB : w.rangeAt g off cs) (hn : cs.length = n) (h : wpList P ops Q rest (a.put o.dst (.agg cs.toArray)) w) : wpList P ops Q (o :: rest) a w := by
  obtain ⟨d, hu, hd⟩ := W.und
  exact Go.BigFrame.wpList_want hgd fun _ hK => wp_load_mid ty x ho g off hx cs d hB hu hd (by rw [hn]; exact W.info) (hK _ _ h)

end Go.Proofs.YtcjlkjcadaaleaaDoor

/-
  Arrays of bytes, compared.
-/
namespace Go.Proofs.YtcjlkjcadaaleaaDoor
open Go.RowKit

section
variable {P : Program}
theorem run_eqItems_u8 {e : TypeId} (hu : P.underlying e = some (.int .u8)) (he : P.plainKey e = true) (d : Nat) (a b : List UInt8) (w : World) : ∀ is : List Nat, (∀ i ∈ is, i < a.length ∧ i < b.length) →
    (Op.eqItems (d + 1) e 1 (a.map byteV).toArray (b.map byteV).toArray is).run P w = .ok (is.all fun i => a.getD i 0 == b.getD i 0) w
  | [], _ => by simp [Op.eqItems]
  | i :: is, h => by
    obtain ⟨h1, h2⟩ := h i (by simp)
    have p1 : (part e (a.map byteV).toArray (i * 1)).run P w = .ok (byteV a[i]) w := run_part_plain w he (by simp [List.getElem?_eq_getElem h1])
    have p2 : (part e (b.map byteV).toArray (i * 1)).run P w = .ok (byteV b[i]) w := run_part_plain w he (by simp [List.getElem?_eq_getElem h2])
    have p3 : (Op.equalIn (d + 1) e (byteV a[i]) (byteV b[i])).run P w = .ok (a[i] == b[i]) w := by
      simp [Op.equalIn, run_underlying hu, byteV]
      rw [Bool.eq_iff_iff]
      simp
      exact ⟨fun h => UInt8.toNat_inj.1 (Int.ofNat_inj.1 h), fun h => by rw [h]⟩
    have ih := run_eqItems_u8 hu he d a b w is fun j hj => h j (by simp [hj])
    simp only [Op.eqItems, Sem.run_bind, p1, p2, p3, Result.andThen_ok]
    rw [List.all_cons, List.getD_eq_getElem?_getD, List.getD_eq_getElem?_getD, List.getElem?_eq_getElem h1, List.getElem?_eq_getElem h2]
    simp only [Option.getD_some]
    by_cases hab : a[i] = b[i]
    · simpa [hab] using ih
    · simp [hab]
theorem all_eq (a b : List UInt8) (n : Nat) (ha : a.length = n) (hb : b.length = n) : ((List.range n).all fun i => a.getD i 0 == b.getD i 0) = decide (a = b) := by
  rw [Bool.eq_iff_iff]
  simp only [List.all_eq_true, List.mem_range, beq_iff_eq, decide_eq_true_eq]
  constructor
  · intro h
    apply List.ext_getElem (by omega)
    intro i h1 h2
    have := h i (by omega)
    simpa [List.getD_eq_getElem?_getD, List.getElem?_eq_getElem h1, List.getElem?_eq_getElem h2] using this
  · rintro rfl i _; rfl
/-- 'x == y' of two arrays of bytes. -/
theorem run_eql_bytes {t e : TypeId} {n : Nat} (hu : P.underlying t = some (.array n e)) (hue : P.underlying e = some (.int .u8)) (he : P.plainKey e = true) {inf : TypeInfo} (hi : P.info? e = some inf) (h1 : P.cellsOf e = 1) {a b : List UInt8} (ha : a.length = n) (hb : b.length = n) (w : World) :
    (binOp .eql t (.agg (a.map byteV).toArray) (.agg (b.map byteV).toArray)).run P w = .ok (.bool (decide (a = b))) w := by
  have h := run_equalIn_array (P := P) w 9999 (a.map byteV).toArray (b.map byteV).toArray hu hi
  rw [h1, run_eqItems_u8 hue he 9998 a b w _ (fun i hm => by rw [List.mem_range] at hm; omega), all_eq a b n ha hb] at h
  simp only [binOp]
  simp [Op.equal, Op.maxDepth, h]
theorem run_neq_bytes {t e : TypeId} {n : Nat} (hu : P.underlying t = some (.array n e)) (hue : P.underlying e = some (.int .u8)) (he : P.plainKey e = true) {inf : TypeInfo} (hi : P.info? e = some inf) (h1 : P.cellsOf e = 1) {a b : List UInt8} (ha : a.length = n) (hb : b.length = n) (w : World) :
    (binOp .neq t (.agg (a.map byteV).toArray) (.agg (b.map byteV).toArray)).run P w = .ok (.bool (!decide (a = b))) w := by
  have h := run_equalIn_array (P := P) w 9999 (a.map byteV).toArray (b.map byteV).toArray hu hi
  rw [h1, run_eqItems_u8 hue he 9998 a b w _ (fun i hm => by rw [List.mem_range] at hm; omega), all_eq a b n ha hb] at h
  simp only [binOp]
  simp [Op.equal, Op.maxDepth, h]
end

theorem Reads.newM (w : World) (cs : Array Value) (e : TypeId) (fr : Nat × Nat) (n c : Nat) (xs : List Value) {g : Nat} (hg : g = w.heap.size) (hx : xs.length = n) (hc : n ≤ c) (hm : c ≤ maxLen) (ht : cs.toList.take xs.length = xs) :
    Reads (w.alloc (.cells cs e fr)) 1 (.slice (some ⟨g, 0, none⟩) n c) n xs := by
  subst hg
  refine ⟨by rw [hx, Nat.mul_one], _, c, rfl, hc, hm, fun _ => ⟨w.heap.size, 0, rfl, fun j u hu => ?_⟩⟩
  have hj : j < xs.length := by
    rcases Nat.lt_or_ge j xs.length with h | h
    · exact h
    · rw [List.getElem?_eq_none h] at hu; cases hu
  rw [Nat.zero_add, World.cell?_alloc_mark]
  rw [← ht, List.getElem?_take, if_pos hj] at hu
  simpa using hu

end Go.Proofs.YtcjlkjcadaaleaaDoor

/-
  How digests and hashes are compared.
-/
namespace Go.Proofs.YtcjlkjcadaaleaaDoor
open Go.RowKit

theorem u8_plain : Tryd.prog.plainKey 5 = true := by kernel_rfl
theorem u8_one : Tryd.prog.cellsOf 5 = 1 := by kernel_rfl
set_option maxRecDepth 100000 in
theorem eq32 {a b : List UInt8} (ha : a.length = 32) (hb : b.length = 32) (w : World) : (binOp .eql 82 (.agg (a.map u8v).toArray) (.agg (b.map u8v).toArray)).run Tryd.prog w = .ok (.bool (decide (a = b))) w :=
  run_eql_bytes (inf := _) Tryd.underlying82 Tryd.underlying5 u8_plain rfl u8_one ha hb w
set_option maxRecDepth 100000 in
theorem eq16 {a b : List UInt8} (ha : a.length = 16) (hb : b.length = 16) (w : World) : (binOp .eql 23 (.agg (a.map u8v).toArray) (.agg (b.map u8v).toArray)).run Tryd.prog w = .ok (.bool (decide (a = b))) w :=
  run_eql_bytes (inf := _) Tryd.underlying23 Tryd.underlying5 u8_plain rfl u8_one ha hb w
set_option maxRecDepth 100000 in
theorem ne16 {a b : List UInt8} (ha : a.length = 16) (hb : b.length = 16) (w : World) : (binOp .neq 23 (.agg (a.map u8v).toArray) (.agg (b.map u8v).toArray)).run Tryd.prog w = .ok (.bool (!decide (a = b))) w :=
  run_neq_bytes (inf := _) Tryd.underlying23 Tryd.underlying5 u8_plain rfl u8_one ha hb w

theorem same32 {l : List UInt8} {r : Array Value} (h : (l.map u8v).toArray = r) (hl : l.length = 32) : ∀ W, (binOp .eql 82 (.agg r) (.agg r)).run Tryd.prog W = .ok (.bool true) W := fun W => by
  rw [← h, eq32 hl hl]; simp
theorem same16 {l : List UInt8} {r : Array Value} (h : (l.map u8v).toArray = r) (hl : l.length = 16) : ∀ W, (binOp .eql 23 (.agg r) (.agg r)).run Tryd.prog W = .ok (.bool true) W := fun W => by
  rw [← h, eq16 hl hl]; simp

end Go.Proofs.YtcjlkjcadaaleaaDoor
