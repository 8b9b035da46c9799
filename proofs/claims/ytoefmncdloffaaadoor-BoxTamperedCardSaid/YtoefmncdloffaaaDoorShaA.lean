
/-
  Words: rotations.
-/
import Derived.Test.YtoefmncdloffaaaDoorProg
import Derived.Test.YtoefmncdloffaaaDoorBase
import Derived.Test.YtoefmncdloffaaaDoorShaSpec
import Derived.Test.YtoefmncdloffaaaDoorU32
namespace Go.Proofs.YtoefmncdloffaaaDoor
open Go.RowKit

def w32 (x : UInt32) : Value := .int .u32 (x.toNat : Int)

theorem neg_and31 (n : Nat) (hn : 0 < n) (hn2 : n < 32) : bits BinOp.and IntKind.u64 (IntKind.u64.wrap (-(n : Int))) 31 = ((32 - n : Nat) : Int) := by
  have h : IntKind.u64.wrap (-(n : Int)) = ((18446744073709551616 - n : Nat) : Int) := by
    rw [IntKind.wrap_u64]; omega
  rw [h, u64_and _ _ (by omega) (by omega) (by omega) (by omega)]
  rw [Int.toNat_natCast, show (31 : Int).toNat = 2 ^ 5 - 1 from rfl, Nat.and_two_pow_sub_one_eq_mod]
  omega
theorem rot_eq (x : UInt32) (n : Nat) (hn : 0 < n) (hn2 : n < 32) : bits BinOp.or IntKind.u32 ((x.toNat : Int) * 2 ^ (32 - n) % 4294967296) ((x.toNat : Int) / 2 ^ n) = ((rotrW x (UInt32.ofNat n)).toNat : Int) := by
  rw [shl32 x (32 - n) (by omega), shr32 x n hn2, or32]
  unfold rotrW
  have e : UInt32.ofNat (32 - n) = 32 - UInt32.ofNat n := by
    apply UInt32.toNat_inj.1
    rw [UInt32.toNat_sub]
    simp
    omega
  rw [e, UInt32.or_comm]

theorem rotl_any (x : UInt32) (n : Nat) (w : World) (hn : 0 < n) (hn2 : n < 32) :
    Calls Tryd.prog 171 #[.int .u32 (x.toNat : Int), .int .i64 (-(n : Int))] w fun e w' => e = .returned (.int .u32 ((rotrW x (UInt32.ofNat n)).toNat : Int)) ∧ w = w' := by
  have h0 := hide (rot_eq x n hn hn2)
  have hx := x.toNat_lt
  have h1 := neg_and31 n hn hn2
  have h2 : IntKind.u64.wrap (32 - ((32 - n : Nat) : Int)) = (n : Int) := by
    rw [show (32 : Int) - ((32 - n : Nat) : Int) = (n : Int) by omega]
    exact IntWalk.u64_in _ (by omega)
  go_enter Tryd.func171, Tryd.ntmps171
  go_wp2
  go_ret
  exact ⟨ret_int (unhide h0), rfl⟩

/-- sha.rotr: several rotations, combined. -/
def rotXor (x : UInt32) (ns : List Nat) : UInt32 := ns.foldl (fun o n => o ^^^ rotrW x (UInt32.ofNat n)) 0
theorem take_step {α : Type} (l : List α) (k : Nat) (h : k < l.length) : l.take (k + 1) = l.take k ++ [l[k]] := by rw [List.take_add_one, List.getElem?_eq_getElem h]; rfl
theorem rotXor_step (x : UInt32) (ns : List Nat) (k : Nat) (h : k < ns.length) : rotXor x (ns.take (k + 1)) = rotXor x (ns.take k) ^^^ rotrW x (UInt32.ofNat ns[k]) := by
  rw [take_step ns k h]; unfold rotXor; rw [List.foldl_append]; rfl

set_option maxHeartbeats 400000 in
theorem rotr_any (x : UInt32) (ns : List Nat) (v : Value) (w : World) (h : Reads w 1 v ns.length (ns.map fun n : Nat => Value.int .i64 (n : Int))) (hn : ∀ n ∈ ns, 0 < n ∧ n < 32) :
    Calls Tryd.prog 162 #[.int .u32 (x.toNat : Int), v] w fun e w' => e = .returned (.int .u32 ((rotXor x ns).toNat : Int)) ∧ w = w' := by
  have HH := hide h
  have hm := h.len_le
  unfold maxLen at hm
  obtain ⟨_, B, c, rfl, _, _, _⟩ := h
  go_enter Tryd.func162, Tryd.ntmps162
  go_wp2
  go_loop [5, 10] (fun o i => ∃ k : Nat, k ≤ ns.length ∧ i = .int .i64 k ∧ o = .int .u32 ((rotXor x (ns.take k)).toNat : Int)) (fun _ i => ns.length - (intOf i).toNat)
  case atStart => exact ⟨0, Nat.zero_le _, rfl, rfl⟩
  case round =>
    obtain ⟨k, hk, rfl, rfl⟩ := hrel
    by_cases hlt : k < ns.length
    · obtain ⟨b, o, c', u, hv, _, _, hb, hu, hc1⟩ := (unhide HH).at1 hlt
      cases hv
      rw [List.getElem?_map, List.getElem?_eq_getElem hlt] at hu
      cases hu
      obtain ⟨n1, n2⟩ := hn _ (List.getElem_mem hlt)
      have HS := hide (rotXor_step x ns k hlt)
      have HX := hide (xor32 (rotXor x (ns.take k)) (rotrW x (UInt32.ofNat ns[k])))
      dsimp only at hc1
      have HR := hide (fun w => rotl_any x ns[k] w n1 n2)
      generalize ns[k] = n at *
      generalize rotXor x (ns.take k) = acc at *
      have e1 : IntKind.i64.wrap (-(n : Int)) = -(n : Int) := IntWalk.i64_in _ (by omega)
      go_wp2_with fail
      refine (unhide HR _).mono ?_
      rintro e w' ⟨rfl, rfl⟩
      go_wp2
      go_round
      case rel => exact ⟨k + 1, by omega, by go_num, int_eq (by rw [unhide HS]; exact unhide HX)⟩
      case measure => simp [intOf]; omega
    · obtain rfl : k = ns.length := by omega
      have HT := hide (show rotXor x (ns.take ns.length) = rotXor x ns by rw [List.take_length])
      go_wp2
      go_ret
      exact ⟨ret_int (by first | rfl | rw [unhide HT]), rfl⟩

end Go.Proofs.YtoefmncdloffaaaDoor
