
/-
  sha.load, sha.store.
-/
import Derived.Test.YtoefmncdloffaaaDoorShaA
import Derived.Test.YtoefmncdloffaaaDoorOnto
import Derived.Outline
namespace Go.Proofs.YtoefmncdloffaaaDoor
open Go.RowKit

def u8v (b : UInt8) : Value := .int .u8 (b.toNat : Int)
theorem beWord_step (l : List UInt8) (k : Nat) (h : k < l.length) : beWord (l.take (k + 1)) = (beWord (l.take k) <<< 8) ||| l[k].toUInt32 := by
  rw [take_step l k h]; unfold beWord; rw [List.foldl_append]; rfl
theorem conv32 (b : UInt8) : (b.toNat : Int) = (b.toUInt32.toNat : Int) := by simp

set_option maxHeartbeats 400000 in
theorem load_any (l : List UInt8) (v : Value) (w : World) (h : Reads w 1 v l.length (l.map u8v)) :
    Calls Tryd.prog 161 #[v] w fun e w' => e = .returned (.int .u32 ((beWord l).toNat : Int)) ∧ w = w' := by
  have HH := hide h
  have hm := h.len_le
  unfold maxLen at hm
  obtain ⟨_, B, c, rfl, _, _, _⟩ := h
  go_enter Tryd.func161, Tryd.ntmps161
  go_wp2
  go_loop [3, 8] (fun o i => ∃ k : Nat, k ≤ l.length ∧ i = .int .i64 k ∧ o = .int .u32 ((beWord (l.take k)).toNat : Int)) (fun _ i => l.length - (intOf i).toNat)
  case atStart => exact ⟨0, Nat.zero_le _, rfl, rfl⟩
  case round =>
    obtain ⟨k, hk, rfl, rfl⟩ := hrel
    by_cases hlt : k < l.length
    · obtain ⟨b, o, c', u, hv, _, _, hb, hu, hc1⟩ := (unhide HH).at1 hlt
      cases hv
      rw [List.getElem?_map, List.getElem?_eq_getElem hlt] at hu
      cases hu
      unfold u8v at hc1
      have HS := hide (beWord_step l k hlt)
      generalize l[k] = z at *
      generalize beWord (l.take k) = acc at *
      have hz := z.toNat_lt
      have ha := acc.toNat_lt
      have HX := hide (show bits BinOp.or IntKind.u32 ((acc.toNat : Int) * 2 ^ 8 % 4294967296) (z.toNat : Int) = ((acc <<< 8 ||| z.toUInt32).toNat : Int) from by rw [shl32 acc 8 (by omega), conv32, or32]; rfl)
      go_wp2

      go_round
      case rel => exact ⟨k + 1, by omega, by go_num, int_eq (by rw [unhide HS]; exact unhide HX)⟩
      case measure => simp [intOf]; omega
    · obtain rfl : k = l.length := by omega
      have HT := hide (show beWord (l.take l.length) = beWord l by rw [List.take_length])
      go_wp2
      go_ret
      exact ⟨ret_int (by first | rfl | rw [unhide HT]), rfl⟩

theorem u8_row : SlTy Tryd.prog 29 5 1 1 := SlTy.mk' (z := .int .u8 0) (by kernel_rfl) (by kernel_rfl) rfl (by omega) (by omega)
/-- The k bytes below 256 ^ k of n, the highest first; what is left of them. -/
theorem beBytes_length (n k : Nat) : (beBytes n k).length = k := by induction k with
  | zero => rfl
  | succ k ih => unfold beBytes; simp [ih]

theorem beBytes_get (n : Nat) : ∀ (many j : Nat), j < many → (beBytes n many)[j]? = some (UInt8.ofNat (n / 256 ^ (many - 1 - j)))
  | 0, j, h => by omega
  | many + 1, 0, h => by simp [beBytes]
  | many + 1, j + 1, h => by
    rw [beBytes, List.getElem?_cons_succ, beBytes_get n many j (by omega), show many + 1 - 1 - (j + 1) = many - 1 - j from by omega]
theorem beBytes_step (n many k : Nat) (h0 : 0 < k) (hk : k ≤ many) : (beBytes n many).take (many - (k - 1)) = (beBytes n many).take (many - k) ++ [UInt8.ofNat (n / 256 ^ (k - 1))] := by
  rw [show many - (k - 1) = many - k + 1 from by omega, List.take_add_one, beBytes_get n many (many - k) (by omega), show many - 1 - (many - k) = k - 1 from by omega]
  rfl
theorem byte_of (n k : Nat) : (n : Int) / 2 ^ (8 * k) % 256 = ((UInt8.ofNat (n / 256 ^ k)).toNat : Int) := by
  rw [show (2 : Int) ^ (8 * k) = ((256 ^ k : Nat) : Int) from by rw [Int.pow_mul]; simp]
  simp

set_option maxHeartbeats 1000000 in
theorem store_any (v : Value) (m : Nat) (xs : List Value) (n : Nat) (many : Nat) (B : Nat) (w : World) (h : w.ownsRow B 5 1 v m xs) (hB : B ≤ w.heap.size) (hm : m ≤ 1000000000) (h8 : many ≤ 8) :
    Calls Tryd.prog 134 #[v, .int .u64 (n : Int), .int .i64 (many : Int)] w fun e w' => ∃ v', e = .returned v' ∧ w'.ownsRow B 5 1 v' (m + many) (xs ++ (beBytes n many).map u8v) ∧ Onto w v w' v' := by
  have H0 := hide h
  clear h
  go_enter Tryd.func134, Tryd.ntmps134
  go_wp2
  go_loopw [0, 7] (fun b i wr => ∃ (k : Nat), k ≤ many ∧ i = .int .i64 ((k : Int) - 1) ∧ Hid (wr.ownsRow B 5 1 b (m + (many - k)) (xs ++ ((beBytes n many).take (many - k)).map u8v) ∧ Onto w v wr b)) (fun _ i _ => (intOf i + 1).toNat)
  case atStart => exact ⟨many, Nat.le_refl _, rfl, hide ⟨by rw [Nat.sub_self]; simpa using unhide H0, Onto.refl _ _⟩⟩
  case round =>
    obtain ⟨k, hk, rfl, HR⟩ := hrel
    by_cases hk0 : 0 < k
    · have e0 : (0 : Int) ≤ (k : Int) - 1 := by omega
      have e1 : IntKind.i64.wrap (8 * ((k : Int) - 1)) = ((8 * (k - 1) : Nat) : Int) := by rw [IntWalk.i64_in _ (by omega)]; omega
      have hb := byte_of n (k - 1)
      have HX := hide (beBytes_step n many k hk0 hk)
      generalize UInt8.ofNat (n / 256 ^ (k - 1)) = z at *
      have hsz : Hid (B ≤ wr.heap.size) := hide (Nat.le_trans hB (unhide HR).2.chg.size)
      go_wp2_with (at_builtin; refine wpList_app rfl rfl u8_row rfl (ownsRow_ext (unhide HR).1 ((Ext.refl _).alloc _)) rfl (Reads.new1 _ _ _) (AllOne.one rfl) (by omega) (Nat.le_trans (unhide hsz) (by simp)) ?_; intro A' c' w2 ho hc hv)
      have HQ := hide (And.intro ho (((unhide HR).2.ext ((Ext.refl wr).alloc _)).trans (Onto.app hc hv)))
      clear ho hc hv
      go_wp2
      go_roundw
      case rel => exact ⟨k - 1, by omega, by go_num, hide ⟨by rw [unhide HX, List.map_append, ← List.append_assoc, show m + (many - (k - 1)) = m + (many - k) + 1 from by omega]; exact (unhide HQ).1, (unhide HQ).2⟩⟩
      case measure => simp [intOf]; omega
    · obtain rfl : k = 0 := by omega
      go_wp2
      go_ret
      have h1 := (unhide HR).1
      rw [Nat.sub_zero, List.take_of_length_le (by rw [beBytes_length]; exact Nat.le_refl _)] at h1
      exact ⟨_, rfl, h1, (unhide HR).2⟩

theorem store_lit (v : Value) (m : Nat) (xs : List Value) (n : Nat) (many : Nat) (B : Nat) (w : World) (nI mI : Int) (e1 : nI = (n : Int)) (e2 : mI = (many : Int)) (h : w.ownsRow B 5 1 v m xs) (hB : B ≤ w.heap.size) (hm : m ≤ 1000000000) (hn : n < 18446744073709551616) (h8 : many ≤ 8) :
    Calls Tryd.prog 134 #[v, .int .u64 nI, .int .i64 mI] w fun e w' => ∃ A c, e = .returned (.slice A (m + many) c) ∧ w'.ownsRow B 5 1 (.slice A (m + many) c) (m + many) (xs ++ (beBytes n many).map u8v) ∧ Onto w v w' (.slice A (m + many) c) := by
  subst e1 e2
  refine (store_any v m xs n many B w h hB hm h8).mono ?_
  rintro e w' ⟨v', rfl, h1, h2⟩
  obtain ⟨A, c, rfl⟩ := own_slice h1
  exact ⟨A, c, rfl, h1, h2⟩

end Go.Proofs.YtoefmncdloffaaaDoor
