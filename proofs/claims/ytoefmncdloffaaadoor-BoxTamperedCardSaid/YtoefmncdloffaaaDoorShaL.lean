
/-
  sha.Stream.
-/
import Derived.Test.YtoefmncdloffaaaDoorShaJ
namespace Go.Proofs.YtoefmncdloffaaaDoor
open Go.RowKit

def streamCat (key : List UInt8) (k : Nat) : List UInt8 := (List.range k).flatMap fun j : Nat => hmac key (wInt (j : Int))
def streamS (key : List UInt8) (n : Int) : List UInt8 := (streamCat key ((n.toNat + 31) / 32)).take n.toNat
theorem streamCat_step (key : List UInt8) (k : Nat) : streamCat key (k + 1) = streamCat key k ++ hmac key (wInt k) := by
  unfold streamCat; rw [List.range_succ, List.flatMap_append]; simp
theorem streamCat_length (key : List UInt8) (k : Nat) : (streamCat key k).length = 32 * k := by
  induction k with
  | zero => rfl
  | succ k ih => rw [streamCat_step, List.length_append, ih, hmac_length]; omega
theorem streamCat_pre (key : List UInt8) (k d : Nat) : streamCat key k <+: streamCat key (k + d) := by
  induction d with
  | zero => exact List.prefix_refl _
  | succ d ih => exact ih.trans (by rw [← Nat.add_assoc, streamCat_step]; exact List.prefix_append _ _)
theorem take_pre {α : Type} {a b : List α} (h : a <+: b) {n : Nat} (hn : n ≤ a.length) : b.take n = a.take n := by
  obtain ⟨t, rfl⟩ := h
  rw [List.take_append_of_le_length hn]
theorem streamS_of (key : List UInt8) (N k : Nat) (h : N ≤ 32 * k) : (streamCat key k).take N = streamS key N := by
  have h1 : streamS key N = (streamCat key ((N + 31) / 32)).take N := rfl
  rw [h1]
  rcases Nat.le_total k ((N + 31) / 32) with hk | hk
  · obtain ⟨d, hd⟩ := Nat.exists_eq_add_of_le hk
    rw [hd, take_pre (streamCat_pre key k d) (by rw [streamCat_length]; exact h)]
  · obtain ⟨d, hd⟩ := Nat.exists_eq_add_of_le hk
    rw [hd, take_pre (streamCat_pre key ((N + 31) / 32) d) (by rw [streamCat_length]; omega)]
theorem streamS_length (key : List UInt8) (n : Int) : (streamS key n).length = n.toNat := by
  unfold streamS; rw [List.length_take, streamCat_length]; omega
theorem streamS_prefix (key : List UInt8) (n : Int) (m : Nat) : (streamS key (max n 0 + m)).take n.toNat = streamS key n := by
  have e1 : (max n 0 + (m : Int)).toNat = n.toNat + m := by omega
  have h1 : streamS key (max n 0 + m) = streamS key ((n.toNat + m : Nat) : Int) := by unfold streamS; rw [e1]; rfl
  have h2 : streamS key n = streamS key (n.toNat : Int) := by unfold streamS; rfl
  rw [h1, h2, ← streamS_of key (n.toNat + m) (n.toNat + m) (by omega), ← streamS_of key n.toNat (n.toNat + m) (by omega), List.take_take]
  congr 1
  omega

theorem stream_neg (kv : Value) (n : Int) (w : World) (hn : n < 0) :
    Calls Tryd.prog 91 #[kv, .int .i64 n] w fun e w' => e = .returned (.slice none 0 0) ∧ w = w' := by
  have d0 : decide (0 < n) = false := decide_eq_false (by omega)
  go_enter Tryd.func91, Tryd.ntmps91
  go_wp2
  go_loop [5] (fun b => b = .slice none 0 0) (fun _ => 0)
  case atStart => rfl
  case round =>
    subst hrel
    go_wp2
    go_ret
    exact ⟨rfl, rfl⟩

set_option maxRecDepth 100000 in
set_option maxHeartbeats 2000000 in
theorem stream_pos (key : List UInt8) (kv : Value) (N : Nat) (w : World) (hM : ShaMem w) (hk : Reads w 1 kv key.length (key.map u8v)) (hkl : key.length ≤ 10000) (hN : N ≤ 100000) :
    Calls Tryd.prog 91 #[kv, .int .i64 (N : Int)] w fun e w' => ∃ A c, e = .returned (.slice A N c) ∧ w'.ownsRow w.heap.size 5 1 (.slice A N c) N ((streamS key N).map u8v) ∧ Ext w w' := by
  have HM := hide hM
  have HK := hide hk
  clear hM hk
  have hkl : key.length ≤ 1000000 := by omega
  go_enter Tryd.func91, Tryd.ntmps91
  go_wp2
  go_loopw [5, 6] (fun b i wr => ∃ (k m : Nat) (A : Option Addr) (c : Nat), k ≤ N ∧ i = .int .i64 k ∧ b = .slice A m c ∧ m ≤ N ∧ Hid (m = min (32 * k) N ∧ wr.ownsRow w.heap.size 5 1 (.slice A m c) m (((streamCat key k).take N).map u8v) ∧ Ext w wr)) (fun b _ _ => match b with | .slice _ m _ => N - m | _ => 0)
  case atStart => exact ⟨0, 0, none, 0, Nat.zero_le _, rfl, rfl, by omega, hide ⟨by omega, by rw [show streamCat key 0 = [] from rfl, List.take_nil]; exact World.ownsRow_nil _ _ _ _, Ext.refl _⟩⟩
  case round =>
    obtain ⟨k, m, A, c, hkN, rfl, rfl, hm, HI⟩ := hrel
    by_cases hlt : m < N
    · by_cases hq : 32 ≤ N - m
      · go_wp2_with (first
          | (go_at_call 17; refine (wint_any (k : Int) _ (by omega) (by omega)).mono ?_; rintro e w2 ⟨A2, c2, rfl, ho2, hE2⟩; have H2 := hide (And.intro ho2 hE2); clear ho2 hE2)
          | (go_at_call 53; refine (hmac_any key (wInt k) _ _ _ ((unhide HM).ext ((unhide HI).2.2.trans (unhide H2).2)) ((unhide HK).ext ((unhide HI).2.2.trans (unhide H2).2)) (Reads.of_own (unhide H2).1) hkl (by have := wInt_length k; omega)).mono ?_; rintro e w3 ⟨rfl, hE3⟩; have H3 := hide hE3; clear hE3)
          | (refine wpList_storeB (ty := 91) (t := 91) (x := .tmp 7) (y := .tmp 17) rfl rfl arr32_wide rfl rfl (Blk.new _ _ _) rfl ?_ (bytes_one _) ?_; (focus (simpa using hmac_length _ _)); intro w4 hb4 hc4 hz4; have HOW := hide (ownsRow_chg (ownsRow_ext (unhide HI).2.1 (((unhide H2).2.trans (unhide H3)).alloc _)) hc4 (fun q hq e => by have := ((unhide HI).2.1.lt q hq).2; have s := ((unhide H2).2.trans (unhide H3)).size'; omega)); have HEW := hide (show Ext wr w4 from (((unhide H2).2.trans (unhide H3)).alloc _).trans' hc4 (fun _ _ h => h) (fun i hi e => by have s := ((unhide H2).2.trans (unhide H3)).size'; omega)); have HRW := hide (show Reads w4 1 (.slice (some ⟨w3.heap.size, 0, none⟩) (32) 32) (32) (((hmac key (wInt k)).take (32)).map u8v) from by (have := Reads.of_blk hb4 (i := 0) (n := 32) (c := 32) (by rw [List.size_toArray, List.length_map, hmac_length]; omega) (by omega) (by unfold maxLen; omega)); simp only [List.drop_zero] at this; rw [List.map_take]; exact this); clear hb4 hc4 hz4)
          | (at_builtin; refine wpList_app rfl rfl u8_row rfl (unhide HOW) rfl (unhide HRW) (AllOne.u8 _) (by omega) (Nat.le_trans (unhide HI).2.2.size' (unhide HEW).size') ?_; intro A' c' w5 ho hc hv; have H5 := hide (And.intro ho hc); clear ho hc hv))
        go_roundw
        case rel =>
          refine ⟨k + 1, m + (32), A', c', by have := (unhide HI).1; omega, by go_num, rfl, by omega, hide ⟨by have := (unhide HI).1; omega, ?_, ((unhide HI).2.2.trans (unhide HEW)).trans' (unhide H5).2 (fun _ _ h => h) (fun i hi e => by have := ((unhide HI).2.1.lt i e).1; omega)⟩⟩
          have e1 : (streamCat key (k + 1)).take N = (streamCat key k).take N ++ (hmac key (wInt k)).take (32) := by
            have := (unhide HI).1
            rw [streamCat_step, List.take_append, streamCat_length]
            congr 1
            rw [List.take_eq_take_iff, hmac_length]
            omega
          rw [e1, List.map_append]
          exact (unhide H5).1
        case measure => simp; omega
      · obtain ⟨q, hqa, hqb⟩ : ∃ q, m + q ≤ N ∧ N ≤ m + q := ⟨N - m, by omega, by omega⟩
        have hnm : ((N : Int) - (m : Int)) = (q : Int) := by omega
        have hb32 : q ≤ 32 := by omega
        have hb31 : q < 32 := by omega
        have hb33 : (q : Int) ≤ 32 := by omega
        go_wp2_with (first
          | (go_at_call 17; refine (wint_any (k : Int) _ (by omega) (by omega)).mono ?_; rintro e w2 ⟨A2, c2, rfl, ho2, hE2⟩; have H2 := hide (And.intro ho2 hE2); clear ho2 hE2)
          | (go_at_call 53; refine (hmac_any key (wInt k) _ _ _ ((unhide HM).ext ((unhide HI).2.2.trans (unhide H2).2)) ((unhide HK).ext ((unhide HI).2.2.trans (unhide H2).2)) (Reads.of_own (unhide H2).1) hkl (by have := wInt_length k; omega)).mono ?_; rintro e w3 ⟨rfl, hE3⟩; have H3 := hide hE3; clear hE3)
          | (refine wpList_storeB (ty := 91) (t := 91) (x := .tmp 7) (y := .tmp 17) rfl rfl arr32_wide rfl rfl (Blk.new _ _ _) rfl ?_ (bytes_one _) ?_; (focus (simpa using hmac_length _ _)); intro w4 hb4 hc4 hz4; have HOW := hide (ownsRow_chg (ownsRow_ext (unhide HI).2.1 (((unhide H2).2.trans (unhide H3)).alloc _)) hc4 (fun q hq e => by have := ((unhide HI).2.1.lt q hq).2; have s := ((unhide H2).2.trans (unhide H3)).size'; omega)); have HEW := hide (show Ext wr w4 from (((unhide H2).2.trans (unhide H3)).alloc _).trans' hc4 (fun _ _ h => h) (fun i hi e => by have s := ((unhide H2).2.trans (unhide H3)).size'; omega)); have HRW := hide (show Reads w4 1 (.slice (some ⟨w3.heap.size, 0, none⟩) (q) 32) (q) (((hmac key (wInt k)).take (q)).map u8v) from by (have := Reads.of_blk hb4 (i := 0) (n := q) (c := 32) (by rw [List.size_toArray, List.length_map, hmac_length]; omega) (by omega) (by unfold maxLen; omega)); simp only [List.drop_zero] at this; rw [List.map_take]; exact this); clear hb4 hc4 hz4)
          | (at_builtin; refine wpList_app rfl rfl u8_row rfl (unhide HOW) rfl (unhide HRW) (AllOne.u8 _) (by omega) (Nat.le_trans (unhide HI).2.2.size' (unhide HEW).size') ?_; intro A' c' w5 ho hc hv; have H5 := hide (And.intro ho hc); clear ho hc hv))
        go_roundw
        case rel =>
          refine ⟨k + 1, m + (q), A', c', by have := (unhide HI).1; omega, by go_num, rfl, by omega, hide ⟨by have := (unhide HI).1; omega, ?_, ((unhide HI).2.2.trans (unhide HEW)).trans' (unhide H5).2 (fun _ _ h => h) (fun i hi e => by have := ((unhide HI).2.1.lt i e).1; omega)⟩⟩
          have e1 : (streamCat key (k + 1)).take N = (streamCat key k).take N ++ (hmac key (wInt k)).take (q) := by
            have := (unhide HI).1
            rw [streamCat_step, List.take_append, streamCat_length]
            congr 1
            rw [List.take_eq_take_iff, hmac_length]
            omega
          rw [e1, List.map_append]
          exact (unhide H5).1
        case measure => simp; omega
    · obtain rfl : m = N := by omega
      go_wp2
      go_ret
      obtain ⟨h1, h2, h3⟩ := unhide HI
      rw [streamS_of key m k (by omega)] at h2
      exact ⟨A, c, rfl, h2, h3⟩

end Go.Proofs.YtoefmncdloffaaaDoor
