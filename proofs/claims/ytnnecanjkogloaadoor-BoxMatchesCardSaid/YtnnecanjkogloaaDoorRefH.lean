/-
  The reference's Stream and Same.
-/
import Derived.Test.YtnnecanjkogloaaDoorRefG
namespace Go.Proofs.YtnnecanjkogloaaDoor
open Go.RowKit

theorem Reads.take_own {w : World} {B : Nat} {e : TypeId} {A : Option Addr} {m c N : Nat} {l : List UInt8} (h : w.ownsRow B e 1 (.slice A m c) m (l.map u8v)) (hN : N ≤ m) : Reads w 1 (.slice A N c) N ((l.take N).map u8v) := by
  obtain ⟨h1, A', c', e1, h2, h3, h4⟩ := Reads.of_own h
  cases e1
  rw [List.length_map] at h1
  refine ⟨by rw [List.length_map, List.length_take]; omega, A, c, rfl, by omega, h3, fun h0 => ?_⟩
  obtain ⟨b, o, e2, hc⟩ := h4 (by omega)
  refine ⟨b, o, e2, fun j u hj => hc j u ?_⟩
  rw [List.map_take, List.getElem?_take] at hj
  split at hj
  · exact hj
  · cases hj

set_option maxRecDepth 100000 in
set_option maxHeartbeats 2000000 in
theorem rstream_pos (key : List UInt8) (kv : Value) (N : Nat) (w : World) (hk : Reads w 1 kv key.length (key.map u8v)) (hkl : key.length ≤ 10000) (hN : N ≤ 100000) :
    Calls Tryd.prog 17 #[kv, .int .i64 (N : Int)] w fun e w' => ∃ A c, e = .returned (.slice A N c) ∧ Reads w' 1 (.slice A N c) N ((streamS key N).map u8v) ∧ Ext w w' := by
  have HK := hide hk
  clear hk
  go_enter Tryd.func17, Tryd.ntmps17
  go_wp2
  go_loopw [5, 6] (fun b i wr => ∃ (k : Nat) (A : Option Addr) (c : Nat), 32 * k < N + 32 ∧ i = .int .i64 k ∧ b = .slice A (32 * k) c ∧ Hid (GB w w.heap.size (.slice A (32 * k) c) (32 * k) (streamCat key k) wr)) (fun b _ _ => match b with | .slice _ m _ => N - m | _ => 0)
  case atStart => exact ⟨0, none, 0, by omega, rfl, rfl, hide (GB.nil (Ext.refl _) (Nat.le_refl _) (Nat.le_refl _))⟩
  case round =>
    obtain ⟨k, A, c, hkN, rfl, rfl, HI⟩ := hrel
    by_cases hlt : 32 * k < N
    · have d1 : decide (32 * k < N) = true := decide_eq_true hlt
      have HX := hide (streamCat_step key k)
      have HW := hide (fun w => rint_any (k : Int) w (by omega) (by omega))
      have hwl := wInt_length (k : Int)
      generalize wInt (k : Int) = ik at *
      go_wp2_with (first
        | (go_at_call 37; refine (unhide HW _).mono ?_; rintro e w1 ⟨A1, c1, rfl, ho1, hE1⟩; have H1 := hide (And.intro (Reads.of_own ho1) hE1); clear ho1 hE1)
        | (go_at_call 21; refine (rhmac_any key ik _ _ _ ((unhide HK).ext ((unhide HI).ext.trans (unhide H1).2)) (unhide H1).1 (by omega) (by omega)).mono ?_; rintro e w2 ⟨rfl, hE2⟩; have H2 := hide ((unhide H1).2.trans hE2); clear hE2)
        | (go_at_call 36; refine (rall_any (hmac key ik) _ (hmac_length _ _)).mono ?_; rintro e w3 ⟨A3, c3, rfl, h3⟩; have H3 := hide (And.intro h3 ((unhide H2).trans h3.ext)); clear h3)
        | (at_builtin; refine wpList_app (s := .tmp 13) (x := .tmp 18) rfl rfl u8_row rfl (ownsRow_ext (unhide HI).own (unhide H3).2) rfl (unhide H3).1.reads (AllOne.u8 _) (by omega) (Nat.le_trans (unhide HI).room (unhide H3).2.size') ?_; intro A4 c4 w4 ho hc hv; have H4 := hide (And.intro ho hc); clear ho hc hv))
      go_roundw
      case rel =>
        refine ⟨k + 1, A4, c4, by omega, by go_num, rfl, hide ?_⟩
        rw [unhide HX]
        exact (unhide HI).step (unhide H3).2 (unhide H4).2 (own_cat (unhide H4).1)
      case measure => simp; omega
    · have d1 : decide (32 * k < N) = false := decide_eq_false hlt
      have hc : N ≤ c := by
        obtain ⟨_, A', c', e, h2, _⟩ := (unhide HI).reads
        cases e
        omega
      have hcm : c ≤ 9223372036854775807 := by
        obtain ⟨_, A', c', e, _, h3, _⟩ := (unhide HI).reads
        cases e
        unfold maxLen at h3
        exact h3
      go_wp2
      go_ret
      refine ⟨_, _, rfl, ?_, (unhide HI).ext⟩
      have := Reads.take_own (unhide HI).own (N := N) (by omega)
      rwa [streamS_of key N k (by omega)] at this

set_option maxHeartbeats 1000000 in
theorem rstream_neg (kv : Value) (n : Int) (w : World) (hn : n < 0) :
    Calls Tryd.prog 17 #[kv, .int .i64 n] w fun e w' => e = .returned (.slice none 0 0) ∧ w = w' := by
  have h1 : ¬ (0 : Int) < n := by omega
  have d1 : decide ((0 : Int) < n) = false := decide_eq_false h1
  have d2 : decide (n < (0 : Int)) = true := decide_eq_true hn
  go_enter Tryd.func17, Tryd.ntmps17
  go_wp2
  refine wp_loop_rounds 1 ?_
  rw [rounds_succ]
  go_wp2
  go_ret
  exact ⟨rfl, rfl⟩

set_option maxHeartbeats 1000000 in
theorem rsame_any (a : List UInt8) (v1 v2 : Value) (w : World) (h1 : Reads w 1 v1 a.length (a.map u8v)) (h2 : Reads w 1 v2 a.length (a.map u8v)) :
    Calls Tryd.prog 16 #[v1, v2] w fun e w' => e = .returned (.bool true) ∧ w = w' := by
  have H1 := hide h1
  have H2 := hide h2
  clear h1 h2
  go_enter Tryd.func16, Tryd.ntmps16
  go_wp2_with (first
      | (refine wpList_strOf (src := 22) (dst := 9) (x := .tmp 5) (l := a) rfl rfl Tryd.underlying22 Tryd.underlying5 Tryd.underlying9 rfl (unhide H1) ?_)
      | (refine wpList_strOf (src := 22) (dst := 9) (x := .tmp 7) (l := a) rfl rfl Tryd.underlying22 Tryd.underlying5 Tryd.underlying9 rfl (unhide H2) ?_))
  go_ret
  exact ⟨by simp, rfl⟩

end Go.Proofs.YtnnecanjkogloaaDoor
