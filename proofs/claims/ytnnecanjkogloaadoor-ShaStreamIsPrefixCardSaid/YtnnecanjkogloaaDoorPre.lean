/-
  The law ShaStreamIsPrefix.
-/
import Derived.Test.YtnnecanjkogloaaDoorMatch
namespace Go.Proofs.YtnnecanjkogloaaDoor
open Go.RowKit

set_option maxRecDepth 100000 in
set_option maxHeartbeats 1000000 in
theorem pre_pos (key : List UInt8) (kv : Value) (N m : Nat) (w : World) (hM : ShaMem w) (hk : Reads w 1 kv key.length (key.map u8v)) (hkl : key.length ≤ 300) (hN : N ≤ 600) (hm : m < 256) :
    Calls Tryd.prog 3 #[kv, .int .i64 (N : Int), .int .u8 (m : Int)] w fun e w' => e = .returned (.bool true) ∧ Ext w w' := by
  have HM := hide hM
  have HK := hide hk
  obtain ⟨A0, c0, rfl⟩ : ∃ A c, kv = .slice A key.length c := by obtain ⟨_, A, c, h, _⟩ := hk; exact ⟨A, c, h⟩
  clear hM hk
  have d1 : decide ((300 : Int) < (key.length : Int)) = false := decide_eq_false (by omega)
  have d2 : decide ((600 : Int) < (N : Int)) = false := decide_eq_false (by omega)
  have hmx : max (N : Int) 0 = (N : Int) := by omega
  have HPR := hide (show (streamS key ((N + m : Nat) : Int)).take N = streamS key (N : Int) from by
    have := streamS_prefix key (N : Int) m
    rw [hmx] at this
    simpa using this)
  go_enter Tryd.func3, Tryd.ntmps3
  go_wp2_with (go_at_call 14; refine (sanity_any _ (unhide HM)).mono ?_; rintro e w1 ⟨rfl, hE1⟩; have H1 := hide hE1; clear hE1)
  refine (stream_pos key _ N _ ((unhide HM).ext (unhide H1)) ((unhide HK).ext (unhide H1)) (by omega) (by omega)).mono ?_
  rintro e w2 ⟨A2, c2, rfl, ho2, hE2⟩
  have H2 := hide (And.intro (Reads.of_own ho2) ((unhide H1).trans hE2))
  clear ho2 hE2
  go_wp2_with fail
  have hNm : (N : Int) + (m : Int) = ((N + m : Nat) : Int) := by simp
  rw [hNm]
  refine (stream_pos key _ (N + m) _ ((unhide HM).ext (unhide H2).2) ((unhide HK).ext (unhide H2).2) (by omega) (by omega)).mono ?_
  clear hNm
  rintro e w3 ⟨A3, c3, rfl, ho3, hE3⟩
  have hc3 : N ≤ c3 := by
    obtain ⟨_, A', c', e, h2, _⟩ := Reads.of_own ho3
    cases e
    omega
  have hc3m : c3 ≤ 9223372036854775807 := by
    obtain ⟨_, A', c', e, _, h3, _⟩ := Reads.of_own ho3
    cases e
    unfold maxLen at h3
    exact h3
  have H3 := hide (show Reads w3 1 (.slice A3 N c3) N ((streamS key (N : Int)).map u8v) ∧ Reads w3 1 (.slice A2 N c2) N ((streamS key (N : Int)).map u8v) ∧ Ext w w3 from by
    refine ⟨?_, (unhide H2).1.ext hE3, (unhide H2).2.trans hE3⟩
    have := Reads.take_own ho3 (N := N) (by omega)
    rwa [unhide HPR] at this)
  clear ho3 hE3
  have HLN := hide (show (streamS key (N : Int)).length = N from by rw [streamS_length]; simp)
  have hmx2 : max (N : Int) 0 = (N : Int) := by omega
  have e1 : ((((N + m : Nat) : Int)) != (N : Int) + (m : Int)) = false := by simp
  have TK := hide True.intro
  go_wp2_with (first
    | (go_at_call 17; refine (rstream_pos key _ N _ ((unhide HK).ext (unhide H3).2.2) (by omega) (by omega)).mono ?_; rintro e w4 ⟨A4, c4, rfl, hr4, hE4⟩; have H4 := hide (And.intro hr4 hE4); clear hr4 hE4)
    | (have TT := unhide TK; clear TK; go_at_call 16; clear TT; refine (rsame_any (streamS key (N : Int)) _ _ _ (by rw [unhide HLN]; exact (unhide H3).2.1.ext (unhide H4).2) (by rw [unhide HLN]; exact (unhide H4).1)).mono ?_; rintro e w5 ⟨rfl, rfl⟩))
  refine (rsame_any (streamS key (N : Int)) _ _ _ (by rw [unhide HLN]; exact (unhide H3).2.1.ext (unhide H4).2) (by rw [unhide HLN]; exact (unhide H3).1.ext (unhide H4).2)).mono ?_
  rintro e w6 ⟨rfl, rfl⟩
  go_wp2
  go_ret
  exact ⟨rfl, (unhide H3).2.2.trans (unhide H4).2⟩

set_option maxRecDepth 100000 in
set_option maxHeartbeats 1000000 in
theorem pre_neg (key : List UInt8) (kv : Value) (n : Int) (m : Nat) (w : World) (hM : ShaMem w) (hk : Reads w 1 kv key.length (key.map u8v)) (hkl : key.length ≤ 300) (hn : n < 0) (hm : m < 256) :
    Calls Tryd.prog 3 #[kv, .int .i64 n, .int .u8 (m : Int)] w fun e w' => e = .returned (.bool true) ∧ Ext w w' := by
  have HM := hide hM
  have HK := hide hk
  obtain ⟨A0, c0, rfl⟩ : ∃ A c, kv = .slice A key.length c := by obtain ⟨_, A, c, h, _⟩ := hk; exact ⟨A, c, h⟩
  clear hM hk
  have d1 : decide ((300 : Int) < (key.length : Int)) = false := decide_eq_false (by omega)
  have d2 : decide ((600 : Int) < n) = false := decide_eq_false (by omega)
  have hmx : max n 0 = 0 := by omega
  go_enter Tryd.func3, Tryd.ntmps3
  go_wp2_with (go_at_call 14; refine (sanity_any _ (unhide HM)).mono ?_; rintro e w1 ⟨rfl, hE1⟩; have H1 := hide hE1; clear hE1)
  refine (stream_neg _ n _ hn).mono ?_
  rintro e w2 ⟨rfl, rfl⟩
  go_wp2_with fail
  refine (stream_pos key _ m _ ((unhide HM).ext (unhide H1)) ((unhide HK).ext (unhide H1)) (by omega) (by omega)).mono ?_
  rintro e w3 ⟨A3, c3, rfl, ho3, hE3⟩
  have H3 := hide (show Reads w3 1 (.slice A3 0 c3) 0 [] ∧ Ext w w3 from ⟨Reads.take_own ho3 (N := 0) (by omega), (unhide H1).trans hE3⟩)
  clear ho3 hE3
  go_wp2_with fail
  refine (rstream_neg _ n _ hn).mono ?_
  rintro e w4 ⟨rfl, rfl⟩
  go_wp2_with fail
  refine (rsame_any [] _ _ _ (Reads.nil _ 1) (Reads.nil _ 1)).mono ?_
  rintro e w5 ⟨rfl, rfl⟩
  go_wp2_with fail
  refine (rsame_any [] _ _ _ (Reads.nil _ 1) (unhide H3).1).mono ?_
  rintro e w6 ⟨rfl, rfl⟩
  go_wp2
  go_ret
  exact ⟨rfl, (unhide H3).2⟩

set_option maxHeartbeats 1000000 in
theorem pre_any (key : List UInt8) (kv : Value) (n : Int) (m : Int) (w : World) (hM : ShaMem w) (hk : Reads w 1 kv key.length (key.map u8v)) (hm : 0 ≤ m ∧ m < 256) :
    Calls Tryd.prog 3 #[kv, .int .i64 n, .int .u8 m] w fun e w' => e = .returned (.bool true) ∧ Ext w w' := by
  obtain ⟨m, rfl⟩ : ∃ k : Nat, m = k := ⟨m.toNat, by omega⟩
  by_cases h1 : 300 < key.length
  · have HM := hide hM
    obtain ⟨A0, c0, rfl⟩ : ∃ A c, kv = .slice A key.length c := by obtain ⟨_, A, c, h, _⟩ := hk; exact ⟨A, c, h⟩
    clear hM hk
    have d1 : decide ((300 : Int) < (key.length : Int)) = true := decide_eq_true (by omega)
    go_enter Tryd.func3, Tryd.ntmps3
    go_wp2_with (go_at_call 14; refine (sanity_any _ (unhide HM)).mono ?_; rintro e w1 ⟨rfl, hE1⟩; have H1 := hide hE1; clear hE1)
    go_ret
    exact ⟨rfl, unhide H1⟩
  · by_cases h2 : 600 < n
    · have HM := hide hM
      obtain ⟨A0, c0, rfl⟩ : ∃ A c, kv = .slice A key.length c := by obtain ⟨_, A, c, h, _⟩ := hk; exact ⟨A, c, h⟩
      clear hM hk
      have d1 : decide ((300 : Int) < (key.length : Int)) = false := decide_eq_false (by omega)
      have d2 : decide ((600 : Int) < n) = true := decide_eq_true h2
      go_enter Tryd.func3, Tryd.ntmps3
      go_wp2_with (go_at_call 14; refine (sanity_any _ (unhide HM)).mono ?_; rintro e w1 ⟨rfl, hE1⟩; have H1 := hide hE1; clear hE1)
      go_ret
      exact ⟨rfl, unhide H1⟩
    · by_cases h3 : n < 0
      · exact pre_neg key kv n m w hM hk (by omega) h3 (by omega)
      · obtain ⟨N, rfl⟩ : ∃ k : Nat, n = k := ⟨n.toNat, by omega⟩
        exact pre_pos key kv N m w hM hk (by omega) (by omega) (by omega)

end Go.Proofs.YtnnecanjkogloaaDoor
