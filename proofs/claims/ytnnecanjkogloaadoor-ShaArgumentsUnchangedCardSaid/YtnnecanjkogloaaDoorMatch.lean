/-
  The law ShaMatchesSpec.
-/
import Derived.Test.YtnnecanjkogloaaDoorRefH
import Derived.Test.YtnnecanjkogloaaDoorShort
namespace Go.Proofs.YtnnecanjkogloaaDoor
open Go.RowKit

theorem same32 {l : List UInt8} {r : Array Value} (h : (l.map u8v).toArray = r) (hl : l.length = 32) : ∀ W, (binOp .eql 27 (.agg r) (.agg r)).run Tryd.prog W = .ok (.bool true) W := fun W => by
  rw [← h, eq32 hl hl]; simp
theorem same16 {l : List UInt8} {r : Array Value} (h : (l.map u8v).toArray = r) (hl : l.length = 16) : ∀ W, (binOp .eql 32 (.agg r) (.agg r)).run Tryd.prog W = .ok (.bool true) W := fun W => by
  rw [← h, eq16 hl hl]; simp

set_option maxRecDepth 100000 in
set_option maxHeartbeats 1000000 in
theorem match_any (key b : List UInt8) (kv bv : Value) (w : World) (hM : ShaMem w) (hk : Reads w 1 kv key.length (key.map u8v)) (hb : Reads w 1 bv b.length (b.map u8v)) :
    Calls Tryd.prog 5 #[kv, bv] w fun e w' => e = .returned (.bool true) ∧ Ext w w' := by
  have HM := hide hM
  have HK := hide hk
  have HB := hide hb
  obtain ⟨A0, c0, rfl⟩ : ∃ A c, kv = .slice A key.length c := by obtain ⟨_, A, c, h, _⟩ := hk; exact ⟨A, c, h⟩
  obtain ⟨A1, c1, rfl⟩ : ∃ A c, bv = .slice A b.length c := by obtain ⟨_, A, c, h, _⟩ := hb; exact ⟨A, c, h⟩
  clear hM hk hb
  by_cases h1 : 3000 < key.length
  · have d1 : decide ((3000 : Int) < (key.length : Int)) = true := decide_eq_true (by omega)
    go_enter Tryd.func5, Tryd.ntmps5
    go_wp2_with (go_at_call 14; refine (sanity_any _ (unhide HM)).mono ?_; rintro e w1 ⟨rfl, hE1⟩; have H1 := hide hE1; clear hE1)
    go_ret
    exact ⟨rfl, unhide H1⟩
  · have d1 : decide ((3000 : Int) < (key.length : Int)) = false := decide_eq_false (by omega)
    by_cases h2 : 3000 < b.length
    · have d2 : decide ((3000 : Int) < (b.length : Int)) = true := decide_eq_true (by omega)
      go_enter Tryd.func5, Tryd.ntmps5
      go_wp2_with (go_at_call 14; refine (sanity_any _ (unhide HM)).mono ?_; rintro e w1 ⟨rfl, hE1⟩; have H1 := hide hE1; clear hE1)
      go_ret
      exact ⟨rfl, unhide H1⟩
    · have d2 : decide ((3000 : Int) < (b.length : Int)) = false := decide_eq_false (by omega)
      obtain ⟨r1, hr1⟩ : ∃ r, ((sha b).map u8v).toArray = r := ⟨_, rfl⟩
      obtain ⟨r2, hr2⟩ : ∃ r, ((hmac key b).map u8v).toArray = r := ⟨_, rfl⟩
      obtain ⟨r3, hr3⟩ : ∃ r, ((mac key b).map u8v).toArray = r := ⟨_, rfl⟩
      have heq1 := same32 hr1 (sha_length _)
      have heq2 := same32 hr2 (hmac_length _ _)
      have heq3 := same16 hr3 (mac_length _ _)
      have HR1 := hide hr1
      have HR2 := hide hr2
      have HR3 := hide hr3
      clear hr1 hr2 hr3
      go_enter Tryd.func5, Tryd.ntmps5
      go_wp2_with (first
        | (go_at_call 14; refine (sanity_any _ (unhide HM)).mono ?_; rintro e w1 ⟨rfl, hE1⟩; have H1 := hide hE1; clear hE1)
        | (go_at_call 18; refine (sum_any b _ _ ((unhide HM).ext (unhide H1)) ((unhide HB).ext (unhide H1)) (by omega)).mono ?_; rintro e w2 ⟨rfl, hE2⟩; rw [unhide HR1]; have H2 := hide ((unhide H1).trans hE2); clear hE2)
        | (go_at_call 20; refine (rsum_any b _ _ ((unhide HB).ext (unhide H2)) (by omega)).mono ?_; rintro e w3 ⟨rfl, hE3⟩; rw [unhide HR1]; have H3 := hide ((unhide H2).trans hE3); clear hE3)
        | (go_at_call 19; refine (hmac_any key b _ _ _ ((unhide HM).ext (unhide H3)) ((unhide HK).ext (unhide H3)) ((unhide HB).ext (unhide H3)) (by omega) (by omega)).mono ?_; rintro e w4 ⟨rfl, hE4⟩; rw [unhide HR2]; have H4 := hide ((unhide H3).trans hE4); clear hE4)
        | (go_at_call 21; refine (rhmac_any key b _ _ _ ((unhide HK).ext (unhide H4)) ((unhide HB).ext (unhide H4)) (by omega) (by omega)).mono ?_; rintro e w5 ⟨rfl, hE5⟩; rw [unhide HR2]; have H5 := hide ((unhide H4).trans hE5); clear hE5)
        | (go_at_call 22; refine (mac_any key b _ _ _ ((unhide HM).ext (unhide H5)) ((unhide HK).ext (unhide H5)) ((unhide HB).ext (unhide H5)) (by omega) (by omega)).mono ?_; rintro e w6 ⟨rfl, hE6⟩; rw [unhide HR3]; have H6 := hide ((unhide H5).trans hE6); clear hE6)
        | (go_at_call 23; refine (rmac_any key b _ _ _ ((unhide HK).ext (unhide H6)) ((unhide HB).ext (unhide H6)) (by omega) (by omega)).mono ?_; rintro e w7 ⟨rfl, hE7⟩; rw [unhide HR3]; have H7 := hide ((unhide H6).trans hE7); clear hE7))
      go_ret
      exact ⟨rfl, unhide H7⟩

end Go.Proofs.YtnnecanjkogloaaDoor
