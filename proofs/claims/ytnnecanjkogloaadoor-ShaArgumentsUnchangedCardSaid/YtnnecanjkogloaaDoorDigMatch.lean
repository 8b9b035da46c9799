/-
  The law ShaDigestMatchesSpec.
-/
import Derived.Test.YtnnecanjkogloaaDoorMatch
namespace Go.Proofs.YtnnecanjkogloaaDoor
open Go.RowKit

set_option maxRecDepth 100000 in
set_option maxHeartbeats 1000000 in
theorem dmatch_any (tag : Int) (key : List UInt8) (kv : Value) (label : ByteArray) (ps : List (List UInt8)) (pv : Value) (w : World) (hM : ShaMem w) (hk : Reads w 1 kv key.length (key.map u8v)) (hp : Parts w pv ps) (hlm : label.size ≤ 9223372036854775807) :
    Calls Tryd.prog 7 #[.agg #[.int .i64 tag, kv, .string label, pv]] w fun e w' => e = .returned (.bool true) ∧ Ext w w' := by
  have HM := hide hM
  have HK := hide hk
  have HP := hide hp
  obtain ⟨A0, c0, rfl⟩ : ∃ A c, kv = .slice A key.length c := by obtain ⟨_, A, c, h, _⟩ := hk; exact ⟨A, c, h⟩
  clear hM hk hp
  by_cases h1 : 300 < key.length
  · have d1 : decide ((300 : Int) < (key.length : Int)) = true := decide_eq_true (by omega)
    have HS := hide True.intro
    go_enter Tryd.func7, Tryd.ntmps7
    go_wp2_with (first
      | (go_at_call 14; refine (sanity_any _ ((unhide HM).ext ((Ext.refl w).alloc _))).mono ?_; rintro e w1 ⟨rfl, hE1⟩; have H1 := hide (((Ext.refl w).alloc _).trans hE1); clear hE1)
      | (go_at_call 24; refine (short_parts ps _ _ ((unhide HP).ext (unhide H1))).mono ?_; rintro e w2 ⟨rfl, rfl⟩; rw [unhide HS]))
    go_ret
    exact ⟨rfl, unhide H1⟩
  · have d1 : decide ((300 : Int) < (key.length : Int)) = false := decide_eq_false (by omega)
    by_cases h2 : 300 < label.size
    · have d2 : decide ((300 : Int) < (label.size : Int)) = true := decide_eq_true (by omega)
      have HS := hide True.intro
      go_enter Tryd.func7, Tryd.ntmps7
      go_wp2_with (first
        | (go_at_call 14; refine (sanity_any _ ((unhide HM).ext ((Ext.refl w).alloc _))).mono ?_; rintro e w1 ⟨rfl, hE1⟩; have H1 := hide (((Ext.refl w).alloc _).trans hE1); clear hE1)
        | (go_at_call 24; refine (short_parts ps _ _ ((unhide HP).ext (unhide H1))).mono ?_; rintro e w2 ⟨rfl, rfl⟩; rw [unhide HS]))
      go_ret
      exact ⟨rfl, unhide H1⟩
    · have d2 : decide ((300 : Int) < (label.size : Int)) = false := decide_eq_false (by omega)
      cases hs : shortB ps
      · have HS := hide hs
        clear hs
        go_enter Tryd.func7, Tryd.ntmps7
        go_wp2_with (first
          | (go_at_call 14; refine (sanity_any _ ((unhide HM).ext ((Ext.refl w).alloc _))).mono ?_; rintro e w1 ⟨rfl, hE1⟩; have H1 := hide (((Ext.refl w).alloc _).trans hE1); clear hE1)
          | (go_at_call 24; refine (short_parts ps _ _ ((unhide HP).ext (unhide H1))).mono ?_; rintro e w2 ⟨rfl, rfl⟩; rw [unhide HS]))
        go_ret
        exact ⟨rfl, unhide H1⟩
      · have HS := hide hs
        have hs' : ps.length ≤ 20 ∧ ∀ p ∈ ps, p.length ≤ 300 := of_decide_eq_true hs
        have HB := hide hs'
        clear hs hs'
        obtain ⟨r1, hr1⟩ : ∃ r, ((digestS tag ps).map u8v).toArray = r := ⟨_, rfl⟩
        obtain ⟨r2, hr2⟩ : ∃ r, ((deriveS key label.data.toList ps).map u8v).toArray = r := ⟨_, rfl⟩
        have heq1 := same16 hr1 (digestS_length _ _)
        have heq2 := same16 hr2 (deriveS_length _ _ _)
        have HR1 := hide hr1
        have HR2 := hide hr2
        clear hr1 hr2
        go_enter Tryd.func7, Tryd.ntmps7
        go_wp2_with (first
          | (go_at_call 14; refine (sanity_any _ ((unhide HM).ext ((Ext.refl w).alloc _))).mono ?_; rintro e w1 ⟨rfl, hE1⟩; have H1 := hide (((Ext.refl w).alloc _).trans hE1); clear hE1)
          | (go_at_call 24; refine (short_parts ps _ _ ((unhide HP).ext (unhide H1))).mono ?_; rintro e w2 ⟨rfl, rfl⟩; rw [unhide HS])
          | (go_at_call 25; refine (digest_any tag ps _ _ ((unhide HM).ext (unhide H1)) ((unhide HP).ext (unhide H1)) (by have := (unhide HB).1; omega) (fun p hp => by have := (unhide HB).2 p hp; omega)).mono ?_; rintro e w3 ⟨rfl, hE3⟩; rw [unhide HR1]; have H3 := hide ((unhide H1).trans hE3); clear hE3)
          | (go_at_call 26; refine (rdigest_any tag ps _ _ ((unhide HP).ext (unhide H3)) (by have := (unhide HB).1; omega) (fun p hp => by have := (unhide HB).2 p hp; omega)).mono ?_; rintro e w4 ⟨rfl, hE4⟩; rw [unhide HR1]; have H4 := hide ((unhide H3).trans hE4); clear hE4)
          | (go_at_call 27; refine (derive_any key _ label ps _ _ ((unhide HM).ext (unhide H4)) ((unhide HK).ext (unhide H4)) (by omega) (by omega) ((unhide HP).ext (unhide H4)) (by have := (unhide HB).1; omega) (fun p hp => by have := (unhide HB).2 p hp; omega)).mono ?_; rintro e w5 ⟨rfl, hE5⟩; rw [unhide HR2]; have H5 := hide ((unhide H4).trans hE5); clear hE5)
          | (go_at_call 28; refine (rderive_any key _ label ps _ _ ((unhide HK).ext (unhide H5)) (by omega) (by omega) ((unhide HP).ext (unhide H5)) (by have := (unhide HB).1; omega) (fun p hp => by have := (unhide HB).2 p hp; omega)).mono ?_; rintro e w6 ⟨rfl, hE6⟩; rw [unhide HR2]; have H6 := hide ((unhide H5).trans hE6); clear hE6))
        go_ret
        exact ⟨rfl, unhide H6⟩

end Go.Proofs.YtnnecanjkogloaaDoor
