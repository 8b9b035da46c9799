/-
  The law ShaDigestSeparatesTags.
-/
import Derived.Test.YtnnecanjkogloaaDoorShort
namespace Go.Proofs.YtnnecanjkogloaaDoor
open Go.RowKit

theorem tag_same (tag more : Int) : tagByte (wrap64 (tag + 256 * more)) = tagByte tag := by
  unfold tagByte
  have : wrap64 (tag + 256 * more) % 256 = tag % 256 := by unfold wrap64; omega
  rw [this]

set_option maxRecDepth 100000 in
set_option maxHeartbeats 1000000 in
theorem sep_any (tag more : Int) (ps : List (List UInt8)) (pv : Value) (w : World) (hM : ShaMem w) (hp : Parts w pv ps) (hm : -128 ≤ more ∧ more < 128) :
    Calls Tryd.prog 6 #[.int .i64 tag, .int .i8 more, pv] w fun e w' => e = .returned (.bool true) ∧ Ext w w' := by
  have HM := hide hM
  have HP := hide hp
  obtain ⟨hm1, hm2⟩ := hm
  clear hM hp
  cases hs : shortB ps
  · have HS := hide hs
    clear hs
    go_enter Tryd.func6, Tryd.ntmps6
    go_wp2_with (first
      | (go_at_call 14; refine (sanity_any _ (unhide HM)).mono ?_; rintro e w1 ⟨rfl, hE1⟩; have H1 := hide hE1; clear hE1)
      | (go_at_call 24; refine (short_parts ps _ _ ((unhide HP).ext (unhide H1))).mono ?_; rintro e w2 ⟨rfl, rfl⟩; rw [unhide HS]))
    go_ret
    exact ⟨rfl, unhide H1⟩
  · have HS := hide hs
    have hs' : ps.length ≤ 20 ∧ ∀ p ∈ ps, p.length ≤ 300 := of_decide_eq_true hs
    have HB := hide hs'
    clear hs hs'
    obtain ⟨r, hr⟩ : ∃ r, ((digestS tag ps).map u8v).toArray = r := ⟨_, rfl⟩
    have heq : ∀ W, (binOp .eql 32 (.agg r) (.agg r)).run Tryd.prog W = .ok (.bool true) W := fun W => by
      rw [← hr, eq16 (digestS_length _ _) (digestS_length _ _)]
      simp
    have HR := hide hr
    have HR2 := hide (show ((digestS (wrap64 (tag + 256 * more)) ps).map u8v).toArray = r from by rw [← hr]; unfold digestS; rw [tag_same])
    clear hr
    go_enter Tryd.func6, Tryd.ntmps6
    go_wp2_with (first
      | (go_at_call 14; refine (sanity_any _ (unhide HM)).mono ?_; rintro e w1 ⟨rfl, hE1⟩; have H1 := hide hE1; clear hE1)
      | (go_at_call 24; refine (short_parts ps _ _ ((unhide HP).ext (unhide H1))).mono ?_; rintro e w2 ⟨rfl, rfl⟩; rw [unhide HS]))
    refine (digest_any tag ps _ _ ((unhide HM).ext (unhide H1)) ((unhide HP).ext (unhide H1)) (by have := (unhide HB).1; omega) (fun p hp => by have := (unhide HB).2 p hp; omega)).mono ?_
    rintro e w3 ⟨rfl, hE3⟩
    rw [unhide HR]
    have H3 := hide ((unhide H1).trans hE3)
    clear hE3
    go_wp2_with fail
    refine (digest_any _ ps _ _ ((unhide HM).ext (unhide H3)) ((unhide HP).ext (unhide H3)) (by have := (unhide HB).1; omega) (fun p hp => by have := (unhide HB).2 p hp; omega)).mono ?_
    rintro e w4 ⟨rfl, hE4⟩
    rw [unhide HR2]
    have H4 := hide ((unhide H3).trans hE4)
    clear hE4
    go_wp2
    go_ret
    exact ⟨rfl, unhide H4⟩

end Go.Proofs.YtnnecanjkogloaaDoor
