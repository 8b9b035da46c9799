/-
  The laws BoxRoundTrip.
-/
import Derived.Test.YtnnecanjkogloaaDoorBoxF
namespace Go.Proofs.YtnnecanjkogloaaDoor
open Go.RowKit

set_option maxRecDepth 100000 in
set_option maxHeartbeats 2000000 in
theorem rt_any (key : List UInt8) (nonce : Int) (plain : ByteArray) (w : World) (hM : ShaMem w) (hk : key.length = 16) (h1 : -9223372036854775808 ≤ nonce) (h2 : nonce < 9223372036854775808) (hpm : plain.size ≤ 9223372036854775807) :
    Calls Tryd.prog 10 #[.agg (key.map u8v).toArray, .int .i64 nonce, .string plain] w fun e w' => e = .returned (.bool true) ∧ Ext w w' := by
  have HM := hide hM
  clear hM
  by_cases h3 : 300 < plain.size
  · have d1 : decide ((300 : Int) < (plain.size : Int)) = true := decide_eq_true (by omega)
    obtain ⟨arr, harr⟩ : ∃ r, (key.map u8v).toArray = r := ⟨_, rfl⟩
    rw [harr]
    clear harr
    go_enter Tryd.func10, Tryd.ntmps10
    go_wp2_with (go_at_call 29; refine (sanity6_any _ ((unhide HM).ext ((Ext.refl w).alloc _))).mono ?_; rintro e w1 ⟨rfl, hE1⟩; have H1 := hide (((Ext.refl w).alloc _).trans hE1); clear hE1)
    go_ret
    exact ⟨rfl, unhide H1⟩
  · have d1 : decide ((300 : Int) < (plain.size : Int)) = false := decide_eq_false (by omega)
    obtain ⟨cs, hcs⟩ : ∃ c, strOf (applyS key nonce plain.data.toList) = c := ⟨_, rfl⟩
    have hcl : cs.data.toList = applyS key nonce plain.data.toList := by rw [← hcs]; exact strOf_list _
    have hcz : cs.size = plain.size := by rw [← hcs, strOf_size, applyS_length]; exact Array.length_toList
    have HSeal := hide (fun W hW => seal_any key nonce plain W hW hk h1 h2 (by omega))
    have htl : (tagS key nonce (applyS key nonce plain.data.toList)).length = 16 := tagS_length _ _ _
    have HOpen := hide (fun W hW => open_yes key nonce cs (tagS key nonce (applyS key nonce plain.data.toList)) W hW hk htl h1 h2 (by omega) (by rw [hcl]))
    rw [hcl, apply_back, strOf_toList] at HOpen
    rw [hcs] at HSeal
    obtain ⟨tv, htv⟩ : ∃ l, (tagS key nonce (applyS key nonce plain.data.toList)).map u8v = l := ⟨_, rfl⟩
    have HTV := hide (show tv.length = 16 ∧ (boxL nonce cs tv).all (·.oneCell') = true from by rw [← htv]; exact ⟨by simpa using htl, boxL_one⟩)
    rw [boxV_eq, htv] at HSeal HOpen
    obtain ⟨arr, harr⟩ : ∃ r, (key.map u8v).toArray = r := ⟨_, rfl⟩
    have hasz : arr.size = 16 := by rw [← harr]; simpa using hk
    rw [harr] at HSeal HOpen ⊢
    have hczi : (cs.size : Int) = (plain.size : Int) := by omega
    clear hcs hcl hcz htl htv harr
    go_enter Tryd.func10, Tryd.ntmps10
    go_upto_region 6 with (first
      | (go_at_call 29; refine (sanity6_any _ ((unhide HM).ext ((Ext.refl w).alloc _))).mono ?_; rintro e w1 ⟨rfl, hE1⟩; have H1 := hide (And.intro (((Ext.refl w).alloc _).trans hE1) ((Blk.new w 32 arr).ext hE1)); clear hE1)
      | (refine wpList_loadB (x := .tmp 3) rfl rfl digest_wide rfl (cs := arr) (unhide H3).2.1 hasz ?_)
      | (refine wpList_loadB (x := .tmp 3) rfl rfl digest_wide rfl (cs := arr) (unhide H1).2 hasz ?_)
      | (refine wpList_loadB (x := .tmp 8) rfl rfl box_wide rfl (cs := boxL nonce cs tv) (unhide H3).2.2 (boxL_size (unhide HTV).1) ?_)
      | (go_at_call 32; refine (unhide HSeal _ ((unhide HM).ext (unhide H1).1)).mono ?_; rintro e w2 ⟨rfl, hE2⟩; have H2 := hide (And.intro ((unhide H1).1.trans hE2) ((unhide H1).2.ext hE2)); clear hE2)
      | (refine wpList_storeB (ty := 47) (t := 47) (x := .tmp 8) (y := .tmp 19) (cs := boxL nonce cs tv) rfl rfl box_wide rfl rfl (Blk.new w2 _ _) rfl (boxL_size (unhide HTV).1) (unhide HTV).2 ?_; intro w3 hb3 hc3 hz3; have H3 := hide (And.intro (made_ext (unhide H2).1 hc3) (And.intro ((unhide H2).2.ext (made_ext1 hc3)) hb3)); clear hb3 hc3 hz3)
      | (go_at_call 30; refine (unhide HOpen _ ((unhide HM).ext (unhide H3).1)).mono ?_; rintro e w4 ⟨rfl, hE4⟩; have H4 := hide (And.intro ((unhide H3).1.trans hE4) ((unhide H3).2.2.ext hE4)); clear hE4))
    have d3 : w4.cell? ⟨w2.heap.size, 0, none⟩ = some (.int .i64 nonce) := by rw [(unhide H4).2.cell]; rfl
    have d4 : w4.cell? ⟨w2.heap.size, 1, none⟩ = some (.string cs) := by rw [(unhide H4).2.cell]; rfl
    go_wp2
    go_ret
    exact ⟨rfl, (unhide H4).1⟩

end Go.Proofs.YtnnecanjkogloaaDoor
