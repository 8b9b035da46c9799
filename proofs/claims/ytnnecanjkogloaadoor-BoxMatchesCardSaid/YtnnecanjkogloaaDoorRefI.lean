/-
  The reference's Tag of a box.
-/
import Derived.Test.YtnnecanjkogloaaDoorRefG
import Derived.Test.YtnnecanjkogloaaDoorBoxF
namespace Go.Proofs.YtnnecanjkogloaaDoor
open Go.RowKit

theorem reads_key {w : World} {g : Nat} {t : TypeId} {key : List UInt8} {arr : Array Value} (h : Blk w g t arr) (ha : (key.map u8v).toArray = arr) (hk : key.length = 16) : Reads w 1 (.slice (some ⟨g, 0, none⟩) 16 16) key.length (key.map u8v) := by
  have hs : arr.size = 16 := by rw [← ha]; simpa using hk
  have := Reads.of_blk h (i := 0) (n := 16) (c := 16) (by omega) (by omega) (by unfold maxLen; omega)
  rw [← ha] at this
  simp only [List.drop_zero] at this
  rw [List.take_of_length_le (by rw [List.length_map]; omega)] at this
  rw [hk]
  exact this

set_option maxRecDepth 100000 in
set_option maxHeartbeats 2000000 in
theorem rtag_any (key : List UInt8) (nonce : Int) (c : ByteArray) (w : World) (hk : key.length = 16) (h1 : -9223372036854775808 ≤ nonce) (h2 : nonce < 9223372036854775808) (hc : c.size ≤ 100000) :
    Calls Tryd.prog 52 #[.agg (key.map u8v).toArray, .int .i64 nonce, .string c] w fun e w' => e = .returned (.agg ((tagS key nonce c.data.toList).map u8v).toArray) ∧ Ext w w' := by
  obtain ⟨arr, harr⟩ : ∃ r, (key.map u8v).toArray = r := ⟨_, rfl⟩
  obtain ⟨dk, hdk⟩ : ∃ d, deriveS key labAuth.data.toList [] = d := ⟨_, rfl⟩
  obtain ⟨res, hres⟩ : ∃ d, tagS key nonce c.data.toList = d := ⟨_, rfl⟩
  have hdl : dk.length = 16 := by rw [← hdk]; exact deriveS_length _ _ _
  have hrl : res.length = 16 := by rw [← hres]; exact tagS_length _ _ _
  have HW1 := hide (fun w => rint_any nonce w h1 h2)
  have HW2 := hide (fun w => rbytes_any c w (by omega))
  have hb1 := wInt_length nonce
  have hb2 : (wBytes c.data.toList).length ≤ 10 + c.size := wBytes_length c.data.toList
  have HR := hide hres
  have HD := hide hdk
  have HA := hide harr
  have HS := hide (show ((dk.map u8v).toArray).size = 16 ∧ ((res.map u8v).toArray).size = 16 from ⟨by simpa using hdl, by simpa using hrl⟩)
  have HMR := hide (show mac dk (wInt nonce ++ wBytes c.data.toList) = res from by rw [← hres, ← hdk]; rfl)
  rw [harr, hres]
  clear harr hdk hres
  generalize wInt nonce = ni at *
  generalize wBytes c.data.toList = nc at *
  go_enter Tryd.func52, Tryd.ntmps52
  go_wp2_with fail
  refine (rderive_any key _ labAuth [] _ _ (reads_key ((Blk.new w _ _).alloc _) (unhide HA) hk) (by omega) (by decide) (Parts.nil _) (by simp) (fun p hp => by cases hp)).mono ?_
  rintro e w1 ⟨rfl, hE1⟩
  rw [unhide HD]
  have H1 := hide (show Ext w w1 ∧ Blk w1 (w.heap.size + 1) 32 (bytesTo 16 []) from ⟨(((Ext.refl w).alloc _).alloc _).trans hE1, (Blk.new' _ _ _ (by simp)).ext hE1⟩)
  clear hE1
  go_wp2_with (first
    | (refine wpList_storeB (ty := 32) (t := 32) (x := .tmp 7) (y := .tmp 10) rfl rfl digest_wide rfl rfl (Blk.new w1 _ _) rfl (unhide HS).1 (bytes_one _) ?_; intro w2 hb2 hc2 hz2; have H2 := hide (And.intro (made_ext (unhide H1).1 hc2) (And.intro ((unhide H1).2.ext (made_ext1 hc2)) hb2)); clear hb2 hc2 hz2)
    | (go_at_call 37; refine (unhide HW1 _).mono ?_; rintro e w3 ⟨A3, c3, rfl, ho3, hE3⟩; have H3 := hide (show GB w2 w2.heap.size (.slice (some ⟨w2.heap.size, 0, none⟩) 0 0) 0 [] w3 ∧ Reads w3 1 (.slice A3 ni.length c3) ni.length (ni.map u8v) from And.intro (GB.to ⟨own_empty _ _ _ _ (Nat.le_refl _), (Ext.refl w2).alloc _, Nat.le_refl _, by simp⟩ hE3) (Reads.of_own ho3)); clear ho3 hE3)
    | (at_builtin; refine wpList_app (s := .tmp 11) (x := .tmp 13) rfl rfl u8_row rfl (unhide H3).1.own rfl (unhide H3).2 (AllOne.u8 _) (by omega) (unhide H3).1.room ?_; intro A4 c4 w4 ho hc hv; have H4 := hide (GB.step (l' := [] ++ ni) (unhide H3).1 (Ext.refl _) hc (own_cat ho)); rw [Nat.zero_add, List.nil_append] at H4; clear ho hc hv)
    | (go_at_call 49; refine (unhide HW2 _).mono ?_; rintro e w5 ⟨A5, c5, rfl, ho5, hE5⟩; have H5 := hide (And.intro ((unhide H4).to hE5) (Reads.of_own ho5)); clear ho5 hE5)
    | (at_builtin; refine wpList_app (s := .tmp 14) (x := .tmp 16) rfl rfl u8_row rfl (unhide H5).1.own rfl (unhide H5).2 (AllOne.u8 _) (by omega) (unhide H5).1.room ?_; intro A6 c6 w6 ho hc hv; have H6 := hide (GB.step (l' := ni ++ nc) (unhide H5).1 (Ext.refl _) hc (own_cat ho)); clear ho hc hv))
  refine (rmac_any dk (ni ++ nc) _ _ _ (reads_key ((unhide H2).2.2.ext (unhide H6).ext) rfl hdl) (unhide H6).readsL (by omega) (by rw [(unhide H6).len]; omega)).mono ?_
  rintro e w7 ⟨rfl, hE7⟩
  rw [unhide HMR]
  have H7 := hide (And.intro ((unhide H2).1.trans ((unhide H6).ext.trans hE7)) ((unhide H2).2.1.ext ((unhide H6).ext.trans hE7)))
  clear hE7
  go_wp2_with (refine wpList_storeB (ty := 32) (t := 32) (x := .tmp 6) (y := .tmp 20) rfl rfl digest_wide rfl rfl (unhide H7).2 (bytesTo_size (by simp)) (unhide HS).2 (bytes_one _) ?_; intro w8 hb8 hc8 hz8; have H8 := hide (And.intro hb8 hc8); clear hb8 hc8 hz8)
  refine bodyPost_ret (results_blk digest_wide rfl (unhide H8).1 (unhide HS).2 rfl) rfl ⟨rfl, ?_⟩
  exact (unhide H7).1.trans' (unhide H8).2 (fun _ _ h => h) (fun i hi e => by omega)

end Go.Proofs.YtnnecanjkogloaaDoor
