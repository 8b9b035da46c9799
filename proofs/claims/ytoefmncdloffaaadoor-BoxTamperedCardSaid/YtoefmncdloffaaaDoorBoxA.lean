
/-
  box.tag.
-/
import Derived.Test.YtoefmncdloffaaaDoorShaL
namespace Go.Proofs.YtoefmncdloffaaaDoor
open Go.RowKit

def labAuth : ByteArray := { data := #[97, 117, 116, 104, 101, 110, 116, 105, 99, 97, 116, 101] }
def labEnc : ByteArray := { data := #[101, 110, 99, 114, 121, 112, 116] }
def tagS (key : List UInt8) (nonce : Int) (c : List UInt8) : List UInt8 := mac (deriveS key labAuth.data.toList []) (wInt nonce ++ wBytes c)
theorem tagS_length (key : List UInt8) (nonce : Int) (c : List UInt8) : (tagS key nonce c).length = 16 := mac_length _ _

set_option maxRecDepth 100000 in
set_option maxHeartbeats 2000000 in
theorem tag_any (key : List UInt8) (nonce : Int) (c : ByteArray) (w : World) (hM : ShaMem w) (hk : key.length = 16) (h1 : -9223372036854775808 ≤ nonce) (h2 : nonce < 9223372036854775808) (hc : c.size ≤ 100000) :
    Calls Tryd.prog 50 #[.agg (key.map u8v).toArray, .int .i64 nonce, .string c] w fun e w' => e = .returned (.agg ((tagS key nonce c.data.toList).map u8v).toArray) ∧ Ext w w' := by
  obtain ⟨arr, harr⟩ : ∃ r, (key.map u8v).toArray = r := ⟨_, rfl⟩
  obtain ⟨dk, hdk⟩ : ∃ d, deriveS key labAuth.data.toList [] = d := ⟨_, rfl⟩
  obtain ⟨res, hres⟩ : ∃ d, tagS key nonce c.data.toList = d := ⟨_, rfl⟩
  have hdl : dk.length = 16 := by rw [← hdk]; exact deriveS_length _ _ _
  have HM := hide hM
  have HW1 := hide (fun w => wint_any nonce w h1 h2)
  have HW2 := hide (fun w => wbytes_any c w (by omega))
  have HB := hide (show (wInt nonce).length ≤ 10 ∧ (wBytes c.data.toList).length ≤ 10 + c.size from ⟨wInt_length _, wBytes_length c.data.toList⟩)
  have HR := hide hres
  have HD := hide hdk
  have HA := hide harr
  rw [harr, hres]
  clear harr hdk hres hM h1 h2
  have hasz : arr.size = 16 := by rw [← unhide HA]; simpa using hk
  go_enter Tryd.func50, Tryd.ntmps50
  go_wp2_with fail
  refine (derive_any key _ labAuth [] _ _ ((unhide HM).ext (((Ext.refl w).alloc _).alloc _)) ?_ (by omega) (by decide) (Parts.nil _) (by simp) (fun p hp => by cases hp)).mono ?_
  · have := Reads.of_blk ((Blk.new w 23 arr).alloc (.cells (Array.replicate 16 (.int .u8 0)) 23)) (i := 0) (n := 16) (c := 16) (by omega) (by omega) (by unfold maxLen; omega)
    rw [← unhide HA] at this
    simp only [List.drop_zero] at this
    rw [List.take_of_length_le (by rw [List.length_map]; omega), unhide HA] at this
    rw [hk]
    exact this
  rintro e w1 ⟨rfl, hE1⟩
  rw [unhide HD]
  have H1 := hide (show Ext w w1 ∧ Blk w1 (w.heap.size + 1) 23 (Array.replicate 16 (.int .u8 0)) ∧ w.heap.size + 2 ≤ w1.heap.size from ⟨(((Ext.refl w).alloc _).alloc _).trans hE1, (Blk.new' (w.alloc (.cells arr 23)) _ _ (by simp)).ext hE1, by have := hE1.size'; simp at this; omega⟩)
  clear hE1
  have HS := hide (show ((dk.map u8v).toArray).size = 16 from by simpa using hdl)
  go_wp2_with (refine wpList_storeB (ty := 23) (t := 23) (x := .tmp 7) (y := .tmp 9) rfl rfl digest_wide rfl rfl (Blk.new w1 _ _) rfl (unhide HS) (bytes_one _) ?_; intro w2 hb2 hc2 hz2; have H2 := hide (show Blk w2 w1.heap.size 23 ((dk.map u8v).toArray) ∧ Ext w w2 ∧ Blk w2 (w.heap.size + 1) 23 (Array.replicate 16 (.int .u8 0)) from ⟨hb2, ((unhide H1).1.alloc _).trans' hc2 (fun _ _ h => h) (fun i hi e => by have := (unhide H1).2.2; omega), ((unhide H1).2.1.alloc _).chg hc2 (by have := (unhide H1).2.2; omega)⟩); clear hb2 hc2 hz2)
  have HK := hide (show Reads w2 1 (.slice (some ⟨w1.heap.size, 0, none⟩) 16 16) dk.length (dk.map u8v) from by
    have := Reads.of_blk (unhide H2).1 (i := 0) (n := 16) (c := 16) (by rw [unhide HS]; omega) (by omega) (by unfold maxLen; omega)
    simp only [List.drop_zero] at this
    rw [List.take_of_length_le (by rw [List.length_map]; omega)] at this
    rw [hdl]
    exact this)
  have HMR := hide (show mac dk (wInt nonce ++ wBytes c.data.toList) = res from by rw [← unhide HR, ← unhide HD]; rfl)
  have HRS := hide (show ((res.map u8v).toArray).size = 16 from by rw [← unhide HR]; simpa using tagS_length _ _ _)
  have hB := hide (show (wInt nonce).length + (wBytes c.data.toList).length ≤ 1000000 from by have := unhide HB; omega)
  go_region_law (first
    | (refine step_app (s := .tmp 12) (x := .tmp 14) rfl rfl u8_row rfl (ownsRow_ext (unhide H3).1 (unhide H4).2.1) rfl (Reads.of_own (unhide H4).1) (AllOne.u8 _) (by have := unhide hB; omega) (Nat.le_trans (unhide H3).2.2 (unhide H4).2.2) ?_; intro A5 c5 w5 ho5 hc5 hv5; have H5 := hide (show Reads w5 1 (.slice A5 ((wInt nonce).length + (wBytes c.data.toList).length) c5) ((wInt nonce).length + (wBytes c.data.toList).length) ((wInt nonce).map u8v ++ (wBytes c.data.toList).map u8v) ∧ Ext w2 w5 from ⟨Reads.of_own ho5, (((unhide H3).2.1.trans (unhide H4).2.1)).trans' hc5 (fun _ _ h => h) (fun i hi e => by have := ((unhide H3).1.lt i e).1; simp at this; omega)⟩); clear ho5 hc5 hv5)
    | (go_simp; go_at_call 17; refine (unhide HW1 _).mono ?_; rintro e w3 ⟨A3, c3, rfl, ho3, hE3⟩; have H3 := hide (And.intro ho3 (And.intro (((Ext.refl w2).drew).trans hE3) hE3.size')); clear ho3 hE3)
    | (go_simp; go_at_call 18; refine (unhide HW2 _).mono ?_; rintro e w4 ⟨A4, c4, rfl, ho4, hE4⟩; have H4 := hide (And.intro ho4 (And.intro hE4 hE4.size')); clear ho4 hE4)
    | (rename_i K hK; go_simp; go_at_call 16
       refine (mac_any dk (wInt nonce ++ wBytes c.data.toList) _ _ _ ((unhide HM).ext ((unhide H2).2.1.trans (unhide H5).2)) ((unhide HK).ext (unhide H5).2) ?_ (by omega) ?_).mono ?_
       (focus (rw [List.map_append, List.length_append]; exact (unhide H5).1))
       (focus (have := unhide hB; rw [List.length_append]; omega))
       rintro e w6 ⟨rfl, hE6⟩
       rw [unhide HMR]
       have H6 := hide (show Ext w w6 ∧ Blk w6 (w.heap.size + 1) 23 (Array.replicate 16 (.int .u8 0)) from ⟨((unhide H2).2.1.trans (unhide H5).2).trans hE6, (unhide H2).2.2.ext ((unhide H5).2.trans hE6)⟩)
       clear hE6
       dsimp only
       refine hK _ _ ?_
       clear hK K
       refine wpAny_ready (rs := [7]) (by kernel_rfl) (by simp) (AllReady.cons rfl (fun J hJ => ?_) AllReady.nil)
       refine step_storeB (ty := 23) (t := 23) (x := .tmp 6) (y := .tmp 16) rfl rfl digest_wide rfl rfl (unhide H6).2 ?_ ?_ ?_ ?_
       · rw [Array.size_replicate]
       · exact unhide HRS
       · exact bytes_one _
       intro w7 hb7 hc7 hz7
       have H7 := hide (And.intro hb7 hc7)
       clear hb7 hc7 hz7
       refine hJ _ _ ?_
       clear hJ J))
  go_wp2
  refine bodyPost_ret (v := .agg ((res.map u8v).toArray)) (results_blk digest_wide rfl (unhide H7).1 (unhide HRS) rfl) rfl ⟨rfl, ?_⟩
  exact (unhide H6).1.trans' (unhide H7).2 (fun _ _ h => h) (fun i hi e => by omega)

end Go.Proofs.YtoefmncdloffaaaDoor
