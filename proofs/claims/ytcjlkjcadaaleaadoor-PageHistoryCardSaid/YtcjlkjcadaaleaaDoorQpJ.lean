/-
  Several texts in one file: each has its own heading below.
-/
import Derived.Test.YtcjlkjcadaaleaaDoorQpI
import Derived.Test.YtcjlkjcadaaleaaDoorQpH
import Derived.Test.YtcjlkjcadaaleaaDoorQpG
import Derived.StillTailTactics
import Derived.Laws.MakeOwn
import Derived.Great.BuildSlice
import Derived.Deep.RegionLaw
import Derived.Deep.Cut

/-
  The reference's Tag of a box.
-/
namespace Go.Proofs.YtcjlkjcadaaleaaDoor
open Go.RowKit

theorem reads_key {w : World} {g : Nat} {t : TypeId} {key : List UInt8} {arr : Array Value} (h : Blk w g t arr) (ha : (key.map u8v).toArray = arr) (hk : key.length = 16) : Reads w 1 (.slice (some ⟨g, 0, none⟩) 16 16) key.length (key.map u8v) := by
  have hs : arr.size = 16 := by rw [← ha]; simpa using hk
  have := Reads.of_blk h (i := 0) (n := 16) (c := 16) (by omega) (by omega) (by unfold maxLen; omega)
  rw [← ha] at this
  simp only [List.drop_zero] at this
  rw [List.take_of_length_le (by rw [List.length_map]; omega)] at this
  rw [hk]
  exact this

set_option maxRecDepth 100000 in
set_option maxHeartbeats 2000000 in
theorem rtag_any (key : List UInt8) (nonce : Int) (c : ByteArray) (w : World) (hk : key.length = 16) (h1 : -9223372036854775808 ≤ nonce) (h2 : nonce < 9223372036854775808) (hc : c.size ≤ 100000) :
    Calls Tryd.prog 83 #[.agg (key.map u8v).toArray, .int .i64 nonce, .string c] w fun e w' => e = .returned (.agg ((tagS key nonce c.data.toList).map u8v).toArray) ∧ Ext w w' := by
  obtain ⟨arr, harr⟩ : ∃ r, (key.map u8v).toArray = r := ⟨_, rfl⟩
  obtain ⟨dk, hdk⟩ : ∃ d, deriveS key labAuth.data.toList [] = d := ⟨_, rfl⟩
  obtain ⟨res, hres⟩ : ∃ d, tagS key nonce c.data.toList = d := ⟨_, rfl⟩
  have hdl : dk.length = 16 := by rw [← hdk]; exact deriveS_length _ _ _
  have hrl : res.length = 16 := by rw [← hres]; exact tagS_length _ _ _
  have HW1 := hide (fun w => rint_any nonce w h1 h2)
  have HW2 := hide (fun w => rbytes_any c w (by omega))
  have hb1 := wInt_length nonce
  have hb2 : (wBytes c.data.toList).length ≤ 10 + c.size := wBytes_length c.data.toList
  have HR := hide hres
  have HD := hide hdk
  have HA := hide harr
  have HS := hide (show ((dk.map u8v).toArray).size = 16 ∧ ((res.map u8v).toArray).size = 16 from ⟨by simpa using hdl, by simpa using hrl⟩)
  have HMR := hide (show mac dk (wInt nonce ++ wBytes c.data.toList) = res from by rw [← hres, ← hdk]; rfl)
  rw [harr, hres]
  clear harr hdk hres
  generalize wInt nonce = ni at *
  generalize wBytes c.data.toList = nc at *
  go_enter Tryd.func83, Tryd.ntmps83
  go_wp2_with fail
  refine (rderive_any key _ labAuth [] _ _ (reads_key ((Blk.new w _ _).alloc _) (unhide HA) hk) (by omega) (by decide) (Parts.nil _) (by simp) (fun p hp => by cases hp)).mono ?_
  rintro e w1 ⟨rfl, hE1⟩
  rw [unhide HD]
  have H1 := hide (show Ext w w1 ∧ Blk w1 (w.heap.size + 1) 23 (bytesTo 16 []) from ⟨(((Ext.refl w).alloc _).alloc _).trans hE1, (Blk.new' _ _ _ (by simp)).ext hE1⟩)
  clear hE1
  go_wp2_with (first
    | (refine wpList_storeB (ty := 23) (t := 23) (x := .tmp 7) (y := .tmp 10) rfl rfl digest_wide rfl rfl (Blk.new w1 _ _) rfl (unhide HS).1 (bytes_one _) ?_; intro w2 hb2 hc2 hz2; have H2 := hide (And.intro (made_ext (unhide H1).1 hc2) (And.intro ((unhide H1).2.ext (made_ext1 hc2)) hb2)); clear hb2 hc2 hz2)
    | (go_at_call 52; refine (unhide HW1 _).mono ?_; rintro e w3 ⟨A3, c3, rfl, ho3, hE3⟩; have H3 := hide (show GB w2 w2.heap.size (.slice (some ⟨w2.heap.size, 0, none⟩) 0 0) 0 [] w3 ∧ Reads w3 1 (.slice A3 ni.length c3) ni.length (ni.map u8v) from And.intro (GB.to ⟨own_empty _ _ _ _ (Nat.le_refl _), (Ext.refl w2).alloc _, Nat.le_refl _, by simp⟩ hE3) (Reads.of_own ho3)); clear ho3 hE3)
    | (at_builtin; refine wpList_app (s := .tmp 11) (x := .tmp 13) rfl rfl u8_row rfl (unhide H3).1.own rfl (unhide H3).2 (AllOne.u8 _) (by omega) (unhide H3).1.room ?_; intro A4 c4 w4 ho hc hv; have H4 := hide (GB.step (l' := [] ++ ni) (unhide H3).1 (Ext.refl _) hc (own_cat ho)); rw [Nat.zero_add, List.nil_append] at H4; clear ho hc hv)
    | (go_at_call 64; refine (unhide HW2 _).mono ?_; rintro e w5 ⟨A5, c5, rfl, ho5, hE5⟩; have H5 := hide (And.intro ((unhide H4).to hE5) (Reads.of_own ho5)); clear ho5 hE5)
    | (at_builtin; refine wpList_app (s := .tmp 14) (x := .tmp 16) rfl rfl u8_row rfl (unhide H5).1.own rfl (unhide H5).2 (AllOne.u8 _) (by omega) (unhide H5).1.room ?_; intro A6 c6 w6 ho hc hv; have H6 := hide (GB.step (l' := ni ++ nc) (unhide H5).1 (Ext.refl _) hc (own_cat ho)); clear ho hc hv))
  refine (rmac_any dk (ni ++ nc) _ _ _ (reads_key ((unhide H2).2.2.ext (unhide H6).ext) rfl hdl) (unhide H6).readsL (by omega) (by rw [(unhide H6).len]; omega)).mono ?_
  rintro e w7 ⟨rfl, hE7⟩
  rw [unhide HMR]
  have H7 := hide (And.intro ((unhide H2).1.trans ((unhide H6).ext.trans hE7)) ((unhide H2).2.1.ext ((unhide H6).ext.trans hE7)))
  clear hE7
  go_wp2_with (refine wpList_storeB (ty := 23) (t := 23) (x := .tmp 6) (y := .tmp 20) rfl rfl digest_wide rfl rfl (unhide H7).2 (bytesTo_size (by simp)) (unhide HS).2 (bytes_one _) ?_; intro w8 hb8 hc8 hz8; have H8 := hide (And.intro hb8 hc8); clear hb8 hc8 hz8)
  refine bodyPost_ret (results_blk digest_wide rfl (unhide H8).1 (unhide HS).2 rfl) rfl ⟨rfl, ?_⟩
  exact (unhide H7).1.trans' (unhide H8).2 (fun _ _ h => h) (fun i hi e => by omega)

end Go.Proofs.YtcjlkjcadaaleaaDoor

/-
  The reference of package 02: Stream.
-/
namespace Go.Proofs.YtcjlkjcadaaleaaDoor
open Go.RowKit

theorem Reads.take_own {w : World} {B : Nat} {e : TypeId} {A : Option Addr} {m c N : Nat} {l : List UInt8} (h : w.ownsRow B e 1 (.slice A m c) m (l.map u8v)) (hN : N ≤ m) : Reads w 1 (.slice A N c) N ((l.take N).map u8v) := by
  obtain ⟨h1, A', c', e1, h2, h3, h4⟩ := Reads.of_own h
  cases e1
  rw [List.length_map] at h1
  refine ⟨by rw [List.length_map, List.length_take]; omega, A, c, rfl, by omega, h3, fun h0 => ?_⟩
  obtain ⟨b, o, e2, hc⟩ := h4 (by omega)
  refine ⟨b, o, e2, fun j u hj => hc j u ?_⟩
  rw [List.map_take, List.getElem?_take] at hj
  split at hj
  · exact hj
  · cases hj

set_option maxRecDepth 100000 in
set_option maxHeartbeats 2000000 in
theorem rstream_pos (key : List UInt8) (kv : Value) (N : Nat) (w : World) (hk : Reads w 1 kv key.length (key.map u8v)) (hkl : key.length ≤ 10000) (hN : N ≤ 100000) :
    Calls Tryd.prog 106 #[kv, .int .i64 (N : Int)] w fun e w' => ∃ A c, e = .returned (.slice A N c) ∧ Reads w' 1 (.slice A N c) N ((streamS key N).map u8v) ∧ Ext w w' := by
  have HK := hide hk
  clear hk
  go_enter Tryd.func106, Tryd.ntmps106
  go_wp2
  go_loopw [5, 6] (fun b i wr => ∃ (k : Nat) (A : Option Addr) (c : Nat), 32 * k < N + 32 ∧ i = .int .i64 k ∧ b = .slice A (32 * k) c ∧ Hid (GB w w.heap.size (.slice A (32 * k) c) (32 * k) (streamCat key k) wr)) (fun b _ _ => match b with | .slice _ m _ => N - m | _ => 0)
  case atStart => exact ⟨0, none, 0, by omega, rfl, rfl, hide (GB.nil (Ext.refl _) (Nat.le_refl _) (Nat.le_refl _))⟩
  case round =>
    obtain ⟨k, A, c, hkN, rfl, rfl, HI⟩ := hrel
    by_cases hlt : 32 * k < N
    · have d1 : decide (32 * k < N) = true := decide_eq_true hlt
      have HX := hide (streamCat_step key k)
      have HW := hide (fun w => rint_any (k : Int) w (by omega) (by omega))
      have hwl := wInt_length (k : Int)
      generalize wInt (k : Int) = ik at *
      go_wp2_with (first
        | (go_at_call 52; refine (unhide HW _).mono ?_; rintro e w1 ⟨A1, c1, rfl, ho1, hE1⟩; have H1 := hide (And.intro (Reads.of_own ho1) hE1); clear ho1 hE1)
        | (go_at_call 108; refine (rhmac_any key ik _ _ _ ((unhide HK).ext ((unhide HI).ext.trans (unhide H1).2)) (unhide H1).1 (by omega) (by omega)).mono ?_; rintro e w2 ⟨rfl, hE2⟩; have H2 := hide ((unhide H1).2.trans hE2); clear hE2)
        | (go_at_call 118; refine (rall_any (hmac key ik) _ (hmac_length _ _)).mono ?_; rintro e w3 ⟨A3, c3, rfl, h3⟩; have H3 := hide (And.intro h3 ((unhide H2).trans h3.ext)); clear h3)
        | (at_builtin; refine wpList_app (s := .tmp 13) (x := .tmp 18) rfl rfl u8_row rfl (ownsRow_ext (unhide HI).own (unhide H3).2) rfl (unhide H3).1.reads (AllOne.u8 _) (by omega) (Nat.le_trans (unhide HI).room (unhide H3).2.size') ?_; intro A4 c4 w4 ho hc hv; have H4 := hide (And.intro ho hc); clear ho hc hv))
      go_roundw
      case rel =>
        refine ⟨k + 1, A4, c4, by omega, by go_num, rfl, hide ?_⟩
        rw [unhide HX]
        exact (unhide HI).step (unhide H3).2 (unhide H4).2 (own_cat (unhide H4).1)
      case measure => simp; omega
    · have d1 : decide (32 * k < N) = false := decide_eq_false hlt
      have hc : N ≤ c := by
        obtain ⟨_, A', c', e, h2, _⟩ := (unhide HI).reads
        cases e
        omega
      have hcm : c ≤ 9223372036854775807 := by
        obtain ⟨_, A', c', e, _, h3, _⟩ := (unhide HI).reads
        cases e
        unfold maxLen at h3
        exact h3
      go_wp2
      go_ret
      refine ⟨_, _, rfl, ?_, (unhide HI).ext⟩
      have := Reads.take_own (unhide HI).own (N := N) (by omega)
      rwa [streamS_of key N k (by omega)] at this

set_option maxHeartbeats 1000000 in
theorem rstream_neg (kv : Value) (n : Int) (w : World) (hn : n < 0) :
    Calls Tryd.prog 106 #[kv, .int .i64 n] w fun e w' => e = .returned (.slice none 0 0) ∧ w = w' := by
  have h1 : ¬ (0 : Int) < n := by omega
  have d1 : decide ((0 : Int) < n) = false := decide_eq_false h1
  have d2 : decide (n < (0 : Int)) = true := decide_eq_true hn
  go_enter Tryd.func106, Tryd.ntmps106
  go_wp2
  refine wp_loop_rounds 1 ?_
  rw [rounds_succ]
  go_wp2
  go_ret
  exact ⟨rfl, rfl⟩


end Go.Proofs.YtcjlkjcadaaleaaDoor

/-
  The reference's apply of a box.
-/
namespace Go.Proofs.YtcjlkjcadaaleaaDoor
open Go.RowKit

theorem made_u8 (n : Nat) : madeCells (Value.int .u8 0).cells n = bytesTo n [] := by
  rw [bytesTo_nil]
  show madeCells #[Value.int .u8 0] n = _
  unfold madeCells
  apply Array.ext
  · simp
  · intro i h1 h2
    simp [Nat.mod_one]
theorem make_u8 (n : Nat) (hn : n ≤ 1000000000) (w : World) : (Instr.makeSlice 29 (.int .i64 (n : Int)) (.int .i64 (n : Int))).run Tryd.prog w = .ok (.slice (some ⟨w.heap.size, 0, none⟩) n n) (w.alloc (.cells (bytesTo n []) 5)) := by
  obtain ⟨ht, ⟨i, z, hi, hz, hsize, hby, _⟩, _, _⟩ := u8_row
  have hz0 : i.zero = some (.int .u8 0) := by have := u8_zero; rw [hi] at this; simpa using this
  have := run_make (P := Tryd.prog) w 29 5 i (.int .u8 0) ht hi hz0 .i64 .i64 n n (by omega) (Int.le_refl _) (by rw [hby]; omega) (by omega)
  simp only [Int.toNat_natCast, hsize, Nat.mul_one] at this
  rw [this, made_u8]

set_option maxRecDepth 100000 in
set_option maxHeartbeats 2000000 in
theorem rapply_any (key : List UInt8) (nonce : Int) (s : ByteArray) (w : World) (hk : key.length = 16) (h1 : -9223372036854775808 ≤ nonce) (h2 : nonce < 9223372036854775808) (hs : s.size ≤ 10000) :
    Calls Tryd.prog 82 #[.agg (key.map u8v).toArray, .int .i64 nonce, .string s] w fun e w' => e = .returned (.string (strOf (applyS key nonce s.data.toList))) ∧ Ext w w' := by
  obtain ⟨arr, harr⟩ : ∃ r, (key.map u8v).toArray = r := ⟨_, rfl⟩
  have HW1 := hide (fun w => rint_any nonce w h1 h2)
  have HA := hide harr
  rw [harr]
  clear harr h1 h2
  have hasz : arr.size = 16 := by rw [← unhide HA]; simpa using hk
  obtain ⟨dk, hdk⟩ : ∃ d, keyS key nonce = d := ⟨_, rfl⟩
  have HD := hide hdk
  clear hdk
  go_enter Tryd.func82, Tryd.ntmps82
  go_upto_region 1 with fail
  have HKA := hide (reads_key (Blk.new w 23 arr) (unhide HA) hk)
  have HP := hide ((Ext.refl w).alloc (.cells arr 23))
  generalize w.alloc (.cells arr 23) = W0 at *
  have HPC := hide (fun (W4 : World) (pv : Value) (A3 : Option Addr) (c3 : Nat) (hX : Ext W0 W4) (hpv : Reads W4 1 pv 1 [.slice A3 (wInt nonce).length c3]) (hr : Reads W4 1 (.slice A3 (wInt nonce).length c3) (wInt nonce).length ((wInt nonce).map u8v)) => rderive_any key (.slice (some ⟨w.heap.size, 0, none⟩) 16 16) labEnc [wInt nonce] pv W4 ((unhide HKA).ext hX) (by omega) (by decide) ⟨[.slice A3 (wInt nonce).length c3], rfl, hpv, fun i p hp => by
    cases i with
    | zero => cases hp; exact ⟨_, rfl, hr⟩
    | succ i => simp at hp⟩ (by simp) (fun p hp => by simp at hp; subst hp; have := wInt_length nonce; omega))
  go_cut [7] (fun s8 wx => ∃ g, s8 = .pointer (some ⟨g, 0, none⟩) ∧ Hid (Blk wx g 23 ((dk.map u8v).toArray) ∧ Ext W0 wx ∧ W0.heap.size ≤ g))
  case first =>
    have HS := hide (show ((dk.map u8v).toArray).size = 16 from by rw [← unhide HD]; unfold keyS; simpa using deriveS_length _ _ _)
    go_region_law (first
      | (go_simp; go_at_call 52; refine (unhide HW1 _).mono ?_; rintro e w3 ⟨A3, c3, rfl, ho3, hE3⟩
         first
         | (have H3 := hide (show Reads w3 1 (.slice A3 (wInt nonce).length c3) (wInt nonce).length ((wInt nonce).map u8v) ∧ Ext W0 w3 ∧ True from And.intro (Reads.of_own ho3) (And.intro (((Ext.refl W0).drew).trans hE3) trivial)); clear ho3 hE3)
         | (have H3 := hide (show Reads w3 1 (.slice A3 (wInt nonce).length c3) (wInt nonce).length ((wInt nonce).map u8v) ∧ Ext W0 w3 ∧ Blk w3 W0.heap.size 23 (Array.replicate 16 (.int .u8 0)) from And.intro (Reads.of_own ho3) (And.intro ((((Ext.refl W0).drew).alloc _).trans hE3) ((Blk.new W0.drew _ _).ext hE3))); clear ho3 hE3))
      | (rename_i K hK; go_simp; go_at_call 50; refine (unhide HPC _ _ A3 c3 ?_ ?_ ?_).mono ?_
         (focus (first | exact (unhide H3).2.1.alloc _ | exact ((unhide H3).2.1.alloc _).alloc _))
         (focus (first | exact Reads.new1 _ _ _ | exact (Reads.new1 _ _ _).ext ((Ext.refl _).alloc _) | (have h := Reads.new1 (w3.alloc (.cells (Array.replicate 16 (.int .u8 0)) 23)) (.slice A3 (wInt nonce).length c3) 29; rw [World.size_alloc] at h; exact h)))
         (focus (first | exact (unhide H3).1.ext ((Ext.refl _).alloc _) | exact (unhide H3).1.ext (((Ext.refl _).alloc _).alloc _)))
         rintro e w5 ⟨rfl, hE5⟩
         rw [show deriveS key labEnc.data.toList [wInt nonce] = dk from unhide HD]
         have H5 := hide (show Ext W0 w5 ∧ Ext _ w5 from And.intro (by first | exact ((unhide H3).2.1.alloc _).trans hE5 | exact (((unhide H3).2.1.alloc _).alloc _).trans hE5) hE5)
         clear hE5
         dsimp only
         refine hK _ _ ?_
         clear hK K
         first
         | (refine wpAny_ready (rs := [5]) (by kernel_rfl) (by simp) (AllReady.cons rfl (fun J hJ => ?_) AllReady.nil)
            rw [if_pos (by rfl)]
            go_simp
            refine hJ _ _ ?_
            clear hJ J
            refine wpAny_ready (rs := [6]) (by kernel_rfl) (by simp) (AllReady.cons rfl (fun J hJ => ?_) AllReady.nil)
            refine step_storeB (ty := 23) (t := 23) (x := .tmp 7) (y := .tmp 15) rfl rfl digest_wide rfl rfl (Blk.new w5 _ _) ?_ ?_ ?_ ?_
            · rfl
            · exact unhide HS
            · exact bytes_one _
            intro w7 hb7 hc7 hz7
            have H7 := hide (And.intro hb7 (And.intro (((unhide H5).1.alloc _).trans' hc7 (fun _ _ h => h) (fun i hi e => by have := (unhide H5).1.size'; omega)) (unhide H5).1.size'))
            clear hb7 hc7 hz7
            refine hJ _ _ ?_
            clear hJ J)
         | (refine wpAny_ready (rs := [6]) (by kernel_rfl) (by simp) (AllReady.cons rfl (fun J hJ => ?_) AllReady.nil)
            have hz3 := (unhide H3).2.1.size'
            refine step_storeB (ty := 23) (t := 23) (x := .tmp 7) (y := .tmp 15) (old := Array.replicate 16 (.int .u8 0)) rfl rfl digest_wide rfl rfl ?_ ?_ ?_ ?_ ?_
            · first | exact (((unhide H3).2.2).alloc _).ext (unhide H5).2 | exact ((Blk.new w3 _ _).alloc _).ext (unhide H5).2 | exact (Blk.new' (w3.alloc _) _ _ (by simp)).ext (unhide H5).2
            · rfl
            · exact unhide HS
            · exact bytes_one _
            intro w7 hb7 hc7 hz7
            have H7 := hide (And.intro hb7 (And.intro ((unhide H5).1.trans' hc7 (fun _ _ h => h) (fun i hi e => by omega)) (show W0.heap.size ≤ _ by omega)))
            clear hb7 hc7 hz7 hz3
            refine hJ _ _ ?_
            clear hJ J)))
    all_goals
      go_wp2_with fail
      go_meet
      exact ⟨_, rfl, hide ⟨(unhide H7).1, (unhide H7).2.1, by have := (unhide H7).2.2; omega⟩⟩
  case rest =>
    obtain ⟨g8, rfl, H8⟩ := hcut
    have HS := hide (show ((dk.map u8v).toArray).size = 16 ∧ dk.length = 16 from by rw [← unhide HD]; unfold keyS; exact ⟨by simpa using deriveS_length _ _ _, deriveS_length _ _ _⟩)
    obtain ⟨wc', rfl⟩ : ∃ x : World, x = wc := ⟨_, rfl⟩
    go_wp2_with fail
    refine (rstream_pos dk _ s.size _ (reads_key (unhide H8).1 rfl (unhide HS).2) (by have := (unhide HS).2; omega) (by omega)).mono ?_
    rintro e w9 ⟨A9, c9, rfl, hr9, hE9⟩
    have H9 := hide (And.intro hr9 (((unhide HP).trans (unhide H8).2.1).trans hE9))
    clear hr9 hE9 H8
    have hmk := make_u8 s.size (by omega)
    go_wp2
    clear hmk
    obtain ⟨ap, hap⟩ : ∃ l, applyS key nonce s.data.toList = l := ⟨_, rfl⟩
    obtain ⟨st, hst⟩ : ∃ l, streamS dk (s.size : Int) = l := ⟨_, rfl⟩
    have hstl : st.length = s.size := by rw [← hst, streamS_length]; simp
    have hapl : ap.length = s.size := by rw [← hap, applyS_length]; exact Array.length_toList
    have HAP := hide (show ap = List.zipWith (· ^^^ ·) s.data.toList st from by rw [← hap, ← hst, ← unhide HD]; unfold applyS; rw [Array.length_toList]; rfl)
    have HAE := hide hap
    rw [hst] at H9
    have HL := hide (And.intro hstl hapl)
    clear hap hst hstl hapl
    go_loopw [10] (fun i wr => ∃ k : Nat, k ≤ s.size ∧ i = .int .i64 k ∧ Hid (Blk wr w9.heap.size 5 (bytesTo s.size (ap.take k)) ∧ Ext w9 wr)) (fun i _ => s.size - (intOf i).toNat)
    case atStart => exact ⟨0, Nat.zero_le _, rfl, hide ⟨Blk.new _ _ _, (Ext.refl w9).alloc _⟩⟩
    case round =>
      obtain ⟨k, hk', rfl, HI⟩ := hrel
      by_cases hlt : k < s.size
      · have g1 : decide (k < s.size) = true := decide_eq_true hlt
        have hr := (unhide H9).1.ext (unhide HI).2
        obtain ⟨b, o, c, u, e, -, -, -, -, -⟩ := hr.at1 hlt
        cases e
        have c1 := hr.byteAt (j := k) (by rw [(unhide HL).1]; exact hlt)
        have c2 : wr.cell? ⟨w9.heap.size, k, none⟩ = some (.int .u8 0) := by
          rw [(unhide HI).1.cell]
          exact bytesTo_zero_at (by rw [List.length_take]; omega) hlt
        have f2 := (unhide HI).1.frozen k
        clear hr
        obtain ⟨z, hz⟩ : ∃ z, s[k] ^^^ st.getD k 0 = z := ⟨_, rfl⟩
        have hxx : bits BinOp.xor IntKind.u8 (s[k].toNat : Int) ((st.getD k 0).toNat : Int) = (z.toNat : Int) := by rw [xor8, hz]
        have HT := hide (show ap.take (k + 1) = ap.take k ++ [z] from by
          rw [take_step ap k (by rw [(unhide HL).2]; exact hlt)]
          have : ap[k]'(by rw [(unhide HL).2]; exact hlt) = z := by
            have h1 : ap[k]? = some z := by
              rw [unhide HAP, List.getElem?_zipWith, List.getElem?_eq_getElem (show k < st.length by rw [(unhide HL).1]; exact hlt), Array.getElem?_toList, Array.getElem?_eq_getElem (show k < s.data.size from hlt), ← hz, List.getD_eq_getElem?_getD, List.getElem?_eq_getElem (show k < st.length by rw [(unhide HL).1]; exact hlt)]
              rfl
            rw [List.getElem?_eq_getElem (by rw [(unhide HL).2]; exact hlt)] at h1
            injection h1
          rw [this])
        have HKL := hide (show (ap.take k).length = k from by rw [List.length_take, (unhide HL).2]; omega)
        clear hz
        generalize st.getD k 0 = y at *
        have p1 : (0 : Int) ≤ (k : Int) := by omega
        have p2 : (k : Int) < (s.size : Int) := by omega
        go_upto_region 7 with fail
        go_still_tail 11, (by kernel_rfl)
        clear c1
        change wpList _ _ _ _ _ wr.drew
        go_wp2
        go_roundw
        case rel =>
          have h1 := ((unhide HI).1.set_ k (.int .u8 (z.toNat : Int))).drew
          rw [bytesTo_set _ (unhide HKL) hlt, ← unhide HT] at h1
          exact ⟨k + 1, by omega, by go_num, hide ⟨h1, ((unhide HI).2.setCell (by simp) _).drew⟩⟩
        case measure => simp [intOf]; omega
      · obtain rfl : k = s.size := by omega
        have g1 : decide (s.size < s.size) = false := decide_eq_false (by omega)
        have HRD := hide (show Reads wr 1 (.slice (some ⟨w9.heap.size, 0, none⟩) s.size s.size) s.size (ap.map byteV) from by
          have h1 := (unhide HI).1
          rw [List.take_of_length_le (by rw [(unhide HL).2]; omega), bytesTo_all (unhide HL).2] at h1
          have := Reads.of_blk h1 (i := 0) (n := s.size) (c := s.size) (by simp [(unhide HL).2]) (by omega) (by unfold maxLen; omega)
          simp only [List.drop_zero] at this
          rw [List.take_of_length_le (by rw [List.length_map, (unhide HL).2]; omega)] at this
          exact this)
        go_wp2_with (refine wpList_strOf (src := 29) (dst := 9) (x := .tmp 40) (l := ap) rfl rfl Tryd.underlying29 Tryd.underlying5 Tryd.underlying9 rfl (unhide HRD) ?_)
        go_ret
        exact ⟨by rw [unhide HAE]; rfl, (unhide H9).2.trans (unhide HI).2⟩

end Go.Proofs.YtcjlkjcadaaleaaDoor

/-
  The reference's Seal and Open.
-/
namespace Go.Proofs.YtcjlkjcadaaleaaDoor
open Go.RowKit

set_option maxRecDepth 100000 in
set_option maxHeartbeats 2000000 in
theorem rseal_any (key : List UInt8) (nonce : Int) (s : ByteArray) (w : World) (hk : key.length = 16) (h1 : -9223372036854775808 ≤ nonce) (h2 : nonce < 9223372036854775808) (hs : s.size ≤ 10000) :
    Calls Tryd.prog 49 #[.agg (key.map u8v).toArray, .int .i64 nonce, .string s] w fun e w' => e = .returned (.agg (boxV nonce (strOf (applyS key nonce s.data.toList)) (tagS key nonce (applyS key nonce s.data.toList)))) ∧ Ext w w' := by
  obtain ⟨arr, harr⟩ : ∃ r, (key.map u8v).toArray = r := ⟨_, rfl⟩
  have HAp := hide (fun W => rapply_any key nonce s W hk h1 h2 (by omega))
  rw [harr] at HAp ⊢
  have hasz : arr.size = 16 := by rw [← harr]; simpa using hk
  have h1c : arr.all (·.oneCell') = true := by rw [← harr]; exact bytes_one _
  have HA := hide harr
  clear harr
  go_enter Tryd.func49, Tryd.ntmps49
  obtain ⟨cs, hcs⟩ : ∃ c, strOf (applyS key nonce s.data.toList) = c := ⟨_, rfl⟩
  have hcl : cs.data.toList = applyS key nonce s.data.toList := by rw [← hcs]; exact strOf_list _
  have hcz : cs.size ≤ 100000 := by have h : cs.data.toList.length = s.data.toList.length := by rw [hcl, applyS_length]
                                    rw [Array.length_toList, Array.length_toList] at h
                                    have h2 : cs.size = s.size := h
                                    omega
  have HTg := hide (fun W => rtag_any key nonce cs W hk h1 h2 hcz)
  rw [unhide HA, hcl] at HTg
  rw [hcs] at HAp ⊢
  have HTL := hide (tagS_length key nonce (applyS key nonce s.data.toList))
  generalize tagS key nonce (applyS key nonce s.data.toList) = tg at *
  clear hcs hcl
  obtain ⟨t0, t1, t2, t3, t4, t5, t6, t7, t8, t9, t10, t11, t12, t13, t14, t15, rfl⟩ := list16 (unhide HTL)
  go_wp2_with (first
    | (refine wpList_loadB (x := .tmp 3) rfl rfl digest_wide rfl (cs := arr) (g := w.heap.size) (by first | exact (Blk.new w _ _).alloc _ | assumption) hasz ?_)
    | (go_at_call 82; refine (unhide HAp _).mono ?_; rintro e w1 ⟨rfl, hE1⟩
       have hba : Blk w1 w.heap.size 23 arr := ((Blk.new w _ _).alloc _).ext hE1
       have hbb := (Blk.new' (g := w.heap.size + 1) (w.alloc (.cells arr 23)) _ _ (by simp)).ext hE1
       have H1 := hide (show Ext w w1 ∧ Blk w1 (w.heap.size + 1) 27 (#[.int .i64 0, .string { data := #[] }] ++ Array.replicate 16 (.int .u8 0)) from And.intro ((((Ext.refl w).alloc _).alloc _).trans hE1) hbb); clear hE1 hbb)
    | (go_at_call 83; refine (unhide HTg _).mono ?_; rintro e w2 ⟨rfl, hE2⟩; have H2 := hide (And.intro ((unhide H1).1.trans hE2) ((unhide H1).2.ext hE2)); clear hE2)
    | (refine wpList_storeB (ty := 27) (t := 27) (x := .tmp 6) (y := .tmp 18) rfl rfl box_wide rfl rfl (unhide H2).2 (by simp) rfl (by rw [← Array.all_toList]; rfl) ?_; intro w3 hb3 hc3 hz3; have H3 := hide (And.intro hb3 hc3); clear hb3 hc3 hz3))
  refine bodyPost_ret (results_blk box_wide rfl (unhide H3).1 rfl rfl) rfl ⟨rfl, ?_⟩
  exact (unhide H2).1.trans' (unhide H3).2 (fun _ _ h => h) (fun i hi e => by omega)


set_option maxRecDepth 100000 in
set_option maxHeartbeats 2000000 in
theorem ropen_no (key : List UInt8) (nonce : Int) (c : ByteArray) (t : List UInt8) (w : World) (hk : key.length = 16) (ht : t.length = 16) (h1 : -9223372036854775808 ≤ nonce) (h2 : nonce < 9223372036854775808) (hs : c.size ≤ 10000)
    (hno : ¬ tagS key nonce c.data.toList = t) :
    Calls Tryd.prog 53 #[.agg (key.map u8v).toArray, .agg (boxV nonce c t)] w fun e w' => e = .returned (.tuple #[.string { data := #[] }, .int .i64 8]) ∧ Ext w w' := by
  obtain ⟨arr, harr⟩ : ∃ r, (key.map u8v).toArray = r := ⟨_, rfl⟩
  have HAp := hide (fun W => rapply_any key nonce c W hk h1 h2 hs)
  have HTg := hide (fun W => rtag_any key nonce c W hk h1 h2 (by omega))
  rw [harr] at HAp HTg ⊢
  have hasz : arr.size = 16 := by rw [← harr]; simpa using hk
  have hne := fun W => ne16 (tagS_length key nonce c.data.toList) ht W
  rw [decide_eq_false hno] at hne
  obtain ⟨tv, htv⟩ : ∃ l, t.map u8v = l := ⟨_, rfl⟩
  have HTL := hide (show tv.length = 16 from by rw [← htv]; simpa using ht)
  rw [boxV_eq, htv]
  obtain ⟨tg, htg⟩ : ∃ l, ((tagS key nonce c.data.toList).map u8v).toArray = l := ⟨_, rfl⟩
  have HTG := hide (show tg.size = 16 ∧ tg.all (·.oneCell') = true from by rw [← htg]; exact ⟨by simpa using tagS_length _ _ _, bytes_one _⟩)
  rw [htg] at HTg
  rw [htg, htv] at hne
  have HQ := hide (show Blk ((w.alloc (.cells arr 23)).alloc (.cells (boxL nonce c tv) 27)) w.heap.size 23 arr ∧
      Blk ((w.alloc (.cells arr 23)).alloc (.cells (boxL nonce c tv) 27)) (w.heap.size + 1) 27 (boxL nonce c tv) from ⟨(Blk.new w _ _).alloc _, Blk.new' _ _ _ (by simp)⟩)
  have c1 : ((w.alloc (.cells arr 23)).alloc (.cells (boxL nonce c tv) 27)).cell? ⟨w.heap.size + 1, 0, none⟩ = some (.int .i64 nonce) := by rw [(unhide HQ).2.cell]; rfl
  have c2 : ((w.alloc (.cells arr 23)).alloc (.cells (boxL nonce c tv) 27)).cell? ⟨w.heap.size + 1, 1, none⟩ = some (.string c) := by rw [(unhide HQ).2.cell]; rfl
  have HP := hide (((Ext.refl w).alloc (.cells arr 23)).alloc (.cells (boxL nonce c tv) 27))
  clear harr htv htg
  go_enter Tryd.func53, Tryd.ntmps53
  go_upto_region 1 with fail
  generalize (w.alloc (.cells arr 23)).alloc (.cells (boxL nonce c tv) 27) = W0 at *
  go_upto_region 2 with (first
    | (refine wpList_loadB (x := .tmp 2) rfl rfl digest_wide rfl (cs := arr) (unhide HQ).1 hasz ?_)
    | (go_at_call 83; refine (unhide HTg _).mono ?_; rintro e w1 ⟨rfl, hE1⟩; have H1 := hide (And.intro ((unhide HP).trans hE1) (And.intro ((unhide HQ).1.ext hE1) ((unhide HQ).2.ext hE1))); clear hE1)
    | (refine wpList_storeB (ty := 23) (t := 23) (x := .tmp 6) (y := .tmp 12) rfl rfl digest_wide rfl rfl (Blk.new w1 _ _) rfl (unhide HTG).1 (unhide HTG).2 ?_; intro w2 hb2 hc2 hz2; have H2 := hide (And.intro (made_ext (unhide H1).1 hc2) (And.intro ((unhide H1).2.1.ext (made_ext1 hc2)) (And.intro ((unhide H1).2.2.ext (made_ext1 hc2)) hb2))); clear hb2 hc2 hz2))
  clear c1 c2
  have c1 : w2.cell? ⟨w.heap.size + 1, 0, none⟩ = some (.int .i64 nonce) := by rw [(unhide H2).2.2.1.cell]; rfl
  have c2 : w2.cell? ⟨w.heap.size + 1, 1, none⟩ = some (.string c) := by rw [(unhide H2).2.2.1.cell]; rfl
  go_wp2_with (first
    | (refine wpList_loadB (x := .tmp 2) rfl rfl digest_wide rfl (cs := arr) (unhide H2).2.1 hasz ?_)
    | (refine wpList_loadB (x := .tmp 6) rfl rfl digest_wide rfl (cs := tg) (unhide H2).2.2.2 (unhide HTG).1 ?_)
    | (refine wpList_loadMG (x := .tmp 14) (by rfl) rfl digest_wide rfl (boxL_range (unhide H2).2.2.1) (unhide HTL) ?_)
    | (go_at_call 82; refine (unhide HAp _).mono ?_; rintro e w6 ⟨rfl, hE6⟩; have H6 := hide ((unhide H2).1.trans hE6); clear hE6))
  go_ret2
  exact ⟨rfl, (unhide H2).1⟩

set_option maxRecDepth 100000 in
set_option maxHeartbeats 2000000 in
theorem ropen_yes (key : List UInt8) (nonce : Int) (c : ByteArray) (t : List UInt8) (w : World) (hk : key.length = 16) (ht : t.length = 16) (h1 : -9223372036854775808 ≤ nonce) (h2 : nonce < 9223372036854775808) (hs : c.size ≤ 10000)
    (hyes : tagS key nonce c.data.toList = t) :
    Calls Tryd.prog 53 #[.agg (key.map u8v).toArray, .agg (boxV nonce c t)] w fun e w' => e = .returned (.tuple #[.string (strOf (applyS key nonce c.data.toList)), .int .i64 0]) ∧ Ext w w' := by
  obtain ⟨arr, harr⟩ : ∃ r, (key.map u8v).toArray = r := ⟨_, rfl⟩
  have HAp := hide (fun W => rapply_any key nonce c W hk h1 h2 hs)
  have HTg := hide (fun W => rtag_any key nonce c W hk h1 h2 (by omega))
  rw [harr] at HAp HTg ⊢
  have hasz : arr.size = 16 := by rw [← harr]; simpa using hk
  have hne := fun W => ne16 (tagS_length key nonce c.data.toList) ht W
  rw [decide_eq_true hyes] at hne
  obtain ⟨tv, htv⟩ : ∃ l, t.map u8v = l := ⟨_, rfl⟩
  have HTL := hide (show tv.length = 16 from by rw [← htv]; simpa using ht)
  rw [boxV_eq, htv]
  obtain ⟨tg, htg⟩ : ∃ l, ((tagS key nonce c.data.toList).map u8v).toArray = l := ⟨_, rfl⟩
  have HTG := hide (show tg.size = 16 ∧ tg.all (·.oneCell') = true from by rw [← htg]; exact ⟨by simpa using tagS_length _ _ _, bytes_one _⟩)
  rw [htg] at HTg
  rw [htg, htv] at hne
  have HQ := hide (show Blk ((w.alloc (.cells arr 23)).alloc (.cells (boxL nonce c tv) 27)) w.heap.size 23 arr ∧
      Blk ((w.alloc (.cells arr 23)).alloc (.cells (boxL nonce c tv) 27)) (w.heap.size + 1) 27 (boxL nonce c tv) from ⟨(Blk.new w _ _).alloc _, Blk.new' _ _ _ (by simp)⟩)
  have c1 : ((w.alloc (.cells arr 23)).alloc (.cells (boxL nonce c tv) 27)).cell? ⟨w.heap.size + 1, 0, none⟩ = some (.int .i64 nonce) := by rw [(unhide HQ).2.cell]; rfl
  have c2 : ((w.alloc (.cells arr 23)).alloc (.cells (boxL nonce c tv) 27)).cell? ⟨w.heap.size + 1, 1, none⟩ = some (.string c) := by rw [(unhide HQ).2.cell]; rfl
  have HP := hide (((Ext.refl w).alloc (.cells arr 23)).alloc (.cells (boxL nonce c tv) 27))
  clear harr htv htg
  go_enter Tryd.func53, Tryd.ntmps53
  go_upto_region 1 with fail
  generalize (w.alloc (.cells arr 23)).alloc (.cells (boxL nonce c tv) 27) = W0 at *
  go_upto_region 2 with (first
    | (refine wpList_loadB (x := .tmp 2) rfl rfl digest_wide rfl (cs := arr) (unhide HQ).1 hasz ?_)
    | (go_at_call 83; refine (unhide HTg _).mono ?_; rintro e w1 ⟨rfl, hE1⟩; have H1 := hide (And.intro ((unhide HP).trans hE1) (And.intro ((unhide HQ).1.ext hE1) ((unhide HQ).2.ext hE1))); clear hE1)
    | (refine wpList_storeB (ty := 23) (t := 23) (x := .tmp 6) (y := .tmp 12) rfl rfl digest_wide rfl rfl (Blk.new w1 _ _) rfl (unhide HTG).1 (unhide HTG).2 ?_; intro w2 hb2 hc2 hz2; have H2 := hide (And.intro (made_ext (unhide H1).1 hc2) (And.intro ((unhide H1).2.1.ext (made_ext1 hc2)) (And.intro ((unhide H1).2.2.ext (made_ext1 hc2)) hb2))); clear hb2 hc2 hz2))
  clear c1 c2
  have c1 : w2.cell? ⟨w.heap.size + 1, 0, none⟩ = some (.int .i64 nonce) := by rw [(unhide H2).2.2.1.cell]; rfl
  have c2 : w2.cell? ⟨w.heap.size + 1, 1, none⟩ = some (.string c) := by rw [(unhide H2).2.2.1.cell]; rfl
  go_wp2_with (first
    | (refine wpList_loadB (x := .tmp 2) rfl rfl digest_wide rfl (cs := arr) (unhide H2).2.1 hasz ?_)
    | (refine wpList_loadB (x := .tmp 6) rfl rfl digest_wide rfl (cs := tg) (unhide H2).2.2.2 (unhide HTG).1 ?_)
    | (refine wpList_loadMG (x := .tmp 14) (by rfl) rfl digest_wide rfl (boxL_range (unhide H2).2.2.1) (unhide HTL) ?_)
    | (go_at_call 82; refine (unhide HAp _).mono ?_; rintro e w6 ⟨rfl, hE6⟩; have H6 := hide ((unhide H2).1.trans hE6); clear hE6))
  go_ret2
  exact ⟨rfl, unhide H6⟩

set_option maxRecDepth 100000 in
theorem eq_in (l : List UInt8) (hl : l.length = 16) (w : World) : (Op.equalIn 9999 23 (.agg (l.map byteV).toArray) (.agg (l.map byteV).toArray)).run Tryd.prog w = .ok true w := by
  obtain ⟨inf, hi⟩ : ∃ inf, Tryd.prog.info? 5 = some inf := ⟨_, rfl⟩
  have h := run_equalIn_array (P := Tryd.prog) w 9998 (l.map byteV).toArray (l.map byteV).toArray Tryd.underlying23 hi
  rw [u8_one, run_eqItems_u8 Tryd.underlying5 u8_plain 9997 l l w _ (fun i hm => by rw [List.mem_range] at hm; omega), all_eq l l 16 hl hl] at h
  simpa using h
theorem box_eql (n : Int) (c : ByteArray) (l : List UInt8) (hl : l.length = 16) : ∀ W, (binOp .eql 27 (.agg (boxL n c (l.map u8v))) (.agg (boxL n c (l.map u8v)))).run Tryd.prog W = .ok (.bool true) W := by
  have hin := fun W => eq_in l hl W
  obtain ⟨t0, t1, t2, t3, t4, t5, t6, t7, t8, t9, t10, t11, t12, t13, t14, t15, rfl⟩ := list16 hl
  intro W
  simp only [boxL, List.map_cons, List.map_nil, u8v]
  simp only [List.map_cons, List.map_nil, byteV] at hin
  go_simp

end Go.Proofs.YtcjlkjcadaaleaaDoor

/-
  Slices of digests: cells, elements, appending.
-/
namespace Go.Proofs.YtcjlkjcadaaleaaDoor
open Go.RowKit

/-- The cells of a list of digests. -/
def dcells (ds : List (List UInt8)) : List Value := ds.flatMap fun d => d.map u8v
def D16 (ds : List (List UInt8)) : Prop := ∀ d ∈ ds, d.length = 16
theorem D16.cons {d : List UInt8} {ds : List (List UInt8)} (h : D16 (d :: ds)) : d.length = 16 ∧ D16 ds := ⟨h d List.mem_cons_self, fun x hx => h x (List.mem_cons_of_mem _ hx)⟩
theorem D16.nil : D16 [] := fun d h => by cases h
theorem D16.append {a b : List (List UInt8)} (h : D16 a) (k : D16 b) : D16 (a ++ b) := fun d hd => (List.mem_append.1 hd).elim (h d) (k d)
theorem D16.one {d : List UInt8} (h : d.length = 16) : D16 [d] := fun x hx => by simp at hx; subst hx; exact h
theorem D16.get {ds : List (List UInt8)} (h : D16 ds) {k : Nat} (hk : k < ds.length) : ds[k].length = 16 := h _ (List.getElem_mem hk)
theorem dcells_append (a b : List (List UInt8)) : dcells (a ++ b) = dcells a ++ dcells b := List.flatMap_append
theorem dcells_one (d : List UInt8) : dcells [d] = d.map u8v := by unfold dcells; simp
theorem dcells_length : ∀ {ds : List (List UInt8)}, D16 ds → (dcells ds).length = ds.length * 16
  | [], _ => rfl
  | d :: ds, h => by
    have := dcells_length h.cons.2
    unfold dcells at this ⊢
    rw [List.flatMap_cons, List.length_append, this, List.length_map, h.cons.1, List.length_cons]
    omega
theorem dcells_at : ∀ {ds : List (List UInt8)}, D16 ds → ∀ (k : Nat) (hk : k < ds.length) (j : Nat), j < 16 → (dcells ds)[k * 16 + j]? = (ds[k].map u8v)[j]?
  | [], _, k, hk, _, _ => by simp at hk
  | d :: ds, h, 0, _, j, hj => by
    unfold dcells
    rw [List.flatMap_cons, List.getElem?_append_left (by rw [List.length_map, h.cons.1]; omega)]
    simp
  | d :: ds, h, k + 1, hk, j, hj => by
    have := dcells_at h.cons.2 k (by simpa using hk) j hj
    unfold dcells at this ⊢
    rw [List.flatMap_cons, List.getElem?_append_right (by rw [List.length_map, h.cons.1]; omega), List.length_map, h.cons.1, show (k + 1) * 16 + j - 16 = k * 16 + j from by omega, this]
    rfl
theorem dcells_one' : ∀ {ds : List (List UInt8)}, AllOne (dcells ds)
  | [] => fun v h => by cases h
  | d :: ds => fun v h => by
    unfold dcells at h
    rw [List.flatMap_cons, List.mem_append] at h
    rcases h with h | h
    · exact AllOne.u8 d v h
    · exact dcells_one' (ds := ds) v h

/-- The slice value reads as a list of digests. -/
def Digs (w : World) (v : Value) (ds : List (List UInt8)) : Prop := D16 ds ∧ Reads w 16 v ds.length (dcells ds)
section
variable {w w' : World} {v : Value} {ds : List (List UInt8)}
theorem Digs.ext (h : Digs w v ds) (hE : Ext w w') : Digs w' v ds := ⟨h.1, h.2.ext hE⟩
theorem Digs.nil (w : World) : Digs w (.slice none 0 0) [] := ⟨D16.nil, Reads.nil w 16⟩
theorem Digs.form (h : Digs w v ds) : ∃ A c, v = .slice A ds.length c ∧ ds.length ≤ c ∧ c ≤ maxLen := by
  obtain ⟨_, _, A, c, h, h1, h2, _⟩ := h
  exact ⟨A, c, h, h1, h2⟩
theorem Digs.at (h : Digs w v ds) {k : Nat} (hk : k < ds.length) : ∃ b o c, v = .slice (some ⟨b, o, none⟩) ds.length c ∧ ds.length ≤ c ∧ c ≤ maxLen ∧ b < w.heap.size ∧ w.rangeAt b (o + k * 16) (ds[k].map u8v) := by
  obtain ⟨hd, hl, A, c, rfl, h1, h2, h3⟩ := h
  obtain ⟨b, o, rfl, hc⟩ := h3 (by omega)
  have hlk := hd.get hk
  refine ⟨b, o, c, rfl, h1, h2, ?_, fun j u hu => ?_⟩
  · have e := dcells_at hd k hk 0 (by omega)
    have e2 : (ds[k].map u8v)[0]? = some (u8v (ds[k][0]'(by omega))) := by rw [List.getElem?_map, List.getElem?_eq_getElem (show 0 < ds[k].length by omega)]; rfl
    exact lt_of_cell (hc _ _ (e.trans e2))
  · have hj : j < 16 := by
      rcases Nat.lt_or_ge j 16 with h | h
      · exact h
      · rw [List.getElem?_eq_none (by rw [List.length_map]; omega)] at hu; cases hu
    rw [Nat.add_assoc]
    exact hc _ _ ((dcells_at hd k hk j hj).trans hu)
/-- A part of the list. -/
theorem Digs.sub (h : Digs w v ds) (i m c' : Nat) (hi : i + m ≤ ds.length) (hm : 0 < m) (hc1 : m ≤ c') (hc2 : c' ≤ maxLen) :
    ∃ b o c, v = .slice (some ⟨b, o, none⟩) ds.length c ∧ Digs w (.slice (some ⟨b, o + i * 16, none⟩) m c') ((ds.drop i).take m) := by
  obtain ⟨b, o, c, rfl, h1, h2, hb, _⟩ := h.at (k := i) (by omega)
  obtain ⟨hd, hl, A, c2, e, _, _, h3⟩ := h
  cases e
  obtain ⟨b', o', e, hc⟩ := h3 (by omega)
  cases e
  have hd' : D16 ((ds.drop i).take m) := fun d hx => hd d (List.mem_of_mem_drop (List.mem_of_mem_take hx))
  have hlen : ((ds.drop i).take m).length = m := by simp; omega
  refine ⟨b, o, c, rfl, hd', ?_⟩
  rw [hlen]
  refine ⟨by rw [dcells_length hd', hlen], _, c', rfl, hc1, hc2, fun _ => ⟨b, o + i * 16, rfl, fun j u hu => ?_⟩⟩
  have hj : j < m * 16 := by
    rcases Nat.lt_or_ge j (m * 16) with h | h
    · exact h
    · rw [List.getElem?_eq_none (by rw [dcells_length hd', hlen]; omega)] at hu; cases hu
  have e1 := dcells_at hd' (j / 16) (by rw [hlen]; omega) (j % 16) (by omega)
  have e2 := dcells_at hd (i + j / 16) (by omega) (j % 16) (by omega)
  rw [show j / 16 * 16 + j % 16 = j from by omega, hu] at e1
  have e3 : ((ds.drop i).take m)[j / 16]'(by rw [hlen]; omega) = ds[i + j / 16]'(by omega) := by simp
  rw [e3, ← e2] at e1
  have := hc _ _ e1.symm
  rw [show (o + i * 16 + j) = o + ((i + j / 16) * 16 + j % 16) from by omega]
  exact this
end
theorem digs_row : SlTy Tryd.prog 38 23 16 16 := SlTy.mk' (z := .agg (Array.replicate 16 (.int .u8 0))) (by kernel_rfl) (by kernel_rfl) rfl (by omega) (by omega)
theorem fold_set : ∀ (l : List Value) (pre old : List Value), old.length = l.length → (l.zipIdx pre.length).foldl (fun (acc : Array Value) x => acc.setIfInBounds (0 + x.2) x.1) (pre ++ old).toArray = (pre ++ l).toArray
  | [], pre, old, h => by cases old with | nil => rfl | cons => simp at h
  | v :: l, pre, old, h => by
    cases old with
    | nil => simp at h
    | cons x old =>
      rw [List.zipIdx_cons, List.foldl_cons]
      have e : (pre ++ x :: old).toArray.setIfInBounds (0 + pre.length) v = ((pre ++ [v]) ++ old).toArray := by simp
      have := fold_set l (pre ++ [v]) old (by simpa using h)
      simp only [List.length_append, List.length_cons, List.length_nil, Nat.zero_add, List.append_assoc, List.singleton_append] at this e ⊢
      rw [e]
      exact this
theorem fill_one (old cs : Array Value) (n : Nat) (ho : old.size = n) (hc : cs.size = n) : Instr.fill (fun i => some (i * n, n)) old [(0, .agg cs)] = some cs := by
  unfold Instr.fill
  simp only [Nat.zero_mul]
  have h1 : (Value.agg cs).cells = cs := rfl
  rw [h1, if_neg (by simp; omega)]
  unfold Instr.fill
  have := fold_set cs.toList [] old.toList (by simp; omega)
  simp only [List.length_nil, List.nil_append, Array.toArray_toList] at this
  rw [← Array.foldl_toList, Array.toList_zipIdx]
  exact congrArg some this
section
variable {P : Program}
theorem wp_build1 {o : Oper} {a : Act} {w : World} {K : Act → World → Prop} {Q : Exit → Act → World → Prop} {t e : TypeId} {size bytes : Nat} (T : SlTy P t e size bytes) (hsz : size ≤ 1000) {x : Operand} (ho : o.op = .buildSlice t 1 #[(0, x)]) {cs : Array Value} (hx : a.eval x = .agg cs) (hn : cs.size = size)
    (h : K (a.put o.dst (.slice (some ⟨w.heap.size, 0, none⟩) 1 1)) (w.alloc (.cells cs e))) : o.wp P a w K Q := by
  obtain ⟨ht, ⟨i, z, hi, hz, hsize, _, hzs⟩, h0, _⟩ := T
  refine wp_buildSlice t e 1 #[(0, x)] ho cs i z ht hi hz (by rw [hsize]; omega) (by rw [hsize]; omega) ?_ h
  rw [hsize]
  have := fill_one ((Array.range (1 * size)).map (z.cells[· % z.cells.size]!)) cs size (by simp) hn
  simpa [hx] using this
theorem wpList_build1 {ops : Array Oper} {rest : List Oper} {o : Oper} {a : Act} {w : World} {Q : Exit → Act → World → Prop} (hgd : o.guard = none) {t e : TypeId} {size bytes : Nat} (T : SlTy P t e size bytes) (hsz : size ≤ 1000) {x : Operand} (ho : o.op = .buildSlice t 1 #[(0, x)]) {cs : Array Value} (hx : a.eval x = .agg cs) (hn : cs.size = size)
    (h : wpList P ops Q rest (a.put o.dst (.slice (some ⟨w.heap.size, 0, none⟩) 1 1)) (w.alloc (.cells cs e))) : wpList P ops Q (o :: rest) a w :=
  wpList_plain hgd fun _ hK => wp_build1 T hsz ho hx hn (hK _ _ h)
end
/-- A new block of one digest. -/
theorem Reads.newD (w : World) (e : TypeId) (d : List UInt8) (h : d.length = 16) {g : Nat} (hg : g = w.heap.size) : Reads (w.alloc (.cells (d.map u8v).toArray e)) 16 (.slice (some ⟨g, 0, none⟩) 1 1) 1 (d.map u8v) := by
  subst hg
  refine ⟨by rw [List.length_map, h], _, 1, rfl, Nat.le_refl _, by unfold maxLen; omega, fun _ => ⟨_, 0, rfl, fun j u hu => ?_⟩⟩
  rw [Nat.zero_add, (Blk.new w e _).cell]
  simpa using hu
/-- A slice of digests of the call's own, that grows. -/
structure GD (w0 : World) (B : Nat) (v : Value) (n : Nat) (ds : List (List UInt8)) (wr : World) : Prop where
  own : wr.ownsRow B 23 16 v n (dcells ds)
  all : D16 ds
  ext : Ext w0 wr
  base : w0.heap.size ≤ B
  room : B ≤ wr.heap.size
theorem GD.nil {w0 wr : World} {B : Nat} (hE : Ext w0 wr) (hB : w0.heap.size ≤ B) (hR : B ≤ wr.heap.size) : GD w0 B (.slice none 0 0) 0 [] wr := ⟨World.ownsRow_nil _ _ _ _, D16.nil, hE, hB, hR⟩
theorem GD.len {w0 wr : World} {B n : Nat} {v : Value} {ds : List (List UInt8)} (h : GD w0 B v n ds wr) : ds.length = n := by have := h.own.1; rw [dcells_length h.all] at this; omega
theorem GD.to {w0 wr w1 : World} {B n : Nat} {v : Value} {ds : List (List UInt8)} (h : GD w0 B v n ds wr) (hE : Ext wr w1) : GD w0 B v n ds w1 := ⟨ownsRow_ext h.own hE, h.all, h.ext.trans hE, h.base, Nat.le_trans h.room hE.size'⟩
theorem GD.step {w0 wr w1 w2 : World} {B n n' : Nat} {v v' : Value} {ds : List (List UInt8)} {d : List UInt8} (hd : d.length = 16) (h : GD w0 B v n ds wr) (hE : Ext wr w1) (hc : Chg (fun k => v.ownBlock = some k) w1 w2) (ho : w2.ownsRow B 23 16 v' n' (dcells ds ++ d.map u8v)) : GD w0 B v' n' (ds ++ [d]) w2 :=
  ⟨by rw [dcells_append, dcells_one]; exact ho, h.all.append (D16.one hd), (h.ext.trans hE).trans' hc (fun _ _ h => h) (fun i hi e => by have := (h.own.lt i e).1; have := h.base; omega), h.base, Nat.le_trans h.room (Nat.le_trans hE.size' hc.size)⟩
theorem GD.digs {w0 wr : World} {B n : Nat} {v : Value} {ds : List (List UInt8)} (h : GD w0 B v n ds wr) : Digs wr v ds := ⟨h.all, by have := Reads.of_own h.own; rwa [← h.len] at this⟩
theorem GD.form {w0 wr : World} {B n : Nat} {v : Value} {ds : List (List UInt8)} (h : GD w0 B v n ds wr) : ∃ A c, v = .slice A n c := own_slice h.own

end Go.Proofs.YtcjlkjcadaaleaaDoor

/-
  Slices of slices, of digests; blocks of digests: small laws.
-/
namespace Go.Proofs.YtcjlkjcadaaleaaDoor
open Go.RowKit

theorem Parts.two {w : World} {pv a b : Value} {la lb : List UInt8} (h : Reads w 1 pv 2 [a, b]) (ha : Reads w 1 a la.length (la.map u8v)) (hb : Reads w 1 b lb.length (lb.map u8v)) : Parts w pv [la, lb] :=
  ⟨[a, b], rfl, h, fun i p hp => by
    match i, hp with
    | 0, hp => cases hp; exact ⟨_, rfl, ha⟩
    | 1, hp => cases hp; exact ⟨_, rfl, hb⟩
    | i + 2, hp => simp at hp⟩
theorem Parts.one {w : World} {pv a : Value} {la : List UInt8} (h : Reads w 1 pv 1 [a]) (ha : Reads w 1 a la.length (la.map u8v)) : Parts w pv [la] :=
  ⟨[a], rfl, h, fun i p hp => by
    match i, hp with
    | 0, hp => cases hp; exact ⟨_, rfl, ha⟩
    | i + 1, hp => simp at hp⟩
/-- The slice of a whole digest's block. -/
theorem Blk.digR {w : World} {g : Nat} {t : TypeId} {d : List UInt8} (h : Blk w g t (d.map u8v).toArray) (hd : d.length = 16) : Reads w 1 (.slice (some ⟨g, 0, none⟩) 16 16) d.length (d.map u8v) := by
  have := Reads.of_blk h (i := 0) (n := 16) (c := 16) (by simp; omega) (by omega) (by unfold maxLen; omega)
  simp only [List.drop_zero] at this
  rw [List.take_of_length_le (by simp; omega)] at this
  rw [hd]
  exact this
theorem Reads.new2 (w : World) (a b : Value) (e : TypeId) {g : Nat} (hg : g = w.heap.size) : Reads (w.alloc (.cells #[a, b] e)) 1 (.slice (some ⟨g, 0, none⟩) 2 2) 2 [a, b] := by
  subst hg
  exact Reads.of_blk (Blk.new w e #[a, b]) (i := 0) (n := 2) (c := 2) (by simp) (by omega) (by unfold maxLen; omega)

theorem ShaMem.lt {w : World} (h : ShaMem w) : 1 < w.heap.size ∧ 0 < w.heap.size := ⟨lt_of_cell (h.k 0 _ rfl), lt_of_cell (h.h 0 _ rfl)⟩
theorem ShaMem.past {w0 w w' : World} {B : Nat} (h0 : ShaMem w0) (hB : w0.heap.size ≤ B) (h : ShaMem w) (hc : Chg (fun k => B ≤ k) w w') : ShaMem w' := h.chg hc (by have := h0.lt; omega) (by have := h0.lt; omega)
theorem mkfun (fn : Fn) (first cap : Array Value) (w : World) : (Instr.makeFunc fn first cap).run Tryd.prog w = .ok (.func fn first cap) w := rfl
theorem Digs.chg {S : Nat → Prop} {w w' : World} {v : Value} {ds : List (List UInt8)} (h : Digs w v ds) (hc : Chg S w w') (hS : ∀ k, v.ownBlock = some k → ¬ S k) : Digs w' v ds := ⟨h.1, h.2.chg hc (fun k _ hk => hS k hk)⟩
theorem ownsRow_base {w : World} {B B' : Nat} {e : TypeId} {size : Nat} {v : Value} {n : Nat} {xs : List Value} (h : w.ownsRow B e size v n xs) (hb : B' ≤ B) : w.ownsRow B' e size v n xs := by
  refine ⟨h.1, ?_⟩
  rcases h.2 with h | ⟨g, cap, cur, h1, h2, h3⟩
  · exact .inl h
  · exact .inr ⟨g, cap, cur, h1, Nat.le_trans hb h2, h3⟩
/-- Two results, the first in a block of its own. -/
theorem results_two {P : Program} {fn : Func} {i j : Tmp} {T : TypeId} {n : Nat} (W : Wide P T n) (hf : fn.results = #[.cell i T, .tmp j]) {tmps : Array Value} {w : World} {b : Nat} {t : TypeId} {cs : Array Value} (hB : Blk w b t cs) (hn : cs.size = n) (ei : tmps.getD i undef = .pointer (some ⟨b, 0, none⟩)) {v : Value} (ej : tmps.getD j undef = v) :
    (results fn tmps).run P w = .ok (.tuple #[.agg cs, v]) w := by
  have h1 := loadVar_blk hB W hn
  subst ej
  simp only [Array.getD_eq_getD_getElem?] at ei
  simp [results, hf, ei, asAddr, h1]
theorem Digs.own_lt {w : World} {v : Value} {ds : List (List UInt8)} (h : Digs w v ds) (hn : 0 < ds.length) : ∀ k, v.ownBlock = some k → k < w.heap.size := h.2.own_lt (by omega) hn
theorem Reads.new1' (w : World) (u : Value) (e : TypeId) {g : Nat} (hg : g = w.heap.size) : Reads (w.alloc (.cells #[u] e)) 1 (.slice (some ⟨g, 0, none⟩) 1 1) 1 [u] := by subst hg; exact Reads.new1 w u e

end Go.Proofs.YtcjlkjcadaaleaaDoor

/-
  Merkle trees as plain functions of lists of digests, proofs and what they keep: no program in sight.
-/
namespace Go.Proofs.YtcjlkjcadaaleaaDoor

/-- The largest power of two below n, from k on. -/
def splitF : Nat → Nat → Nat → Nat
  | 0, k, _ => k
  | f + 1, k, n => if k < n - k then splitF f (2 * k) n else k
def splitS (n : Nat) : Nat := splitF n 1 n
theorem splitF_bounds : ∀ (f k n : Nat), 0 < k → k < n → 0 < splitF f k n ∧ splitF f k n < n
  | 0, k, n, h1, h2 => ⟨h1, h2⟩
  | f + 1, k, n, h1, h2 => by
    rw [splitF]
    split
    · exact splitF_bounds f (2 * k) n (by omega) (by omega)
    · exact ⟨h1, h2⟩
theorem splitS_bounds (n : Nat) (h : 1 < n) : 0 < splitS n ∧ splitS n < n := splitF_bounds n 1 n (by omega) h
def leafS (d : List UInt8) : List UInt8 := digestS 1 [d]
def nodeS (l r : List UInt8) : List UInt8 := digestS 2 [l, r]
theorem leafS_length (d : List UInt8) : (leafS d).length = 16 := digestS_length _ _
theorem nodeS_length (l r : List UInt8) : (nodeS l r).length = 16 := digestS_length _ _
/-- The root, with as much fuel as there are leaves. -/
def rootF : Nat → List (List UInt8) → List UInt8
  | _, [] => digestS 1 []
  | _, [d] => leafS d
  | 0, _ => []
  | f + 1, l => nodeS (rootF f (l.take (splitS l.length))) (rootF f (l.drop (splitS l.length)))
def rootS (l : List (List UInt8)) : List UInt8 := rootF l.length l
theorem rootF_fuel : ∀ (f g : Nat) (l : List (List UInt8)), l.length ≤ f → l.length ≤ g → rootF f l = rootF g l
  | f, g, [], _, _ => by cases f <;> cases g <;> rfl
  | f, g, [d], _, _ => by cases f <;> cases g <;> rfl
  | 0, g, a :: b :: l, h, _ => by simp at h
  | f + 1, 0, a :: b :: l, _, h => by simp at h
  | f + 1, g + 1, a :: b :: l, h1, h2 => by
    have hb := splitS_bounds (a :: b :: l).length (by simp)
    rw [rootF, rootF]
    rw [rootF_fuel f g ((a :: b :: l).take _) (by rw [List.length_take]; omega) (by rw [List.length_take]; omega), rootF_fuel f g ((a :: b :: l).drop _) (by rw [List.length_drop]; omega) (by rw [List.length_drop]; omega)]
    all_goals simp
theorem rootS_two (l : List (List UInt8)) (h : 1 < l.length) : rootS l = nodeS (rootS (l.take (splitS l.length))) (rootS (l.drop (splitS l.length))) := by
  have hb := splitS_bounds l.length h
  match l, h with
  | a :: b :: l, h =>
    unfold rootS
    rw [show (a :: b :: l).length = (b :: l).length + 1 from rfl, rootF]
    rw [rootF_fuel _ _ ((a :: b :: l).take _) (by rw [List.length_take]; simp at hb ⊢; omega) (Nat.le_refl _), rootF_fuel _ _ ((a :: b :: l).drop _) (by rw [List.length_drop]; simp at hb ⊢; omega) (Nat.le_refl _)]
    all_goals simp

end Go.Proofs.YtcjlkjcadaaleaaDoor

/-
  Inclusion proofs in Merkle trees as plain functions, and what they keep: no program in sight.
-/
namespace Go.Proofs.YtcjlkjcadaaleaaDoor

/-- The proof of a leaf, from the leaf to the root. -/
def proveF : Nat → List (List UInt8) → Nat → List (List UInt8)
  | 0, _, _ => []
  | f + 1, l, i =>
    if l.length ≤ 1 then []
    else if i < splitS l.length then proveF f (l.take (splitS l.length)) i ++ [rootS (l.drop (splitS l.length))]
    else proveF f (l.drop (splitS l.length)) (i - splitS l.length) ++ [rootS (l.take (splitS l.length))]
def proveS (l : List (List UInt8)) (i : Nat) : List (List UInt8) := proveF l.length l i
theorem proveF_fuel : ∀ (f g : Nat) (l : List (List UInt8)) (i : Nat), l.length ≤ f → l.length ≤ g → proveF f l i = proveF g l i
  | 0, 0, _, _, _, _ => rfl
  | 0, g + 1, l, i, h, _ => by rw [proveF, proveF, if_pos (by omega)]
  | f + 1, 0, l, i, _, h => by rw [proveF, proveF, if_pos (by omega)]
  | f + 1, g + 1, l, i, h1, h2 => by
    rw [proveF, proveF]
    by_cases h : l.length ≤ 1
    · rw [if_pos h, if_pos h]
    · have hb := splitS_bounds l.length (by omega)
      rw [if_neg h, if_neg h]
      rw [proveF_fuel f g (l.take _) i (by rw [List.length_take]; omega) (by rw [List.length_take]; omega), proveF_fuel f g (l.drop _) _ (by rw [List.length_drop]; omega) (by rw [List.length_drop]; omega)]
theorem proveS_one (l : List (List UInt8)) (i : Nat) (h : l.length ≤ 1) : proveS l i = [] := by
  unfold proveS
  rcases hl : l.length with _ | n
  · rfl
  · rw [proveF, if_pos (by omega)]
theorem proveS_left (l : List (List UInt8)) (i : Nat) (h : 1 < l.length) (hi : i < splitS l.length) : proveS l i = proveS (l.take (splitS l.length)) i ++ [rootS (l.drop (splitS l.length))] := by
  have hb := splitS_bounds l.length h
  have hn : l.length = (l.length - 1) + 1 := by omega
  unfold proveS
  rw [hn, proveF, ← hn, if_neg (by omega), if_pos hi, proveF_fuel _ _ (l.take _) i (by rw [List.length_take]; omega) (Nat.le_refl _)]
theorem proveS_right (l : List (List UInt8)) (i : Nat) (h : 1 < l.length) (hi : ¬ i < splitS l.length) : proveS l i = proveS (l.drop (splitS l.length)) (i - splitS l.length) ++ [rootS (l.take (splitS l.length))] := by
  have hb := splitS_bounds l.length h
  have hn : l.length = (l.length - 1) + 1 := by omega
  unfold proveS
  rw [hn, proveF, ← hn, if_neg (by omega), if_neg hi, proveF_fuel _ _ (l.drop _) _ (by rw [List.length_drop]; omega) (Nat.le_refl _)]

/-- On which side the path goes (true: to the left), from the root to the leaf. -/
def sidesF : Nat → Nat → Nat → List Bool
  | 0, _, _ => []
  | f + 1, n, i => if n ≤ 1 then [] else if i < splitS n then true :: sidesF f (splitS n) i else false :: sidesF f (n - splitS n) (i - splitS n)
def sidesS (n i : Nat) : List Bool := sidesF n n i
theorem sidesF_fuel : ∀ (f g n i : Nat), n ≤ f → n ≤ g → sidesF f n i = sidesF g n i
  | 0, 0, _, _, _, _ => rfl
  | 0, g + 1, n, i, h, _ => by rw [sidesF, sidesF, if_pos (by omega)]
  | f + 1, 0, n, i, _, h => by rw [sidesF, sidesF, if_pos (by omega)]
  | f + 1, g + 1, n, i, h1, h2 => by
    rw [sidesF, sidesF]
    by_cases h : n ≤ 1
    · rw [if_pos h, if_pos h]
    · have hb := splitS_bounds n (by omega)
      rw [if_neg h, if_neg h, sidesF_fuel f g (splitS n) i (by omega) (by omega), sidesF_fuel f g (n - splitS n) _ (by omega) (by omega)]
theorem sidesS_one (n i : Nat) (h : n ≤ 1) : sidesS n i = [] := by
  unfold sidesS
  rcases n with _ | n
  · rfl
  · rw [sidesF, if_pos h]
theorem sidesS_left (n i : Nat) (h : 1 < n) (hi : i < splitS n) : sidesS n i = true :: sidesS (splitS n) i := by
  have hb := splitS_bounds n h
  unfold sidesS
  obtain ⟨m, rfl⟩ : ∃ m, n = m + 1 := ⟨n - 1, by omega⟩
  rw [sidesF, if_neg (by omega), if_pos hi, sidesF_fuel m _ _ _ (by omega) (Nat.le_refl _)]
theorem sidesS_right (n i : Nat) (h : 1 < n) (hi : ¬ i < splitS n) : sidesS n i = false :: sidesS (n - splitS n) (i - splitS n) := by
  have hb := splitS_bounds n h
  unfold sidesS
  obtain ⟨m, rfl⟩ : ∃ m, n = m + 1 := ⟨n - 1, by omega⟩
  rw [sidesF, if_neg (by omega), if_neg hi, sidesF_fuel m _ _ _ (by omega) (Nat.le_refl _)]
theorem sidesF_le : ∀ (f n i : Nat), (sidesF f n i).length ≤ f
  | 0, _, _ => Nat.le_refl _
  | f + 1, n, i => by
    rw [sidesF]
    split
    · simp
    · split
      · have := sidesF_le f (splitS n) i; simp; omega
      · have := sidesF_le f (n - splitS n) (i - splitS n); simp; omega
theorem sidesS_le (n i : Nat) : (sidesS n i).length ≤ n := sidesF_le _ _ _

/-- Up from a digest: the sides from the leaf on. -/
def foldS (d : List UInt8) : List Bool → List (List UInt8) → List UInt8
  | s :: ss, p :: ps => foldS (if s then nodeS d p else nodeS p d) ss ps
  | _, _ => d
theorem foldS_nil (d : List UInt8) (ps : List (List UInt8)) : foldS d [] ps = d := by cases ps <;> rfl
theorem foldS_snoc : ∀ (ss : List Bool) (ps : List (List UInt8)) (d p : List UInt8) (s : Bool), ss.length = ps.length → foldS d (ss ++ [s]) (ps ++ [p]) = if s then nodeS (foldS d ss ps) p else nodeS p (foldS d ss ps)
  | [], [], d, p, s, _ => rfl
  | [], _ :: _, _, _, _, h => by simp at h
  | _ :: _, [], _, _, _, h => by simp at h
  | a :: ss, b :: ps, d, p, s, h => by
    rw [List.cons_append, List.cons_append, foldS, foldS]
    exact foldS_snoc ss ps _ p s (by simpa using h)
theorem foldS_length (d : List UInt8) (h : d.length = 16) : ∀ (ss : List Bool) (ps : List (List UInt8)), (foldS d ss ps).length = 16
  | [], _ => by rw [foldS_nil]; exact h
  | _ :: _, [] => h
  | s :: ss, p :: ps => by
    rw [foldS]
    apply foldS_length
    split <;> exact nodeS_length _ _
/-- One step more. -/
theorem foldS_take (d : List UInt8) (ss : List Bool) (ps : List (List UInt8)) (k : Nat) (h1 : k < ss.length) (h2 : k < ps.length) : foldS d (ss.take (k + 1)) (ps.take (k + 1)) = if ss[k] then nodeS (foldS d (ss.take k) (ps.take k)) ps[k] else nodeS ps[k] (foldS d (ss.take k) (ps.take k)) := by
  rw [List.take_succ_eq_append_getElem h1, List.take_succ_eq_append_getElem h2, foldS_snoc _ _ _ _ _ (by simp; omega)]
def verifyS (root : List UInt8) (n i : Nat) (leaf : List UInt8) (proof : List (List UInt8)) : Bool :=
  decide (i < n) && (decide ((sidesS n i).length = proof.length) && decide (foldS (leafS leaf) (sidesS n i).reverse proof = root))

theorem rootS_one (d : List UInt8) : rootS [d] = leafS d := rfl
theorem prove_spec : ∀ (n : Nat) (l : List (List UInt8)) (i : Nat) (d : List UInt8), l[i]? = some d → l.length ≤ n → (proveS l i).length = (sidesS l.length i).length ∧ foldS (leafS d) (sidesS l.length i).reverse (proveS l i) = rootS l
  | 0, l, i, d, hd, h => by
    obtain rfl : l = [] := List.eq_nil_of_length_eq_zero (by omega)
    simp at hd
  | n + 1, l, i, d, hd, h => by
    have hi : i < l.length := (List.getElem?_eq_some_iff.1 hd).1
    rcases Nat.lt_or_ge 1 l.length with h1 | h1
    · have hb := splitS_bounds l.length h1
      rw [rootS_two l h1]
      by_cases hk : i < splitS l.length
      · have hlen : (l.take (splitS l.length)).length = splitS l.length := by rw [List.length_take]; omega
        obtain ⟨e1, e2⟩ := prove_spec n (l.take (splitS l.length)) i d (by rw [List.getElem?_take, if_pos hk]; exact hd) (by omega)
        rw [hlen] at e1 e2
        rw [proveS_left l i h1 hk, sidesS_left _ i h1 hk]
        refine ⟨by simp [e1], ?_⟩
        rw [List.reverse_cons, foldS_snoc _ _ _ _ _ (by simp [e1]), e2]
        rfl
      · have hlen : (l.drop (splitS l.length)).length = l.length - splitS l.length := by rw [List.length_drop]
        obtain ⟨e1, e2⟩ := prove_spec n (l.drop (splitS l.length)) (i - splitS l.length) d (by rw [List.getElem?_drop, show splitS l.length + (i - splitS l.length) = i from by omega]; exact hd) (by omega)
        rw [hlen] at e1 e2
        rw [proveS_right l i h1 hk, sidesS_right _ i h1 hk]
        refine ⟨by simp [e1], ?_⟩
        rw [List.reverse_cons, foldS_snoc _ _ _ _ _ (by simp [e1]), e2]
        rfl
    · match l, hd with
      | [a], hd =>
        obtain rfl : i = 0 := by simpa using hi
        cases hd
        exact ⟨rfl, rfl⟩
      | a :: b :: l, _ => simp at h1
theorem prove_verifies (l : List (List UInt8)) (i : Nat) (d : List UInt8) (hd : l[i]? = some d) : verifyS (rootS l) l.length i d (proveS l i) = true := by
  have hi : i < l.length := (List.getElem?_eq_some_iff.1 hd).1
  obtain ⟨e1, e2⟩ := prove_spec l.length l i d hd (Nat.le_refl _)
  unfold verifyS
  rw [decide_eq_true hi, decide_eq_true e1.symm, decide_eq_true e2]
  rfl
theorem rootS_length (l : List (List UInt8)) : (rootS l).length = 16 := by
  rcases Nat.lt_or_ge 1 l.length with h | h
  · rw [rootS_two l h]; exact nodeS_length _ _
  · match l with
    | [] => exact digestS_length _ _
    | [d] => exact leafS_length d
    | a :: b :: l => simp at h
theorem proveS_16 : ∀ (n : Nat) (l : List (List UInt8)) (i : Nat), l.length ≤ n → ∀ d ∈ proveS l i, d.length = 16
  | 0, l, i, h, d, hd => by rw [proveS_one l i (by omega)] at hd; cases hd
  | n + 1, l, i, h, d, hd => by
    rcases Nat.lt_or_ge 1 l.length with h1 | h1
    · have hb := splitS_bounds l.length h1
      by_cases hk : i < splitS l.length
      · rw [proveS_left l i h1 hk, List.mem_append] at hd
        rcases hd with hd | hd
        · exact proveS_16 n _ i (by rw [List.length_take]; omega) d hd
        · simp at hd; subst hd; exact rootS_length _
      · rw [proveS_right l i h1 hk, List.mem_append] at hd
        rcases hd with hd | hd
        · exact proveS_16 n _ _ (by rw [List.length_drop]; omega) d hd
        · simp at hd; subst hd; exact rootS_length _
    · rw [proveS_one l i h1] at hd; cases hd

/-- As the reference says it: from the proof's end. -/
def combineF : Nat → Nat → Nat → List UInt8 → List (List UInt8) → List UInt8 × Bool
  | 0, _, _, leaf, p => (leafS leaf, p.isEmpty)
  | f + 1, n, i, leaf, p =>
    if n ≤ 1 then (leafS leaf, p.isEmpty)
    else match p.getLast? with
      | none => (List.replicate 16 0, false)
      | some q =>
        if i < splitS n then (nodeS (combineF f (splitS n) i leaf p.dropLast).1 q, (combineF f (splitS n) i leaf p.dropLast).2)
        else (nodeS q (combineF f (n - splitS n) (i - splitS n) leaf p.dropLast).1, (combineF f (n - splitS n) (i - splitS n) leaf p.dropLast).2)
theorem combine_spec : ∀ (f n i : Nat) (leaf : List UInt8) (p : List (List UInt8)), n ≤ f →
    (combineF f n i leaf p).2 = decide ((sidesS n i).length = p.length) ∧ ((sidesS n i).length = p.length → (combineF f n i leaf p).1 = foldS (leafS leaf) (sidesS n i).reverse p)
  | 0, n, i, leaf, p, h => by
    rw [sidesS_one n i (by omega)]
    cases p with
    | nil => exact ⟨rfl, fun _ => rfl⟩
    | cons a p => exact ⟨by simp [combineF], fun h => by simp at h⟩
  | f + 1, n, i, leaf, p, h => by
    rw [combineF]
    by_cases h1 : n ≤ 1
    · rw [if_pos h1, sidesS_one n i h1]
      cases p with
      | nil => exact ⟨rfl, fun _ => rfl⟩
      | cons a p => exact ⟨by simp, fun h => by simp at h⟩
    · have hb := splitS_bounds n (by omega)
      rw [if_neg h1]
      rcases List.eq_nil_or_concat p with rfl | ⟨ps, q, rfl⟩
      · by_cases hk : i < splitS n
        · rw [sidesS_left n i (by omega) hk]; exact ⟨by simp, fun h => by simp at h⟩
        · rw [sidesS_right n i (by omega) hk]; exact ⟨by simp, fun h => by simp at h⟩
      · simp only [List.concat_eq_append, List.getLast?_concat, List.dropLast_concat]
        by_cases hk : i < splitS n
        · obtain ⟨e1, e2⟩ := combine_spec f (splitS n) i leaf ps (by omega)
          rw [if_pos hk, sidesS_left n i (by omega) hk]
          refine ⟨by rw [e1]; simp, fun he => ?_⟩
          have he' : (sidesS (splitS n) i).length = ps.length := by simpa using he
          rw [List.reverse_cons, foldS_snoc _ _ _ _ _ (by simpa using he'), e2 he']
          rfl
        · obtain ⟨e1, e2⟩ := combine_spec f (n - splitS n) (i - splitS n) leaf ps (by omega)
          rw [if_neg hk, sidesS_right n i (by omega) hk]
          refine ⟨by rw [e1]; simp, fun he => ?_⟩
          have he' : (sidesS (n - splitS n) (i - splitS n)).length = ps.length := by simpa using he
          rw [List.reverse_cons, foldS_snoc _ _ _ _ _ (by simpa using he'), e2 he']
          rfl
theorem combine_verify (root : List UInt8) (n i : Nat) (leaf : List UInt8) (p : List (List UInt8)) (hi : i < n) : ((combineF n n i leaf p).2 && decide ((combineF n n i leaf p).1 = root)) = verifyS root n i leaf p := by
  obtain ⟨e1, e2⟩ := combine_spec n n i leaf p (Nat.le_refl _)
  unfold verifyS
  rw [e1, decide_eq_true hi, Bool.true_and]
  by_cases h : (sidesS n i).length = p.length
  · rw [e2 h]
  · rw [decide_eq_false h, Bool.false_and, Bool.false_and]

/-! ### Trees of 2 to the height -/
theorem sides_pow : ∀ h, h ≤ 4 → ∀ i, i < 2 ^ h → (sidesS (2 ^ h) i).reverse = (List.range h).map fun j => decide (i / 2 ^ j % 2 = 0) := by decide +kernel
theorem sides_pow_length (h : Nat) (hh : h ≤ 4) (i : Nat) (hi : i < 2 ^ h) : (sidesS (2 ^ h) i).length = h := by
  have := congrArg List.length (sides_pow h hh i hi)
  simpa using this
/-- As the law folds: by the bits of the index. -/
def upS (d : List UInt8) (i : Nat) : List (List UInt8) → List UInt8
  | [] => d
  | p :: ps => upS (if i % 2 = 0 then nodeS d p else nodeS p d) (i / 2) ps
theorem upS_fold : ∀ (ps : List (List UInt8)) (d : List UInt8) (i : Nat), foldS d ((List.range ps.length).map fun j => decide (i / 2 ^ j % 2 = 0)) ps = upS d i ps
  | [], d, i => rfl
  | p :: ps, d, i => by
    rw [List.length_cons, List.range_succ_eq_map, List.map_cons, foldS, upS, ← upS_fold ps _ (i / 2), List.map_map]
    congr 1
    · simp
    · apply List.map_congr_left
      intro j _
      simp [Nat.pow_succ, Nat.div_div_eq_div_mul, Nat.mul_comm]
theorem verify_up (root : List UInt8) (h i : Nat) (leaf : List UInt8) (p : List (List UInt8)) (hh : h ≤ 4) (hi : i < 2 ^ h) (hv : verifyS root (2 ^ h) i leaf p = true) : p.length = h ∧ upS (leafS leaf) i p = root := by
  unfold verifyS at hv
  rw [Bool.and_eq_true, Bool.and_eq_true, decide_eq_true_eq, decide_eq_true_eq, decide_eq_true_eq, sides_pow_length h hh i hi] at hv
  obtain ⟨_, h1, h2⟩ := hv
  refine ⟨h1.symm, ?_⟩
  rw [sides_pow h hh i hi] at h2
  rw [← upS_fold, ← h1]
  exact h2

end Go.Proofs.YtcjlkjcadaaleaaDoor

/-
  Merkle trees: the digests of a leaf and of a node, the split, of the program and of the reference.
-/
namespace Go.Proofs.YtcjlkjcadaaleaaDoor
open Go.RowKit

set_option maxRecDepth 100000 in
set_option maxHeartbeats 2000000 in
theorem leaf_any (d : List UInt8) (w : World) (hM : ShaMem w) (hd : d.length = 16) :
    Calls Tryd.prog 97 #[.agg (d.map u8v).toArray] w fun e w' => e = .returned (.agg ((leafS d).map u8v).toArray) ∧ Ext w w' := by
  have HD := hide (fun (W : World) (pv : Value) (hE : Ext w W) (h1 : Reads W 1 pv 1 [.slice (some ⟨w.heap.size, 0, none⟩) 16 16]) (h3 : Blk W w.heap.size 23 (d.map u8v).toArray) =>
    digest_any 1 [d] pv W (hM.ext hE) (Parts.one h1 (h3.digR hd)) (by simp) (fun p hp => by simp at hp; subst hp; omega))
  obtain ⟨arr, harr⟩ : ∃ r, (d.map u8v).toArray = r := ⟨_, rfl⟩
  rw [harr] at HD ⊢
  have HR := hide (And.intro (show digestS 1 [d] = leafS d from rfl) (leafS_length d))
  obtain ⟨res, hres⟩ : ∃ r, leafS d = r := ⟨_, rfl⟩
  rw [hres] at HR ⊢
  clear harr hres hd
  go_enter Tryd.func97, Tryd.ntmps97
  go_wp2_with (first
    | (go_at_call 75; refine (unhide HD _ _ ((((Ext.refl w).alloc _).alloc _).alloc _) (Reads.new1' _ _ _ (g := w.heap.size + 1 + 1) (by simp)) (((Blk.new w _ _).alloc _).alloc _)).mono ?_; rintro e w5 ⟨rfl, hE5⟩; rw [(unhide HR).1]; have H5 := hide (And.intro (((((Ext.refl w).alloc _).alloc _).alloc _).trans hE5) (((Blk.new' (w.alloc (.cells arr 23)) 23 (Array.replicate 16 (.int .u8 0)) (g := w.heap.size + 1) (by simp)).alloc _).ext hE5)); clear hE5)
    | (refine wpList_storeB (ty := 23) (t := 23) (x := .tmp 2) (y := .tmp 5) rfl rfl digest_wide rfl rfl (unhide H5).2 rfl (by simpa using (unhide HR).2) (bytes_one _) ?_; intro w7 hb7 hc7 hz7; have H7 := hide (And.intro hb7 hc7); clear hb7 hc7 hz7))
  refine bodyPost_ret (v := .agg (res.map u8v).toArray) (results_blk digest_wide rfl (unhide H7).1 (by simpa using (unhide HR).2) rfl) rfl ⟨rfl, ?_⟩
  exact (unhide H5).1.trans' (unhide H7).2 (fun _ _ h => h) (fun i hi e => by omega)
set_option maxRecDepth 100000 in
set_option maxHeartbeats 2000000 in
theorem rleaf_any (d : List UInt8) (w : World)  (hd : d.length = 16) :
    Calls Tryd.prog 109 #[.agg (d.map u8v).toArray] w fun e w' => e = .returned (.agg ((leafS d).map u8v).toArray) ∧ Ext w w' := by
  have HD := hide (fun (W : World) (pv : Value) (hE : Ext w W) (h1 : Reads W 1 pv 1 [.slice (some ⟨w.heap.size, 0, none⟩) 16 16]) (h3 : Blk W w.heap.size 23 (d.map u8v).toArray) =>
    rdigest_any 1 [d] pv W  (Parts.one h1 (h3.digR hd)) (by simp) (fun p hp => by simp at hp; subst hp; omega))
  obtain ⟨arr, harr⟩ : ∃ r, (d.map u8v).toArray = r := ⟨_, rfl⟩
  rw [harr] at HD ⊢
  have HR := hide (And.intro (show digestS 1 [d] = leafS d from rfl) (leafS_length d))
  obtain ⟨res, hres⟩ : ∃ r, leafS d = r := ⟨_, rfl⟩
  rw [hres] at HR ⊢
  clear harr hres hd
  go_enter Tryd.func109, Tryd.ntmps109
  go_wp2_with (first
    | (go_at_call 95; refine (unhide HD _ _ ((((Ext.refl w).alloc _).alloc _).alloc _) (Reads.new1' _ _ _ (g := w.heap.size + 1 + 1) (by simp)) (((Blk.new w _ _).alloc _).alloc _)).mono ?_; rintro e w5 ⟨rfl, hE5⟩; rw [(unhide HR).1]; have H5 := hide (And.intro (((((Ext.refl w).alloc _).alloc _).alloc _).trans hE5) (((Blk.new' (w.alloc (.cells arr 23)) 23 (Array.replicate 16 (.int .u8 0)) (g := w.heap.size + 1) (by simp)).alloc _).ext hE5)); clear hE5)
    | (refine wpList_storeB (ty := 23) (t := 23) (x := .tmp 2) (y := .tmp 5) rfl rfl digest_wide rfl rfl (unhide H5).2 rfl (by simpa using (unhide HR).2) (bytes_one _) ?_; intro w7 hb7 hc7 hz7; have H7 := hide (And.intro hb7 hc7); clear hb7 hc7 hz7))
  refine bodyPost_ret (v := .agg (res.map u8v).toArray) (results_blk digest_wide rfl (unhide H7).1 (by simpa using (unhide HR).2) rfl) rfl ⟨rfl, ?_⟩
  exact (unhide H5).1.trans' (unhide H7).2 (fun _ _ h => h) (fun i hi e => by omega)
set_option maxRecDepth 100000 in
set_option maxHeartbeats 2000000 in
theorem node_any (l r : List UInt8) (w : World) (hM : ShaMem w) (hl : l.length = 16) (hr : r.length = 16) :
    Calls Tryd.prog 99 #[.agg (l.map u8v).toArray, .agg (r.map u8v).toArray] w fun e w' => e = .returned (.agg ((nodeS l r).map u8v).toArray) ∧ Ext w w' := by
  have HD := hide (fun (W : World) (pv : Value) (hE : Ext w W) (h1 : Reads W 1 pv 2 [.slice (some ⟨w.heap.size, 0, none⟩) 16 16, .slice (some ⟨w.heap.size + 1, 0, none⟩) 16 16]) (h3 : Blk W w.heap.size 23 (l.map u8v).toArray) (h4 : Blk W (w.heap.size + 1) 23 (r.map u8v).toArray) =>
    digest_any 2 [l, r] pv W (hM.ext hE) (Parts.two h1 (h3.digR hl) (h4.digR hr)) (by simp) (fun p hp => by simp at hp; rcases hp with rfl | rfl <;> omega))
  obtain ⟨la, hla⟩ : ∃ x, (l.map u8v).toArray = x := ⟨_, rfl⟩
  obtain ⟨ra, hra⟩ : ∃ x, (r.map u8v).toArray = x := ⟨_, rfl⟩
  rw [hla, hra] at HD ⊢
  have HR := hide (And.intro (show digestS 2 [l, r] = nodeS l r from rfl) (nodeS_length l r))
  obtain ⟨res, hres⟩ : ∃ x, nodeS l r = x := ⟨_, rfl⟩
  rw [hres] at HR ⊢
  clear hla hra hres hl hr
  go_enter Tryd.func99, Tryd.ntmps99
  go_upto_region 1 with fail
  refine wp_region_held_drew (S := fun _ => True) (by kernel_rfl) trivial (fun hHeld => ?_)
  refine wpAnyH_take (i := 0) (oi := _) (v := ?_) rfl (by kernel_rfl) (by kernel_rfl) (by kernel_rfl) (fun _ _ _ h => h) (Or.inl ⟨by rfl, fun wz hSz => ?_⟩) (by assumption) ?_
  rotate_left
  · (first | (go_simp; done) | (go_simp; with_reducible rfl))
  try simp only [Act.put, List.setIfInBounds_toArray, List.set_cons_zero, List.set_cons_succ, List.getElem_toArray, List.getElem_cons_zero]
  refine wpAnyH_take (i := 1) (oi := _) (v := ?_) rfl (by kernel_rfl) (by kernel_rfl) (by kernel_rfl) (fun _ _ _ h => h) (Or.inl ⟨by rfl, fun wz hSz => ?_⟩) (by assumption) ?_
  rotate_left
  · (first | (go_simp; done) | (go_simp; with_reducible rfl))
  try simp only [Act.put, List.setIfInBounds_toArray, List.set_cons_zero, List.set_cons_succ, List.getElem_toArray, List.getElem_cons_succ, List.getElem_cons_zero]
  refine wpAnyH_ready (rs := [2]) (by kernel_rfl) (by simp) (AllReadyH.cons (o := _) rfl (fun K hK => ?_) AllReadyH.nil)
  try go_simp
  (have hS : True := trivial; clear hHeld)
  refine hK.out _ _ ?_ (fun hHeld => ?_)
  · exact hS
  clear hK K
  try simp only [Act.put, List.setIfInBounds_toArray, List.set_cons_zero, List.set_cons_succ, List.getElem_toArray, List.getElem_cons_succ, List.getElem_cons_zero]
  refine wpAnyH_ready (rs := [3]) (by kernel_rfl) (by simp) (AllReadyH.cons (o := _) rfl (fun K hK => ?_) AllReadyH.nil)
  try go_simp
  (refine (unhide HD _ _ (((((Ext.refl w).alloc _).alloc _).alloc _).alloc _).drew ((Reads.new2 _ _ _ _ (g := w.heap.size + 1 + 1 + 1) (by simp)).ext (Ext.refl _).drew) (((((Blk.new w _ _).alloc _).alloc _).alloc _).drew) ((((Blk.new' _ _ _ (by simp)).alloc _).alloc _).drew)).mono ?_; rintro e w3 ⟨rfl, hE3⟩; rw [(unhide HR).1]; have H3 := hide (And.intro ((((((Ext.refl w).alloc _).alloc _).alloc _).alloc _).drew.trans hE3) ((((Blk.new' ((w.alloc (.cells la 23)).alloc (.cells ra 23)) 23 (Array.replicate 16 (.int .u8 0)) (g := w.heap.size + 1 + 1) (by simp)).alloc _).drew).ext hE3)); have hS : True := trivial; clear hHeld hE3)
  refine hK.out _ _ ?_ (fun hHeld => ?_)
  · exact hS
  clear hK K
  try simp only [Act.put, List.setIfInBounds_toArray, List.set_cons_zero, List.set_cons_succ, List.getElem_toArray, List.getElem_cons_succ, List.getElem_cons_zero]
  refine wpAnyH_ready (rs := [4]) (by kernel_rfl) (by simp) (AllReadyH.cons (o := _) rfl (fun K hK => ?_) AllReadyH.nil)
  (refine step_storeB (ty := 23) (t := 23) (x := .tmp 4) (y := .tmp 8) rfl rfl digest_wide rfl rfl (unhide H3).2 rfl (by simpa using (unhide HR).2) (bytes_one _) ?_; intro w7 hb7 hc7 hz7; have H7 := hide (And.intro hb7 (Chg.trans' (unhide H3).1 hc7 (fun _ _ h => h) (fun i hi e => by omega))); have hS : True := trivial; clear hHeld hb7 hc7 hz7)
  refine hK.out _ _ ?_ (fun hHeld => ?_)
  · exact hS
  clear hK K
  try simp only [Act.put, List.getElem_toArray, List.getElem_cons_succ, List.getElem_cons_zero]
  refine wpAnyH_done (by kernel_rfl) ?_ _
  go_wp2
  refine bodyPost_ret (v := .agg (res.map u8v).toArray) (results_blk digest_wide rfl (unhide H7).1 (by simpa using (unhide HR).2) rfl) rfl ⟨rfl, ?_⟩
  exact (unhide H7).2
set_option maxRecDepth 100000 in
set_option maxHeartbeats 2000000 in
theorem rnode_any (l r : List UInt8) (w : World)  (hl : l.length = 16) (hr : r.length = 16) :
    Calls Tryd.prog 111 #[.agg (l.map u8v).toArray, .agg (r.map u8v).toArray] w fun e w' => e = .returned (.agg ((nodeS l r).map u8v).toArray) ∧ Ext w w' := by
  have HD := hide (fun (W : World) (pv : Value) (hE : Ext w W) (h1 : Reads W 1 pv 2 [.slice (some ⟨w.heap.size, 0, none⟩) 16 16, .slice (some ⟨w.heap.size + 1, 0, none⟩) 16 16]) (h3 : Blk W w.heap.size 23 (l.map u8v).toArray) (h4 : Blk W (w.heap.size + 1) 23 (r.map u8v).toArray) =>
    rdigest_any 2 [l, r] pv W  (Parts.two h1 (h3.digR hl) (h4.digR hr)) (by simp) (fun p hp => by simp at hp; rcases hp with rfl | rfl <;> omega))
  obtain ⟨la, hla⟩ : ∃ x, (l.map u8v).toArray = x := ⟨_, rfl⟩
  obtain ⟨ra, hra⟩ : ∃ x, (r.map u8v).toArray = x := ⟨_, rfl⟩
  rw [hla, hra] at HD ⊢
  have HR := hide (And.intro (show digestS 2 [l, r] = nodeS l r from rfl) (nodeS_length l r))
  obtain ⟨res, hres⟩ : ∃ x, nodeS l r = x := ⟨_, rfl⟩
  rw [hres] at HR ⊢
  clear hla hra hres hl hr
  go_enter Tryd.func111, Tryd.ntmps111
  go_upto_region 1 with fail
  refine wp_region_held_drew (S := fun _ => True) (by kernel_rfl) trivial (fun hHeld => ?_)
  refine wpAnyH_take (i := 0) (oi := _) (v := ?_) rfl (by kernel_rfl) (by kernel_rfl) (by kernel_rfl) (fun _ _ _ h => h) (Or.inl ⟨by rfl, fun wz hSz => ?_⟩) (by assumption) ?_
  rotate_left
  · (first | (go_simp; done) | (go_simp; with_reducible rfl))
  try simp only [Act.put, List.setIfInBounds_toArray, List.set_cons_zero, List.set_cons_succ, List.getElem_toArray, List.getElem_cons_zero]
  refine wpAnyH_take (i := 1) (oi := _) (v := ?_) rfl (by kernel_rfl) (by kernel_rfl) (by kernel_rfl) (fun _ _ _ h => h) (Or.inl ⟨by rfl, fun wz hSz => ?_⟩) (by assumption) ?_
  rotate_left
  · (first | (go_simp; done) | (go_simp; with_reducible rfl))
  try simp only [Act.put, List.setIfInBounds_toArray, List.set_cons_zero, List.set_cons_succ, List.getElem_toArray, List.getElem_cons_succ, List.getElem_cons_zero]
  refine wpAnyH_ready (rs := [2]) (by kernel_rfl) (by simp) (AllReadyH.cons (o := _) rfl (fun K hK => ?_) AllReadyH.nil)
  try go_simp
  (have hS : True := trivial; clear hHeld)
  refine hK.out _ _ ?_ (fun hHeld => ?_)
  · exact hS
  clear hK K
  try simp only [Act.put, List.setIfInBounds_toArray, List.set_cons_zero, List.set_cons_succ, List.getElem_toArray, List.getElem_cons_succ, List.getElem_cons_zero]
  refine wpAnyH_ready (rs := [3]) (by kernel_rfl) (by simp) (AllReadyH.cons (o := _) rfl (fun K hK => ?_) AllReadyH.nil)
  try go_simp
  (refine (unhide HD _ _ (((((Ext.refl w).alloc _).alloc _).alloc _).alloc _).drew ((Reads.new2 _ _ _ _ (g := w.heap.size + 1 + 1 + 1) (by simp)).ext (Ext.refl _).drew) (((((Blk.new w _ _).alloc _).alloc _).alloc _).drew) ((((Blk.new' _ _ _ (by simp)).alloc _).alloc _).drew)).mono ?_; rintro e w3 ⟨rfl, hE3⟩; rw [(unhide HR).1]; have H3 := hide (And.intro ((((((Ext.refl w).alloc _).alloc _).alloc _).alloc _).drew.trans hE3) ((((Blk.new' ((w.alloc (.cells la 23)).alloc (.cells ra 23)) 23 (Array.replicate 16 (.int .u8 0)) (g := w.heap.size + 1 + 1) (by simp)).alloc _).drew).ext hE3)); have hS : True := trivial; clear hHeld hE3)
  refine hK.out _ _ ?_ (fun hHeld => ?_)
  · exact hS
  clear hK K
  try simp only [Act.put, List.setIfInBounds_toArray, List.set_cons_zero, List.set_cons_succ, List.getElem_toArray, List.getElem_cons_succ, List.getElem_cons_zero]
  refine wpAnyH_ready (rs := [4]) (by kernel_rfl) (by simp) (AllReadyH.cons (o := _) rfl (fun K hK => ?_) AllReadyH.nil)
  (refine step_storeB (ty := 23) (t := 23) (x := .tmp 4) (y := .tmp 8) rfl rfl digest_wide rfl rfl (unhide H3).2 rfl (by simpa using (unhide HR).2) (bytes_one _) ?_; intro w7 hb7 hc7 hz7; have H7 := hide (And.intro hb7 (Chg.trans' (unhide H3).1 hc7 (fun _ _ h => h) (fun i hi e => by omega))); have hS : True := trivial; clear hHeld hb7 hc7 hz7)
  refine hK.out _ _ ?_ (fun hHeld => ?_)
  · exact hS
  clear hK K
  try simp only [Act.put, List.getElem_toArray, List.getElem_cons_succ, List.getElem_cons_zero]
  refine wpAnyH_done (by kernel_rfl) ?_ _
  go_wp2
  refine bodyPost_ret (v := .agg (res.map u8v).toArray) (results_blk digest_wide rfl (unhide H7).1 (by simpa using (unhide HR).2) rfl) rfl ⟨rfl, ?_⟩
  exact (unhide H7).2

/-- The loop of the split: as many steps as are left. -/
theorem split_exit (f k n : Nat) (h : ¬ k < n - k) : splitF f k n = k := by
  cases f with
  | zero => rfl
  | succ f => rw [splitF, if_neg h]
theorem split_step (f k n : Nat) (h : k < n - k) (hk : 0 < k) (hf : n ≤ f + k) : ∃ g, n ≤ g + 2 * k ∧ splitF g (2 * k) n = splitF f k n := by
  cases f with
  | zero => omega
  | succ f => exact ⟨f, by omega, by rw [splitF, if_pos h]⟩
set_option maxHeartbeats 1000000 in
theorem split_any (n : Nat) (w : World) (h1 : 1 < n) (h2 : n ≤ 1000000) : Calls Tryd.prog 98 #[.int .i64 (n : Int)] w fun e w' => e = .returned (.int .i64 ((splitS n : Nat) : Int)) ∧ w = w' := by
  have HB := hide (show splitF n 1 n = splitS n from rfl)
  go_enter Tryd.func98, Tryd.ntmps98
  go_wp2
  go_loop [3] (fun x => ∃ k : Nat, 0 < k ∧ k < n ∧ x = .int .i64 k ∧ Hid (∃ f, n ≤ f + k ∧ splitF f k n = splitS n)) (fun x => n - (intOf x).toNat)
  case atStart => exact ⟨1, by omega, h1, rfl, hide ⟨n, by omega, unhide HB⟩⟩
  case round =>
    obtain ⟨k, hk0, hk, rfl, HF⟩ := hrel
    by_cases hlt : k < n - k
    · have hltI : (k : Int) < (n : Int) - k := by omega
      go_wp2
      go_round
      case rel =>
        obtain ⟨f, hf, he⟩ := unhide HF
        obtain ⟨g, hg, hge⟩ := split_step f k n hlt hk0 hf
        exact ⟨2 * k, by omega, by omega, by go_num, hide ⟨g, hg, hge.trans he⟩⟩
      case measure => simp [intOf]; omega
    · have hltI : ¬ (k : Int) < (n : Int) - k := by omega
      go_wp2
      go_ret
      obtain ⟨f, hf, he⟩ := unhide HF
      rw [split_exit f k n hlt] at he
      exact ⟨ret_int (by omega), rfl⟩
set_option maxHeartbeats 1000000 in
theorem rsplit_any (n : Nat) (w : World) (h1 : 1 < n) (h2 : n ≤ 1000000) : Calls Tryd.prog 110 #[.int .i64 (n : Int)] w fun e w' => e = .returned (.int .i64 ((splitS n : Nat) : Int)) ∧ w = w' := by
  have HB := hide (show splitF n 1 n = splitS n from rfl)
  go_enter Tryd.func110, Tryd.ntmps110
  go_wp2
  go_loop [3] (fun x => ∃ k : Nat, 0 < k ∧ k < n ∧ x = .int .i64 k ∧ Hid (∃ f, n ≤ f + k ∧ splitF f k n = splitS n)) (fun x => n - (intOf x).toNat)
  case atStart => exact ⟨1, by omega, h1, rfl, hide ⟨n, by omega, unhide HB⟩⟩
  case round =>
    obtain ⟨k, hk0, hk, rfl, HF⟩ := hrel
    by_cases hlt : k < n - k
    · have hltI : (k : Int) < (n : Int) - k := by omega
      go_wp2
      go_round
      case rel =>
        obtain ⟨f, hf, he⟩ := unhide HF
        obtain ⟨g, hg, hge⟩ := split_step f k n hlt hk0 hf
        exact ⟨2 * k, by omega, by omega, by go_num, hide ⟨g, hg, hge.trans he⟩⟩
      case measure => simp [intOf]; omega
    · have hltI : ¬ (k : Int) < (n : Int) - k := by omega
      go_wp2
      go_ret
      obtain ⟨f, hf, he⟩ := unhide HF
      rw [split_exit f k n hlt] at he
      exact ⟨ret_int (by omega), rfl⟩

end Go.Proofs.YtcjlkjcadaaleaaDoor
