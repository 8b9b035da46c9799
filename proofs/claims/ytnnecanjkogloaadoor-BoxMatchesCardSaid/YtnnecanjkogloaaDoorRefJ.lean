/-
  The reference's apply of a box.
-/
import Derived.Test.YtnnecanjkogloaaDoorRefI
import Derived.Test.YtnnecanjkogloaaDoorRefH
import Derived.StillTailTactics
import Derived.Laws.MakeOwn
namespace Go.Proofs.YtnnecanjkogloaaDoor
open Go.RowKit

theorem made_u8 (n : Nat) : madeCells (Value.int .u8 0).cells n = bytesTo n [] := by
  rw [bytesTo_nil]
  show madeCells #[Value.int .u8 0] n = _
  unfold madeCells
  apply Array.ext
  · simp
  · intro i h1 h2
    simp [Nat.mod_one]
theorem make_u8 (n : Nat) (hn : n ≤ 1000000000) (w : World) : (Instr.makeSlice 22 (.int .i64 (n : Int)) (.int .i64 (n : Int))).run Tryd.prog w = .ok (.slice (some ⟨w.heap.size, 0, none⟩) n n) (w.alloc (.cells (bytesTo n []) 5)) := by
  obtain ⟨ht, ⟨i, z, hi, hz, hsize, hby, _⟩, _, _⟩ := u8_row
  have hz0 : i.zero = some (.int .u8 0) := by have := u8_zero; rw [hi] at this; simpa using this
  have := run_make (P := Tryd.prog) w 22 5 i (.int .u8 0) ht hi hz0 .i64 .i64 n n (by omega) (Int.le_refl _) (by rw [hby]; omega) (by omega)
  simp only [Int.toNat_natCast, hsize, Nat.mul_one] at this
  rw [this, made_u8]

set_option maxRecDepth 100000 in
set_option maxHeartbeats 2000000 in
theorem rapply_any (key : List UInt8) (nonce : Int) (s : ByteArray) (w : World) (hk : key.length = 16) (h1 : -9223372036854775808 ≤ nonce) (h2 : nonce < 9223372036854775808) (hs : s.size ≤ 10000) :
    Calls Tryd.prog 53 #[.agg (key.map u8v).toArray, .int .i64 nonce, .string s] w fun e w' => e = .returned (.string (strOf (applyS key nonce s.data.toList))) ∧ Ext w w' := by
  obtain ⟨arr, harr⟩ : ∃ r, (key.map u8v).toArray = r := ⟨_, rfl⟩
  have HW1 := hide (fun w => rint_any nonce w h1 h2)
  have HA := hide harr
  rw [harr]
  clear harr h1 h2
  have hasz : arr.size = 16 := by rw [← unhide HA]; simpa using hk
  obtain ⟨dk, hdk⟩ : ∃ d, keyS key nonce = d := ⟨_, rfl⟩
  have HD := hide hdk
  clear hdk
  go_enter Tryd.func53, Tryd.ntmps53
  go_upto_region 1 with fail
  have HKA := hide (reads_key (Blk.new w 32 arr) (unhide HA) hk)
  have HP := hide ((Ext.refl w).alloc (.cells arr 32))
  generalize w.alloc (.cells arr 32) = W0 at *
  have HPC := hide (fun (W4 : World) (pv : Value) (A3 : Option Addr) (c3 : Nat) (hX : Ext W0 W4) (hpv : Reads W4 1 pv 1 [.slice A3 (wInt nonce).length c3]) (hr : Reads W4 1 (.slice A3 (wInt nonce).length c3) (wInt nonce).length ((wInt nonce).map u8v)) => rderive_any key (.slice (some ⟨w.heap.size, 0, none⟩) 16 16) labEnc [wInt nonce] pv W4 ((unhide HKA).ext hX) (by omega) (by decide) ⟨[.slice A3 (wInt nonce).length c3], rfl, hpv, fun i p hp => by
    cases i with
    | zero => cases hp; exact ⟨_, rfl, hr⟩
    | succ i => simp at hp⟩ (by simp) (fun p hp => by simp at hp; subst hp; have := wInt_length nonce; omega))
  go_cut [7] (fun s8 wx => ∃ g, s8 = .pointer (some ⟨g, 0, none⟩) ∧ Hid (Blk wx g 32 ((dk.map u8v).toArray) ∧ Ext W0 wx ∧ W0.heap.size ≤ g))
  case first =>
    have HS := hide (show ((dk.map u8v).toArray).size = 16 from by rw [← unhide HD]; unfold keyS; simpa using deriveS_length _ _ _)
    go_region_law (first
      | (go_simp; go_at_call 37; refine (unhide HW1 _).mono ?_; rintro e w3 ⟨A3, c3, rfl, ho3, hE3⟩
         first
         | (have H3 := hide (show Reads w3 1 (.slice A3 (wInt nonce).length c3) (wInt nonce).length ((wInt nonce).map u8v) ∧ Ext W0 w3 ∧ True from And.intro (Reads.of_own ho3) (And.intro (((Ext.refl W0).drew).trans hE3) trivial)); clear ho3 hE3)
         | (have H3 := hide (show Reads w3 1 (.slice A3 (wInt nonce).length c3) (wInt nonce).length ((wInt nonce).map u8v) ∧ Ext W0 w3 ∧ Blk w3 W0.heap.size 32 (Array.replicate 16 (.int .u8 0)) from And.intro (Reads.of_own ho3) (And.intro ((((Ext.refl W0).drew).alloc _).trans hE3) ((Blk.new W0.drew _ _).ext hE3))); clear ho3 hE3))
      | (rename_i K hK; go_simp; go_at_call 28; refine (unhide HPC _ _ A3 c3 ?_ ?_ ?_).mono ?_
         (focus (first | exact (unhide H3).2.1.alloc _ | exact ((unhide H3).2.1.alloc _).alloc _))
         (focus (first | exact Reads.new1 _ _ _ | exact (Reads.new1 _ _ _).ext ((Ext.refl _).alloc _) | (have h := Reads.new1 (w3.alloc (.cells (Array.replicate 16 (.int .u8 0)) 32)) (.slice A3 (wInt nonce).length c3) 22; rw [World.size_alloc] at h; exact h)))
         (focus (first | exact (unhide H3).1.ext ((Ext.refl _).alloc _) | exact (unhide H3).1.ext (((Ext.refl _).alloc _).alloc _)))
         rintro e w5 ⟨rfl, hE5⟩
         rw [show deriveS key labEnc.data.toList [wInt nonce] = dk from unhide HD]
         have H5 := hide (show Ext W0 w5 ∧ Ext _ w5 from And.intro (by first | exact ((unhide H3).2.1.alloc _).trans hE5 | exact (((unhide H3).2.1.alloc _).alloc _).trans hE5) hE5)
         clear hE5
         dsimp only
         refine hK _ _ ?_
         clear hK K
         first
         | (refine wpAny_ready (rs := [5]) (by kernel_rfl) (by simp) (AllReady.cons rfl (fun J hJ => ?_) AllReady.nil)
            rw [if_pos (by rfl)]
            go_simp
            refine hJ _ _ ?_
            clear hJ J
            refine wpAny_ready (rs := [6]) (by kernel_rfl) (by simp) (AllReady.cons rfl (fun J hJ => ?_) AllReady.nil)
            refine step_storeB (ty := 32) (t := 32) (x := .tmp 7) (y := .tmp 15) rfl rfl digest_wide rfl rfl (Blk.new w5 _ _) ?_ ?_ ?_ ?_
            · rfl
            · exact unhide HS
            · exact bytes_one _
            intro w7 hb7 hc7 hz7
            have H7 := hide (And.intro hb7 (And.intro (((unhide H5).1.alloc _).trans' hc7 (fun _ _ h => h) (fun i hi e => by have := (unhide H5).1.size'; omega)) (unhide H5).1.size'))
            clear hb7 hc7 hz7
            refine hJ _ _ ?_
            clear hJ J)
         | (refine wpAny_ready (rs := [6]) (by kernel_rfl) (by simp) (AllReady.cons rfl (fun J hJ => ?_) AllReady.nil)
            have hz3 := (unhide H3).2.1.size'
            refine step_storeB (ty := 32) (t := 32) (x := .tmp 7) (y := .tmp 15) (old := Array.replicate 16 (.int .u8 0)) rfl rfl digest_wide rfl rfl ?_ ?_ ?_ ?_ ?_
            · first | exact (((unhide H3).2.2).alloc _).ext (unhide H5).2 | exact ((Blk.new w3 _ _).alloc _).ext (unhide H5).2 | exact (Blk.new' (w3.alloc _) _ _ (by simp)).ext (unhide H5).2
            · rfl
            · exact unhide HS
            · exact bytes_one _
            intro w7 hb7 hc7 hz7
            have H7 := hide (And.intro hb7 (And.intro ((unhide H5).1.trans' hc7 (fun _ _ h => h) (fun i hi e => by omega)) (show W0.heap.size ≤ _ by omega)))
            clear hb7 hc7 hz7 hz3
            refine hJ _ _ ?_
            clear hJ J)))
    all_goals
      go_wp2_with fail
      go_meet
      exact ⟨_, rfl, hide ⟨(unhide H7).1, (unhide H7).2.1, by have := (unhide H7).2.2; omega⟩⟩
  case rest =>
    obtain ⟨g8, rfl, H8⟩ := hcut
    have HS := hide (show ((dk.map u8v).toArray).size = 16 ∧ dk.length = 16 from by rw [← unhide HD]; unfold keyS; exact ⟨by simpa using deriveS_length _ _ _, deriveS_length _ _ _⟩)
    obtain ⟨wc', rfl⟩ : ∃ x : World, x = wc := ⟨_, rfl⟩
    go_wp2_with fail
    refine (rstream_pos dk _ s.size _ (reads_key (unhide H8).1 rfl (unhide HS).2) (by have := (unhide HS).2; omega) (by omega)).mono ?_
    rintro e w9 ⟨A9, c9, rfl, hr9, hE9⟩
    have H9 := hide (And.intro hr9 (((unhide HP).trans (unhide H8).2.1).trans hE9))
    clear hr9 hE9 H8
    have hmk := make_u8 s.size (by omega)
    go_wp2
    clear hmk
    obtain ⟨ap, hap⟩ : ∃ l, applyS key nonce s.data.toList = l := ⟨_, rfl⟩
    obtain ⟨st, hst⟩ : ∃ l, streamS dk (s.size : Int) = l := ⟨_, rfl⟩
    have hstl : st.length = s.size := by rw [← hst, streamS_length]; simp
    have hapl : ap.length = s.size := by rw [← hap, applyS_length]; exact Array.length_toList
    have HAP := hide (show ap = List.zipWith (· ^^^ ·) s.data.toList st from by rw [← hap, ← hst, ← unhide HD]; unfold applyS; rw [Array.length_toList]; rfl)
    have HAE := hide hap
    rw [hst] at H9
    have HL := hide (And.intro hstl hapl)
    clear hap hst hstl hapl
    go_loopw [10] (fun i wr => ∃ k : Nat, k ≤ s.size ∧ i = .int .i64 k ∧ Hid (Blk wr w9.heap.size 5 (bytesTo s.size (ap.take k)) ∧ Ext w9 wr)) (fun i _ => s.size - (intOf i).toNat)
    case atStart => exact ⟨0, Nat.zero_le _, rfl, hide ⟨Blk.new _ _ _, (Ext.refl w9).alloc _⟩⟩
    case round =>
      obtain ⟨k, hk', rfl, HI⟩ := hrel
      by_cases hlt : k < s.size
      · have g1 : decide (k < s.size) = true := decide_eq_true hlt
        have hr := (unhide H9).1.ext (unhide HI).2
        obtain ⟨b, o, c, u, e, -, -, -, -, -⟩ := hr.at1 hlt
        cases e
        have c1 := hr.byteAt (j := k) (by rw [(unhide HL).1]; exact hlt)
        have c2 : wr.cell? ⟨w9.heap.size, k, none⟩ = some (.int .u8 0) := by
          rw [(unhide HI).1.cell]
          exact bytesTo_zero_at (by rw [List.length_take]; omega) hlt
        have f2 := (unhide HI).1.frozen k
        clear hr
        obtain ⟨z, hz⟩ : ∃ z, s[k] ^^^ st.getD k 0 = z := ⟨_, rfl⟩
        have hxx : bits BinOp.xor IntKind.u8 (s[k].toNat : Int) ((st.getD k 0).toNat : Int) = (z.toNat : Int) := by rw [xor8, hz]
        have HT := hide (show ap.take (k + 1) = ap.take k ++ [z] from by
          rw [take_step ap k (by rw [(unhide HL).2]; exact hlt)]
          have : ap[k]'(by rw [(unhide HL).2]; exact hlt) = z := by
            have h1 : ap[k]? = some z := by
              rw [unhide HAP, List.getElem?_zipWith, List.getElem?_eq_getElem (show k < st.length by rw [(unhide HL).1]; exact hlt), Array.getElem?_toList, Array.getElem?_eq_getElem (show k < s.data.size from hlt), ← hz, List.getD_eq_getElem?_getD, List.getElem?_eq_getElem (show k < st.length by rw [(unhide HL).1]; exact hlt)]
              rfl
            rw [List.getElem?_eq_getElem (by rw [(unhide HL).2]; exact hlt)] at h1
            injection h1
          rw [this])
        have HKL := hide (show (ap.take k).length = k from by rw [List.length_take, (unhide HL).2]; omega)
        clear hz
        generalize st.getD k 0 = y at *
        have p1 : (0 : Int) ≤ (k : Int) := by omega
        have p2 : (k : Int) < (s.size : Int) := by omega
        go_upto_region 7 with fail
        go_still_tail 11, (by kernel_rfl)
        clear c1
        change wpList _ _ _ _ _ wr.drew
        go_wp2
        go_roundw
        case rel =>
          have h1 := ((unhide HI).1.set_ k (.int .u8 (z.toNat : Int))).drew
          rw [bytesTo_set _ (unhide HKL) hlt, ← unhide HT] at h1
          exact ⟨k + 1, by omega, by go_num, hide ⟨h1, ((unhide HI).2.setCell (by simp) _).drew⟩⟩
        case measure => simp [intOf]; omega
      · obtain rfl : k = s.size := by omega
        have g1 : decide (s.size < s.size) = false := decide_eq_false (by omega)
        have HRD := hide (show Reads wr 1 (.slice (some ⟨w9.heap.size, 0, none⟩) s.size s.size) s.size (ap.map byteV) from by
          have h1 := (unhide HI).1
          rw [List.take_of_length_le (by rw [(unhide HL).2]; omega), bytesTo_all (unhide HL).2] at h1
          have := Reads.of_blk h1 (i := 0) (n := s.size) (c := s.size) (by simp [(unhide HL).2]) (by omega) (by unfold maxLen; omega)
          simp only [List.drop_zero] at this
          rw [List.take_of_length_le (by rw [List.length_map, (unhide HL).2]; omega)] at this
          exact this)
        go_wp2_with (refine wpList_strOf (src := 22) (dst := 9) (x := .tmp 40) (l := ap) rfl rfl Tryd.underlying22 Tryd.underlying5 Tryd.underlying9 rfl (unhide HRD) ?_)
        go_ret
        exact ⟨by rw [unhide HAE]; rfl, (unhide H9).2.trans (unhide HI).2⟩

end Go.Proofs.YtnnecanjkogloaaDoor
