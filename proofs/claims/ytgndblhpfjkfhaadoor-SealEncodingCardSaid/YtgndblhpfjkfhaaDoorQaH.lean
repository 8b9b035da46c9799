/-
  Several texts in one file: each has its own heading below.
-/
import Derived.Test.YtgndblhpfjkfhaaDoorQaG
import Derived.Defers
import Derived.Deep.CutRange
import Derived.Deep.RegionHeld3
import Derived.ChangeKeysEq
import Derived.Lib.SlBytesConst
import Derived.Test.YtgndblhpfjkfhaaDoorQaA
import Derived.StillTail
import Derived.RegionTactic

/-
  box.apply.
-/
namespace Go.Proofs.YtgndblhpfjkfhaaDoor
open Go.RowKit

def keyS (key : List UInt8) (nonce : Int) : List UInt8 := deriveS key labEnc.data.toList [wInt nonce]
def applyS (key : List UInt8) (nonce : Int) (s : List UInt8) : List UInt8 := List.zipWith (· ^^^ ·) s (streamS (keyS key nonce) s.length)

def mixS (s x : List UInt8) (k : Nat) : List UInt8 := (List.zipWith (· ^^^ ·) s x).take k ++ s.drop k
theorem mixS_zero (s x : List UInt8) : mixS s x 0 = s := by unfold mixS; simp
theorem mixS_end (s x : List UInt8) (h : x.length = s.length) : mixS s x s.length = List.zipWith (· ^^^ ·) s x := by
  unfold mixS
  rw [List.drop_length, List.append_nil, List.take_of_length_le (by rw [List.length_zipWith]; omega)]
theorem mixS_length (s x : List UInt8) (k : Nat) (h : x.length = s.length) (hk : k ≤ s.length) : (mixS s x k).length = s.length := by
  unfold mixS
  rw [List.length_append, List.length_take, List.length_zipWith, List.length_drop]
  omega
theorem mixS_at (s x : List UInt8) (k : Nat) (h : x.length = s.length) (hk : k < s.length) : (mixS s x k)[k]? = some s[k] := by
  unfold mixS
  rw [List.getElem?_append_right (by rw [List.length_take]; omega), List.length_take, List.length_zipWith, List.getElem?_drop, show min k (min s.length x.length) = k from by omega, Nat.sub_self, Nat.add_zero, List.getElem?_eq_getElem hk]
theorem mixS_step (s x : List UInt8) (k : Nat) (h : x.length = s.length) (hk : k < s.length) : mixS s x (k + 1) = (mixS s x k).set k (s[k] ^^^ x[k]) := by
  apply List.ext_getElem?
  intro i
  unfold mixS
  rw [List.getElem?_set]
  have hl : ((List.zipWith (· ^^^ ·) s x).take k).length = k := by rw [List.length_take, List.length_zipWith]; omega
  have hl' : ((List.zipWith (· ^^^ ·) s x).take (k + 1)).length = k + 1 := by rw [List.length_take, List.length_zipWith]; omega
  rw [List.getElem?_append, List.getElem?_append, hl, hl', List.length_append, hl, List.length_drop]
  by_cases h1 : i < k
  · rw [if_pos (by omega), if_neg (by omega), if_pos h1, List.getElem?_take, List.getElem?_take, if_pos (by omega), if_pos h1]
  · by_cases h2 : k = i
    · subst h2
      rw [if_pos (by omega), if_pos rfl, if_pos (by omega), List.getElem?_take, if_pos (by omega), List.getElem?_zipWith, List.getElem?_eq_getElem hk, List.getElem?_eq_getElem (by omega)]
    · rw [if_neg (by omega), if_neg h2, if_neg h1, List.getElem?_drop, List.getElem?_drop]
      congr 1
      omega

/-- The deferred closure: the result is the bytes at hand. -/
theorem applyD (l : List UInt8) (v o : Value) (g7 g6 : Nat) (u : FrameMode) (w : World) (h7 : w.cell? ⟨g7, 0, none⟩ = some v) (h6 : w.cell? ⟨g6, 0, none⟩ = some o) (f6 : w.frozen? ⟨g6, 0, none⟩ = false) (hr : Reads w 1 v l.length (l.map u8v)) :
    CallsD Tryd.prog 93 #[.pointer (some ⟨g7, 0, none⟩), .pointer (some ⟨g6, 0, none⟩)] u w fun e u' w' => u' = u ∧ (e = .returned (.tuple #[]) ∧ w' = w.setCell ⟨g6, 0, none⟩ (.string (strOf l))) := by
  have hc := run_str_of (P := Tryd.prog) (w := w) Tryd.underlying29 Tryd.underlying5 Tryd.underlying9 hr
  obtain ⟨A, c, rfl⟩ : ∃ A c, v = .slice A l.length c := by obtain ⟨_, A, c, h, _⟩ := hr; exact ⟨A, c, h⟩
  go_enter_d Tryd.func93, Tryd.ntmps93
  go_wp2
  go_end0
  exact ⟨rfl, rfl⟩

set_option maxRecDepth 100000 in
set_option maxHeartbeats 2000000 in
theorem apply_any (key : List UInt8) (nonce : Int) (s : ByteArray) (w : World) (hM : ShaMem w) (hk : key.length = 16) (h1 : -9223372036854775808 ≤ nonce) (h2 : nonce < 9223372036854775808) (hs : s.size ≤ 100000) :
    Calls Tryd.prog 51 #[.agg (key.map u8v).toArray, .int .i64 nonce, .string s] w fun e w' => e = .returned (.string (strOf (applyS key nonce s.data.toList))) ∧ Ext w w' := by
  obtain ⟨arr, harr⟩ : ∃ r, (key.map u8v).toArray = r := ⟨_, rfl⟩
  have HM := hide hM
  have HW1 := hide (fun w => wint_any nonce w h1 h2)
  have HA := hide harr
  rw [harr]
  clear harr hM h1 h2
  have hasz : arr.size = 16 := by rw [← unhide HA]; simpa using hk
  have hmf : ∀ (fn : Fn) (first cap : Array Value) (w : World), (Instr.makeFunc fn first cap).run Tryd.prog w = .ok (.func fn first cap) w := fun _ _ _ _ => rfl
  go_enter_defers Tryd.func51, Tryd.ntmps51
  go_wp2_with (refine wpList_bytesOf rfl rfl Tryd.underlying9 Tryd.underlying29 Tryd.underlying5 rfl (by unfold maxLen; omega) ?_; intro c1 w1 hr1 hE1 hf1; have H1 := hide (And.intro hr1 (And.intro hE1 hf1)); clear hr1 hE1 hf1)
  have hsz1 : w.heap.size + 2 ≤ w1.heap.size := by have h2 := (unhide H1).2.1.size'; simp at h2; omega
  have HRB := hide (show Reads (w1.alloc (.cells #[.slice (some ⟨w.heap.size + 1 + 1, 0, none⟩) s.size c1] 29)) 1 (.slice (some ⟨w.heap.size + 1 + 1, 0, none⟩) s.size c1) s.size (s.data.toList.map byteV) ∧ ∀ i, i < s.size → (w1.alloc (.cells #[.slice (some ⟨w.heap.size + 1 + 1, 0, none⟩) s.size c1] 29)).frozen? ⟨w.heap.size + 1 + 1, i, none⟩ = false from by
    have h1 := (unhide H1).1
    have h3 := (unhide H1).2.2
    simp only [World.size_alloc] at h1 h3
    refine ⟨h1.ext ((Ext.refl w1).alloc _), fun i hi => ?_⟩
    obtain ⟨_, hc⟩ : ∃ u, w1.cell? ⟨w.heap.size + 1 + 1, i, none⟩ = some u := by
      obtain ⟨b, o, c, u, hv, _, _, _, _, hcc⟩ := h1.at1 hi
      cases hv
      exact ⟨u, by simpa using hcc⟩
    exact Ext.frozenv ((Ext.refl w1).alloc _) (h3 i hi) (lt_of_cell hc))
  have HB6 := hide (show Blk (w1.alloc (.cells #[.slice (some ⟨w.heap.size + 1 + 1, 0, none⟩) s.size c1] 29)) (w.heap.size + 1) 9 #[.string { data := #[] }] from ((Blk.new' (w.alloc (.cells arr 23)) _ _ (by simp)).ext (unhide H1).2.1).alloc _)
  have HB7 := hide (show Blk (w1.alloc (.cells #[.slice (some ⟨w.heap.size + 1 + 1, 0, none⟩) s.size c1] 29)) w1.heap.size 29 #[.slice (some ⟨w.heap.size + 1 + 1, 0, none⟩) s.size c1] from Blk.new _ _ _)
  have HBA := hide (show Blk (w1.alloc (.cells #[.slice (some ⟨w.heap.size + 1 + 1, 0, none⟩) s.size c1] 29)) w.heap.size 23 arr from ((((Blk.new w _ arr).alloc _).ext (unhide H1).2.1).alloc _))
  have HP := hide (show Ext w (w1.alloc (.cells #[.slice (some ⟨w.heap.size + 1 + 1, 0, none⟩) s.size c1] 29)) from ((((Ext.refl w).alloc _).alloc _).trans (unhide H1).2.1).alloc _)
  generalize hW0 : (w1.alloc (.cells #[.slice (some ⟨w.heap.size + 1 + 1, 0, none⟩) s.size c1] 29)) = W0
  rw [hW0] at HP HRB HB6 HB7 HBA
  obtain ⟨dk, hdk⟩ : ∃ d, keyS key nonce = d := ⟨_, rfl⟩
  have HD := hide hdk
  have HKA := hide (show Reads W0 1 (.slice (some ⟨w.heap.size, 0, none⟩) 16 16) key.length (key.map u8v) from by
    have := Reads.of_blk (unhide HBA) (i := 0) (n := 16) (c := 16) (by omega) (by omega) (by unfold maxLen; omega)
    rw [← unhide HA] at this
    simp only [List.drop_zero] at this
    rw [List.take_of_length_le (by rw [List.length_map]; omega)] at this
    rw [hk]
    exact this)
  clear hdk
  have HPC := hide (fun (W4 : World) (pv : Value) (A3 : Option Addr) (c3 : Nat) (hX : Ext W0 W4) (hpv : Reads W4 1 pv 1 [.slice A3 (wInt nonce).length c3]) (hr : Reads W4 1 (.slice A3 (wInt nonce).length c3) (wInt nonce).length ((wInt nonce).map u8v)) => derive_any key (.slice (some ⟨w.heap.size, 0, none⟩) 16 16) labEnc [wInt nonce] pv W4 ((unhide HM).ext ((unhide HP).trans hX)) ((unhide HKA).ext hX) (by omega) (by decide) ⟨[.slice A3 (wInt nonce).length c3], rfl, hpv, fun i p hp => by
    cases i with
    | zero => cases hp; exact ⟨_, rfl, hr⟩
    | succ i => simp at hp⟩ (by simp) (fun p hp => by simp at hp; subst hp; have := wInt_length nonce; omega))
  go_cut [8] from 14 to 18 (fun s8 wx => ∃ g, s8 = .pointer (some ⟨g, 0, none⟩) ∧ Hid (Blk wx g 23 ((dk.map u8v).toArray) ∧ Ext W0 wx ∧ W0.heap.size ≤ g))
  case first =>
    have HS := hide (show ((dk.map u8v).toArray).size = 16 from by rw [← unhide HD]; unfold keyS; simpa using deriveS_length _ _ _)
    refine wp_region_noPanic ?_
    go_region_law (first
      | (go_simp; go_at_call 17; refine (unhide HW1 _).mono ?_; rintro e w3 ⟨A3, c3, rfl, ho3, hE3⟩
         first
         | (have H3 := hide (show Reads w3 1 (.slice A3 (wInt nonce).length c3) (wInt nonce).length ((wInt nonce).map u8v) ∧ Ext W0 w3 ∧ True from And.intro (Reads.of_own ho3) (And.intro (((Ext.refl W0).drew).trans hE3) trivial)); clear ho3 hE3)
         | (have H3 := hide (show Reads w3 1 (.slice A3 (wInt nonce).length c3) (wInt nonce).length ((wInt nonce).map u8v) ∧ Ext W0 w3 ∧ Blk w3 W0.heap.size 23 (Array.replicate 16 (.int .u8 0)) from And.intro (Reads.of_own ho3) (And.intro ((((Ext.refl W0).drew).alloc _).trans hE3) ((Blk.new W0.drew _ _).ext hE3))); clear ho3 hE3))
      | (rename_i K hK; go_simp; go_at_call 15; refine (unhide HPC _ _ A3 c3 ?_ ?_ ?_).mono ?_
         (focus (first | exact (unhide H3).2.1.alloc _ | exact ((unhide H3).2.1.alloc _).alloc _))
         (focus (first | exact Reads.new1 _ _ _ | exact (Reads.new1 _ _ _).ext ((Ext.refl _).alloc _) | (have h := Reads.new1 (w3.alloc (.cells (Array.replicate 16 (.int .u8 0)) 23)) (.slice A3 (wInt nonce).length c3) 29; rw [World.size_alloc] at h; exact h)))
         (focus (first | exact (unhide H3).1.ext ((Ext.refl _).alloc _) | exact (unhide H3).1.ext (((Ext.refl _).alloc _).alloc _)))
         rintro e w5 ⟨rfl, hE5⟩
         rw [show deriveS key labEnc.data.toList [wInt nonce] = dk from unhide HD]
         have H5 := hide (show Ext W0 w5 ∧ Ext _ w5 from And.intro (by first | exact ((unhide H3).2.1.alloc _).trans hE5 | exact (((unhide H3).2.1.alloc _).alloc _).trans hE5) hE5)
         clear hE5
         dsimp only
         refine hK _ _ ?_
         clear hK K
         first
         | (refine wpAny_ready (rs := [5]) (by kernel_rfl) (by simp) (AllReady.cons rfl (fun J hJ => ?_) AllReady.nil)
            rw [if_pos (by rfl)]
            go_simp
            refine hJ _ _ ?_
            clear hJ J
            refine wpAny_ready (rs := [6]) (by kernel_rfl) (by simp) (AllReady.cons rfl (fun J hJ => ?_) AllReady.nil)
            refine step_storeB (ty := 23) (t := 23) (x := .tmp 8) (y := .tmp 18) rfl rfl digest_wide rfl rfl (Blk.new w5 _ _) ?_ ?_ ?_ ?_
            · rfl
            · exact unhide HS
            · exact bytes_one _
            intro w7 hb7 hc7 hz7
            have H7 := hide (And.intro hb7 (And.intro (((unhide H5).1.alloc _).trans' hc7 (fun _ _ h => h) (fun i hi e => by have := (unhide H5).1.size'; omega)) (unhide H5).1.size'))
            clear hb7 hc7 hz7
            refine hJ _ _ ?_
            clear hJ J)
         | (refine wpAny_ready (rs := [6]) (by kernel_rfl) (by simp) (AllReady.cons rfl (fun J hJ => ?_) AllReady.nil)
            have hz3 := (unhide H3).2.1.size'
            refine step_storeB (ty := 23) (t := 23) (x := .tmp 8) (y := .tmp 18) (old := Array.replicate 16 (.int .u8 0)) rfl rfl digest_wide rfl rfl ?_ ?_ ?_ ?_ ?_
            · first | exact (((unhide H3).2.2).alloc _).ext (unhide H5).2 | exact ((Blk.new w3 _ _).alloc _).ext (unhide H5).2 | exact (Blk.new' (w3.alloc _) _ _ (by simp)).ext (unhide H5).2
            · rfl
            · exact unhide HS
            · exact bytes_one _
            intro w7 hb7 hc7 hz7
            have H7 := hide (And.intro hb7 (And.intro ((unhide H5).1.trans' hc7 (fun _ _ h => h) (fun i hi e => by omega)) (show W0.heap.size ≤ _ by omega)))
            clear hb7 hc7 hz7 hz3
            refine hJ _ _ ?_
            clear hJ J)))
    all_goals
      refine NoPanic.normal ?_
      go_wp2_with fail
      go_meet
      exact ⟨_, rfl, hide ⟨(unhide H7).1, (unhide H7).2.1, by have := (unhide H7).2.2; omega⟩⟩
  case rest =>
    obtain ⟨g8, rfl, H8⟩ := hcut
    have HS := hide (show ((dk.map u8v).toArray).size = 16 ∧ dk.length = 16 from by rw [← unhide HD]; unfold keyS; exact ⟨by simpa using deriveS_length _ _ _, deriveS_length _ _ _⟩)
    have c7 := ((unhide HB7).ext (unhide H8).2.1).cell 0
    have HQ := hide (fun (W : World) (hE : Ext wc W) => stream_pos dk (.slice (some ⟨g8, 0, none⟩) 16 16) s.size W ((unhide HM).ext (((unhide HP).trans (unhide H8).2.1).trans hE)) (by
      have := Reads.of_blk ((unhide H8).1.ext hE) (i := 0) (n := 16) (c := 16) (by rw [(unhide HS).1]; omega) (by omega) (by unfold maxLen; omega)
      simp only [List.drop_zero] at this
      rw [List.take_of_length_le (by rw [List.length_map, (unhide HS).2]; omega)] at this
      rw [(unhide HS).2]
      exact this) (by have := (unhide HS).2; omega) (by omega))
    go_upto_region 4 with fail
    refine wp_region_noPanic ?_
    go_region_law (first
      | (go_simp; go_at_call 94; refine (unhide HQ _ ((Ext.refl wc).drew)).mono ?_; rintro e w9 ⟨A9, c9, rfl, ho9, hE9⟩
         have H9 := hide (And.intro ho9 (((Ext.refl wc).drew).trans hE9))
         clear ho9 hE9))
    refine NoPanic.normal ?_
    obtain ⟨x, hx⟩ : ∃ x, streamS dk s.size = x := ⟨_, rfl⟩
    have HX := hide hx
    rw [hx] at H9
    obtain ⟨sl, hsl⟩ : ∃ l, s.data.toList = l := ⟨_, rfl⟩
    have hsz : sl.length = s.size := by rw [← hsl, Array.length_toList]; rfl
    have hsW : W0.heap.size = w1.heap.size + 1 := by rw [← hW0]; simp
    have E9 : Ext W0 w9 := (unhide H8).2.1.trans (unhide H9).2
    have hxl : x.length = sl.length := by have := (unhide H9).1.1; rw [List.length_map] at this; omega
    have HSL := hide hsl
    rw [hsl] at HRB
    clear hx c7
    go_wp2
    go_simp
    go_loopw [24] (fun i wr => ∃ k : Nat, k ≤ s.size ∧ i = .int .i64 k ∧ Hid (Reads wr 1 (.slice (some ⟨w.heap.size + 1 + 1, 0, none⟩) s.size c1) s.size ((mixS sl x k).map u8v) ∧ (∀ i, i < s.size → wr.frozen? ⟨w.heap.size + 1 + 1, i, none⟩ = false) ∧ Blk wr w1.heap.size 29 #[.slice (some ⟨w.heap.size + 1 + 1, 0, none⟩) s.size c1] ∧ Blk wr (w.heap.size + 1) 9 #[.string { data := #[] }] ∧ Chg (fun b => b = w.heap.size + 1 + 1) w9 wr)) (fun i _ => s.size - (intOf i).toNat)
    case atStart => exact ⟨0, Nat.zero_le _, rfl, hide ⟨by rw [mixS_zero]; exact (unhide HRB).1.ext E9, fun i hi => Ext.frozenv E9 ((unhide HRB).2 i hi) (by show w.heap.size + 1 + 1 < _; omega), (unhide HB7).ext E9, (unhide HB6).ext E9, Chg.refl _ _⟩⟩
    case round =>
      obtain ⟨k, hk, rfl, HI⟩ := hrel
      by_cases hlt : k < s.size
      · obtain ⟨b, o, c', u, hv, _, _, hb, hu, hcc⟩ := (unhide HI).1.at1 hlt
        cases hv
        rw [List.getElem?_map, mixS_at sl x k hxl (by omega)] at hu
        cases hu
        have hOX := ownsRow_chg (unhide H9).1 (unhide HI).2.2.2.2 (fun j hj e => by have h1 := ((unhide H9).1.lt j hj).1; have h2 := (unhide H8).2.1.size'; simp at h1; omega)
        obtain ⟨b, o, c', u, hv, _, _, hb', hu, hcx⟩ := (Reads.of_own hOX).at1 hlt
        cases hv
        rw [List.getElem?_map, List.getElem?_eq_getElem (show k < x.length by omega)] at hu
        cases hu
        clear hOX
        have hw12 : ¬ w1.heap.size = w.heap.size + 1 + 1 := by have := (unhide H1).1.own_lt (by omega) (by omega) _ rfl; simp at this; omega
        have c7 := (unhide HI).2.2.1.cell 0
        have hf := (unhide HI).2.1 k hlt
        have HS2 := hide (mixS_step sl x k hxl (by omega))
        rw [Nat.zero_add] at hcc
        unfold u8v at hcc hcx
        generalize sl[k] = y at *
        generalize x[k] = z at *
        have HX2 := hide (xor8 y z)
        go_wp2
        go_roundw
        case rel =>
          refine ⟨k + 1, by omega, by go_num, hide ⟨?_, fun i hi => by rw [World.frozen?_setCell]; exact (unhide HI).2.1 i hi, (unhide HI).2.2.1.far' hw12 k _, (unhide HI).2.2.2.1.far' (by omega) k _, (unhide HI).2.2.2.2.setCell (p := ⟨w.heap.size + 1 + 1, k, none⟩) (.inl rfl) _⟩⟩
          rw [unhide HS2, List.map_set]
          have := (unhide HI).1.set (k := k) (by omega) (u8v (y ^^^ z))
          rw [unhide HX2]
          exact this
        case measure => simp [intOf]; omega
      · obtain rfl : k = s.size := by omega
        have hA : applyS key nonce s.data.toList = mixS sl x s.size := by
          unfold applyS
          rw [unhide HD, unhide HSL, hsz, unhide HX, ← hsz, mixS_end _ _ hxl]
        have hAl : (applyS key nonce s.data.toList).length = s.size := by rw [hA, mixS_length _ _ _ hxl (by omega), hsz]
        have hfin : Reads wr 1 (.slice (some ⟨w.heap.size + 1 + 1, 0, none⟩) s.size c1) (applyS key nonce s.data.toList).length ((applyS key nonce s.data.toList).map u8v) := by rw [hAl, hA]; exact (unhide HI).1
        have HF := hide hfin
        have hw12 := hsz1
        clear hA hAl hfin
        go_wp2
        refine leaves_cons (f := 93) (args := #[.pointer (some ⟨w1.heap.size, 0, none⟩), .pointer (some ⟨w.heap.size + 1, 0, none⟩)]) (by simp) (by simp [go_sem]) ?_
        refine (applyD (applyS key nonce s.data.toList) _ _ _ _ .returning _ ((unhide HI).2.2.1.cell 0) ((unhide HI).2.2.2.1.cell 0) ((unhide HI).2.2.2.1.frozen 0) (unhide HF)).mono ?_
        rintro e u' w'' ⟨rfl, rfl, rfl⟩
        have hc6 : (wr.setCell ⟨w.heap.size + 1, 0, none⟩ (.string (strOf (applyS key nonce s.data.toList)))).cell? ⟨w.heap.size + 1, 0, none⟩ = some (.string (strOf (applyS key nonce s.data.toList))) := World.cell?_setCell_same' _ _ _ (by rw [(unhide HI).2.2.2.1.cell 0]; rfl)
        have hE : Ext w (wr.setCell ⟨w.heap.size + 1, 0, none⟩ (.string (strOf (applyS key nonce s.data.toList)))) := ((unhide HP).trans E9).trans' ((Chg.mono (T := fun b => b = w.heap.size + 1 + 1 ∨ b = w.heap.size + 1) (unhide HI).2.2.2.2 (fun _ _ h => .inl h)).setCell (p := ⟨w.heap.size + 1, 0, none⟩) (.inl (.inr rfl)) _) (fun _ _ h => h.elim) (fun i hi e => by omega)
        simp [Leaves, settle, results, Tryd.results51, go_sem, hc6]
        exact hE

end Go.Proofs.YtgndblhpfjkfhaaDoor

/-
  box.Seal, box.Open.
-/
namespace Go.Proofs.YtgndblhpfjkfhaaDoor
open Go.RowKit

theorem box_wide : Wide Tryd.prog 27 18 := ⟨⟨_, Tryd.underlying27, rfl⟩, by kernel_rfl⟩
/-- A box's cells. -/
def boxV (n : Int) (c : ByteArray) (t : List UInt8) : Array Value := (Value.int .i64 n :: Value.string c :: t.map u8v).toArray
theorem applyS_length (key : List UInt8) (nonce : Int) (s : List UInt8) : (applyS key nonce s).length = s.length := by
  unfold applyS
  rw [List.length_zipWith, streamS_length]
  simp

theorem list16 {l : List UInt8} (h : l.length = 16) : ∃ t0 t1 t2 t3 t4 t5 t6 t7 t8 t9 t10 t11 t12 t13 t14 t15, l = [t0, t1, t2, t3, t4, t5, t6, t7, t8, t9, t10, t11, t12, t13, t14, t15] := by
  match l, h with
  | [t0, t1, t2, t3, t4, t5, t6, t7, t8, t9, t10, t11, t12, t13, t14, t15], _ => exact ⟨t0, t1, t2, t3, t4, t5, t6, t7, t8, t9, t10, t11, t12, t13, t14, t15, rfl⟩

set_option maxRecDepth 100000 in
set_option maxHeartbeats 2000000 in
theorem seal_any (key : List UInt8) (nonce : Int) (s : ByteArray) (w : World) (hM : ShaMem w) (hk : key.length = 16) (h1 : -9223372036854775808 ≤ nonce) (h2 : nonce < 9223372036854775808) (hs : s.size ≤ 100000) :
    Calls Tryd.prog 13 #[.agg (key.map u8v).toArray, .int .i64 nonce, .string s] w fun e w' => e = .returned (.agg (boxV nonce (strOf (applyS key nonce s.data.toList)) (tagS key nonce (applyS key nonce s.data.toList)))) ∧ Ext w w' := by
  obtain ⟨arr, harr⟩ : ∃ r, (key.map u8v).toArray = r := ⟨_, rfl⟩
  have HM := hide hM
  have HAp := hide (fun W hW => apply_any key nonce s W hW hk h1 h2 hs)
  rw [harr] at HAp ⊢
  have hasz : arr.size = 16 := by rw [← harr]; simpa using hk
  have h1c : arr.all (·.oneCell') = true := by rw [← harr]; exact bytes_one _
  have HA := hide harr
  clear hM harr
  go_enter Tryd.func13, Tryd.ntmps13
  obtain ⟨cs, hcs⟩ : ∃ c, strOf (applyS key nonce s.data.toList) = c := ⟨_, rfl⟩
  have hcl : cs.data.toList = applyS key nonce s.data.toList := by rw [← hcs]; exact strOf_list _
  have hcz : cs.size ≤ 100000 := by have h : cs.data.toList.length = s.data.toList.length := by rw [hcl, applyS_length]
                                    rw [Array.length_toList, Array.length_toList] at h
                                    have h2 : cs.size = s.size := h
                                    omega
  have HTg := hide (fun W hW => tag_any key nonce cs W hW hk h1 h2 hcz)
  rw [unhide HA, hcl] at HTg
  rw [hcs] at HAp ⊢
  have HTL := hide (tagS_length key nonce (applyS key nonce s.data.toList))
  generalize tagS key nonce (applyS key nonce s.data.toList) = tg at *
  clear hcs hcl
  obtain ⟨t0, t1, t2, t3, t4, t5, t6, t7, t8, t9, t10, t11, t12, t13, t14, t15, rfl⟩ := list16 (unhide HTL)
  go_wp2_with (first
    | (refine wpList_loadB (x := .tmp 3) rfl rfl digest_wide rfl (cs := arr) (g := w.heap.size) (by first | exact (Blk.new w _ _).alloc _ | assumption) hasz ?_)
    | (go_at_call 51; refine (unhide HAp _ ((unhide HM).ext (((Ext.refl w).alloc _).alloc _))).mono ?_; rintro e w1 ⟨rfl, hE1⟩
       have hba : Blk w1 w.heap.size 23 arr := ((Blk.new w _ _).alloc _).ext hE1
       have hbb := (Blk.new' (g := w.heap.size + 1) (w.alloc (.cells arr 23)) _ _ (by simp)).ext hE1
       have H1 := hide (show Ext w w1 ∧ Blk w1 (w.heap.size + 1) 27 (#[.int .i64 0, .string { data := #[] }] ++ Array.replicate 16 (.int .u8 0)) from And.intro ((((Ext.refl w).alloc _).alloc _).trans hE1) hbb); clear hE1 hbb)
    | (go_at_call 52; refine (unhide HTg _ ((unhide HM).ext (unhide H1).1)).mono ?_; rintro e w2 ⟨rfl, hE2⟩; have H2 := hide (And.intro ((unhide H1).1.trans hE2) ((unhide H1).2.ext hE2)); clear hE2)
    | (refine wpList_storeB (ty := 27) (t := 27) (x := .tmp 6) (y := .tmp 18) rfl rfl box_wide rfl rfl (unhide H2).2 (by simp) rfl (by rw [← Array.all_toList]; rfl) ?_; intro w3 hb3 hc3 hz3; have H3 := hide (And.intro hb3 hc3); clear hb3 hc3 hz3))
  refine bodyPost_ret (results_blk box_wide rfl (unhide H3).1 rfl rfl) rfl ⟨rfl, ?_⟩
  exact (unhide H2).1.trans' (unhide H3).2 (fun _ _ h => h) (fun i hi e => by omega)

end Go.Proofs.YtgndblhpfjkfhaaDoor

/-
  Loads of wide arrays in a region that draws its order.
-/
namespace Go.Proofs.YtgndblhpfjkfhaaDoor
open Go.RowKit

theorem ylm {S : World → Prop} {ops : Array Oper} {o : Oper} {a : Act} {T : TypeId} {n : Nat} (Wd : Wide Tryd.prog T n) {x : Operand} (ho : o.op = .load T x) (hw : Region.wanted o (yielded ops a.tmps) = true) {g off : Nat} {cs : List Value} (hx : a.eval x = .pointer (some ⟨g, off, none⟩)) (hn : cs.length = n) (hB : ∀ w, S w → w.rangeAt g off cs) : YieldsIf Tryd.prog ops S o (.agg cs.toArray) a := by
  obtain ⟨d, hu, hd⟩ := Wd.und
  exact yieldsIf_load_mid (P := Tryd.prog) (S := S) hw T x ho g off hx cs d hB hu hd (by rw [hn]; exact Wd.info)
theorem ylb {S : World → Prop} {ops : Array Oper} {o : Oper} {a : Act} {T : TypeId} {n : Nat} (Wd : Wide Tryd.prog T n) {x : Operand} (ho : o.op = .load T x) (hw : Region.wanted o (yielded ops a.tmps) = true) {g : Nat} {t : TypeId} {cs : Array Value} (hx : a.eval x = .pointer (some ⟨g, 0, none⟩)) (hn : cs.size = n) (hB : ∀ w, S w → Blk w g t cs) : YieldsIf Tryd.prog ops S o (.agg cs) a := by
  have := ylm (S := S) (ops := ops) (o := o) (a := a) Wd ho hw (cs := cs.toList) hx (by rw [Array.length_toList, hn]) (fun w h => (hB w h).range)
  rwa [Array.toArray_toList] at this
theorem range_from {w : World} {g : Nat} {t : TypeId} {pre l : List Value} (h : Blk w g t (pre ++ l).toArray) : w.rangeAt g pre.length l := fun j v hj => by
  rw [h.cell, List.getElem?_toArray, List.getElem?_append_right (by omega), show pre.length + j - pre.length = j from by omega]
  exact hj
theorem rangeAt_ext {w w' : World} {g o : Nat} {cs : List Value} (h : w.rangeAt g o cs) (hE : Ext w w') : w'.rangeAt g o cs := fun j v hj => Ext.cellv hE (h j v hj)

/-- A block is made and filled: nothing that was there has changed. -/
theorem made_ext {w w1 w2 : World} {o : Obj} (h : Ext w w1) (hc : Chg (fun k => k = w1.heap.size) (w1.alloc o) w2) : Ext w w2 := (h.alloc _).trans' hc (fun _ _ h => h) (fun i hi e => by have := h.size'; omega)
theorem made_ext1 {w1 w2 : World} {o : Obj} (hc : Chg (fun k => k = w1.heap.size) (w1.alloc o) w2) : Ext w1 w2 := made_ext (Ext.refl w1) hc
/-- An array in the midst of a block, loaded whole (the operation may be guarded, the guard known). -/
theorem wpList_loadMG {P : Program} {ops : Array Oper} {rest : List Oper} {o : Oper} {a : Act} {w : World} {Q : Exit → Act → World → Prop} (hgd : Region.wanted o (yielded ops a.tmps) = true) {ty : TypeId} {x : Operand} (ho : o.op = .load ty x) {n : Nat} (W : Wide P ty n)
    {g off : Nat} (hx : a.eval x = .pointer (some ⟨g, off, none⟩)) {cs : List Value} (hB : w.rangeAt g off cs) (hn : cs.length = n) (h : wpList P ops Q rest (a.put o.dst (.agg cs.toArray)) w) : wpList P ops Q (o :: rest) a w := by
  obtain ⟨d, hu, hd⟩ := W.und
  exact Go.BigFrame.wpList_want hgd fun _ hK => wp_load_mid ty x ho g off hx cs d hB hu hd (by rw [hn]; exact W.info) (hK _ _ h)

end Go.Proofs.YtgndblhpfjkfhaaDoor

/-
  Arrays of bytes, compared.
-/
namespace Go.Proofs.YtgndblhpfjkfhaaDoor
open Go.RowKit

section
variable {P : Program}
theorem run_eqItems_u8 {e : TypeId} (hu : P.underlying e = some (.int .u8)) (he : P.plainKey e = true) (d : Nat) (a b : List UInt8) (w : World) : ∀ is : List Nat, (∀ i ∈ is, i < a.length ∧ i < b.length) →
    (Op.eqItems (d + 1) e 1 (a.map byteV).toArray (b.map byteV).toArray is).run P w = .ok (is.all fun i => a.getD i 0 == b.getD i 0) w
  | [], _ => by simp [Op.eqItems]
  | i :: is, h => by
    obtain ⟨h1, h2⟩ := h i (by simp)
    have p1 : (part e (a.map byteV).toArray (i * 1)).run P w = .ok (byteV a[i]) w := run_part_plain w he (by simp [List.getElem?_eq_getElem h1])
    have p2 : (part e (b.map byteV).toArray (i * 1)).run P w = .ok (byteV b[i]) w := run_part_plain w he (by simp [List.getElem?_eq_getElem h2])
    have p3 : (Op.equalIn (d + 1) e (byteV a[i]) (byteV b[i])).run P w = .ok (a[i] == b[i]) w := by
      simp [Op.equalIn, run_underlying hu, byteV]
      rw [Bool.eq_iff_iff]
      simp
      exact ⟨fun h => UInt8.toNat_inj.1 (Int.ofNat_inj.1 h), fun h => by rw [h]⟩
    have ih := run_eqItems_u8 hu he d a b w is fun j hj => h j (by simp [hj])
    simp only [Op.eqItems, Sem.run_bind, p1, p2, p3, Result.andThen_ok]
    rw [List.all_cons, List.getD_eq_getElem?_getD, List.getD_eq_getElem?_getD, List.getElem?_eq_getElem h1, List.getElem?_eq_getElem h2]
    simp only [Option.getD_some]
    by_cases hab : a[i] = b[i]
    · simpa [hab] using ih
    · simp [hab]
theorem all_eq (a b : List UInt8) (n : Nat) (ha : a.length = n) (hb : b.length = n) : ((List.range n).all fun i => a.getD i 0 == b.getD i 0) = decide (a = b) := by
  rw [Bool.eq_iff_iff]
  simp only [List.all_eq_true, List.mem_range, beq_iff_eq, decide_eq_true_eq]
  constructor
  · intro h
    apply List.ext_getElem (by omega)
    intro i h1 h2
    have := h i (by omega)
    simpa [List.getD_eq_getElem?_getD, List.getElem?_eq_getElem h1, List.getElem?_eq_getElem h2] using this
  · rintro rfl i _; rfl
/-- 'x == y' of two arrays of bytes. -/
theorem run_eql_bytes {t e : TypeId} {n : Nat} (hu : P.underlying t = some (.array n e)) (hue : P.underlying e = some (.int .u8)) (he : P.plainKey e = true) {inf : TypeInfo} (hi : P.info? e = some inf) (h1 : P.cellsOf e = 1) {a b : List UInt8} (ha : a.length = n) (hb : b.length = n) (w : World) :
    (binOp .eql t (.agg (a.map byteV).toArray) (.agg (b.map byteV).toArray)).run P w = .ok (.bool (decide (a = b))) w := by
  have h := run_equalIn_array (P := P) w 9999 (a.map byteV).toArray (b.map byteV).toArray hu hi
  rw [h1, run_eqItems_u8 hue he 9998 a b w _ (fun i hm => by rw [List.mem_range] at hm; omega), all_eq a b n ha hb] at h
  simp only [binOp]
  simp [Op.equal, Op.maxDepth, h]
theorem run_neq_bytes {t e : TypeId} {n : Nat} (hu : P.underlying t = some (.array n e)) (hue : P.underlying e = some (.int .u8)) (he : P.plainKey e = true) {inf : TypeInfo} (hi : P.info? e = some inf) (h1 : P.cellsOf e = 1) {a b : List UInt8} (ha : a.length = n) (hb : b.length = n) (w : World) :
    (binOp .neq t (.agg (a.map byteV).toArray) (.agg (b.map byteV).toArray)).run P w = .ok (.bool (!decide (a = b))) w := by
  have h := run_equalIn_array (P := P) w 9999 (a.map byteV).toArray (b.map byteV).toArray hu hi
  rw [h1, run_eqItems_u8 hue he 9998 a b w _ (fun i hm => by rw [List.mem_range] at hm; omega), all_eq a b n ha hb] at h
  simp only [binOp]
  simp [Op.equal, Op.maxDepth, h]
end

theorem Reads.newM (w : World) (cs : Array Value) (e : TypeId) (fr : Nat × Nat) (n c : Nat) (xs : List Value) {g : Nat} (hg : g = w.heap.size) (hx : xs.length = n) (hc : n ≤ c) (hm : c ≤ maxLen) (ht : cs.toList.take xs.length = xs) :
    Reads (w.alloc (.cells cs e fr)) 1 (.slice (some ⟨g, 0, none⟩) n c) n xs := by
  subst hg
  refine ⟨by rw [hx, Nat.mul_one], _, c, rfl, hc, hm, fun _ => ⟨w.heap.size, 0, rfl, fun j u hu => ?_⟩⟩
  have hj : j < xs.length := by
    rcases Nat.lt_or_ge j xs.length with h | h
    · exact h
    · rw [List.getElem?_eq_none h] at hu; cases hu
  rw [Nat.zero_add, World.cell?_alloc_mark]
  rw [← ht, List.getElem?_take, if_pos hj] at hu
  simpa using hu

end Go.Proofs.YtgndblhpfjkfhaaDoor

/-
  How digests and hashes are compared.
-/
namespace Go.Proofs.YtgndblhpfjkfhaaDoor
open Go.RowKit

theorem u8_plain : Tryd.prog.plainKey 5 = true := by kernel_rfl
theorem u8_one : Tryd.prog.cellsOf 5 = 1 := by kernel_rfl
set_option maxRecDepth 100000 in
theorem eq32 {a b : List UInt8} (ha : a.length = 32) (hb : b.length = 32) (w : World) : (binOp .eql 95 (.agg (a.map u8v).toArray) (.agg (b.map u8v).toArray)).run Tryd.prog w = .ok (.bool (decide (a = b))) w :=
  run_eql_bytes (inf := _) Tryd.underlying95 Tryd.underlying5 u8_plain rfl u8_one ha hb w
set_option maxRecDepth 100000 in
theorem eq16 {a b : List UInt8} (ha : a.length = 16) (hb : b.length = 16) (w : World) : (binOp .eql 23 (.agg (a.map u8v).toArray) (.agg (b.map u8v).toArray)).run Tryd.prog w = .ok (.bool (decide (a = b))) w :=
  run_eql_bytes (inf := _) Tryd.underlying23 Tryd.underlying5 u8_plain rfl u8_one ha hb w
set_option maxRecDepth 100000 in
theorem ne16 {a b : List UInt8} (ha : a.length = 16) (hb : b.length = 16) (w : World) : (binOp .neq 23 (.agg (a.map u8v).toArray) (.agg (b.map u8v).toArray)).run Tryd.prog w = .ok (.bool (!decide (a = b))) w :=
  run_neq_bytes (inf := _) Tryd.underlying23 Tryd.underlying5 u8_plain rfl u8_one ha hb w

theorem same32 {l : List UInt8} {r : Array Value} (h : (l.map u8v).toArray = r) (hl : l.length = 32) : ∀ W, (binOp .eql 95 (.agg r) (.agg r)).run Tryd.prog W = .ok (.bool true) W := fun W => by
  rw [← h, eq32 hl hl]; simp
theorem same16 {l : List UInt8} {r : Array Value} (h : (l.map u8v).toArray = r) (hl : l.length = 16) : ∀ W, (binOp .eql 23 (.agg r) (.agg r)).run Tryd.prog W = .ok (.bool true) W := fun W => by
  rw [← h, eq16 hl hl]; simp

end Go.Proofs.YtgndblhpfjkfhaaDoor

/-
  box.Open.
-/
namespace Go.Proofs.YtgndblhpfjkfhaaDoor
open Go.RowKit

set_option maxRecDepth 100000 in
set_option maxHeartbeats 2000000 in
theorem open_no (key : List UInt8) (nonce : Int) (c : ByteArray) (t : List UInt8) (w : World) (hM : ShaMem w) (hk : key.length = 16) (ht : t.length = 16) (h1 : -9223372036854775808 ≤ nonce) (h2 : nonce < 9223372036854775808) (hs : c.size ≤ 100000)
    (hno : ¬ tagS key nonce c.data.toList = t) :
    Calls Tryd.prog 14 #[.agg (key.map u8v).toArray, .agg (boxV nonce c t)] w fun e w' => e = .returned (.tuple #[.string { data := #[] }, .int .i64 8]) ∧ Ext w w' := by
  obtain ⟨arr, harr⟩ : ∃ r, (key.map u8v).toArray = r := ⟨_, rfl⟩
  have HM := hide hM
  have HAp := hide (fun W hW => apply_any key nonce c W hW hk h1 h2 hs)
  have HTg := hide (fun W hW => tag_any key nonce c W hW hk h1 h2 hs)
  rw [harr] at HAp HTg ⊢
  have hasz : arr.size = 16 := by rw [← harr]; simpa using hk
  have HTL := hide (show (t.map u8v).length = 16 from by simpa using ht)
  have hne := fun W => ne16 (tagS_length key nonce c.data.toList) ht W
  rw [decide_eq_false hno] at hne
  obtain ⟨tv, htv⟩ : ∃ l, t.map u8v = l := ⟨_, rfl⟩
  have hbx : boxV nonce c t = (Value.int .i64 nonce :: Value.string c :: tv).toArray := by rw [← htv]; rfl
  rw [htv] at hne HTL
  rw [hbx]
  obtain ⟨tg, htg⟩ : ∃ l, (tagS key nonce c.data.toList).map u8v = l := ⟨_, rfl⟩
  rw [htg] at hne HTg
  have HQ := hide (show Blk ((w.alloc (.cells arr 23)).alloc (.cells (Value.int .i64 nonce :: Value.string c :: tv).toArray 27)) w.heap.size 23 arr ∧
      ((w.alloc (.cells arr 23)).alloc (.cells (Value.int .i64 nonce :: Value.string c :: tv).toArray 27)).cell? ⟨w.heap.size + 1, 0, none⟩ = some (.int .i64 nonce) ∧
      ((w.alloc (.cells arr 23)).alloc (.cells (Value.int .i64 nonce :: Value.string c :: tv).toArray 27)).cell? ⟨w.heap.size + 1, 1, none⟩ = some (.string c) ∧
      ((w.alloc (.cells arr 23)).alloc (.cells (Value.int .i64 nonce :: Value.string c :: tv).toArray 27)).rangeAt (w.heap.size + 1) 2 tv from
    ⟨(Blk.new w _ _).alloc _, new_cell _ _ _ (by simp) rfl, new_cell _ _ _ (by simp) rfl, range_from (pre := [Value.int .i64 nonce, Value.string c]) (Blk.new' _ _ _ (by simp))⟩)
  have HF := hide (fun W (hE : Ext ((w.alloc (.cells arr 23)).alloc (.cells (Value.int .i64 nonce :: Value.string c :: tv).toArray 27)) W) => And.intro (Ext.cellv hE (unhide HQ).2.1) (Ext.cellv hE (unhide HQ).2.2.1))
  clear hM harr htv hbx htg
  go_enter Tryd.func14, Tryd.ntmps14
  go_upto_region 1 with fail
  refine wp_region_held_drew (S := fun w' => Ext ((w.alloc (.cells arr 23)).alloc (.cells (Value.int .i64 nonce :: Value.string c :: tv).toArray 27)) w') (by kernel_rfl) (Ext.refl _).drew (fun hHeld => ?_)
  refine wpAnyH_take (i := 0) (oi := _) (v := _) rfl (by kernel_rfl) (by kernel_rfl) (by kernel_rfl) (fun _ _ _ h => h) (ylb digest_wide rfl (by rfl) rfl hasz (fun w' hw => (unhide HQ).1.ext hw)) (by assumption) ?_
  try simp only [Act.put, List.setIfInBounds_toArray, List.set_cons_zero, List.set_cons_succ, List.getElem_toArray, List.getElem_cons_zero]
  refine wpAnyH_take (i := 1) (oi := _) (v := ?_) rfl (by kernel_rfl) (by kernel_rfl) (by kernel_rfl) (fun _ _ _ h => h) (Or.inl ⟨by rfl, fun wz hSz => ?_⟩) (by assumption) ?_
  rotate_left
  · (first | (go_simp; done) | (go_simp; with_reducible rfl) | (obtain ⟨f1, f2⟩ := (unhide HF) wz hSz; clear hSz; first | (go_simp; done) | (go_simp; with_reducible rfl)))
  try simp only [Act.put, List.setIfInBounds_toArray, List.set_cons_zero, List.set_cons_succ, List.getElem_toArray, List.getElem_cons_succ, List.getElem_cons_zero]
  refine wpAnyH_take (i := 2) (oi := _) (v := ?_) rfl (by kernel_rfl) (by kernel_rfl) (by kernel_rfl) (fun _ _ _ h => h) (Or.inl ⟨by rfl, fun wz hSz => ?_⟩) (by assumption) ?_
  rotate_left
  · (first | (go_simp; done) | (go_simp; with_reducible rfl) | (obtain ⟨f1, f2⟩ := (unhide HF) wz hSz; clear hSz; first | (go_simp; done) | (go_simp; with_reducible rfl)))
  try simp only [Act.put, List.setIfInBounds_toArray, List.set_cons_zero, List.set_cons_succ, List.getElem_toArray, List.getElem_cons_succ, List.getElem_cons_zero]
  refine wpAnyH_take (i := 3) (oi := _) (v := ?_) rfl (by kernel_rfl) (by kernel_rfl) (by kernel_rfl) (fun _ _ _ h => h) (Or.inl ⟨by rfl, fun wz hSz => ?_⟩) (by assumption) ?_
  rotate_left
  · (first | (go_simp; done) | (go_simp; with_reducible rfl) | (obtain ⟨f1, f2⟩ := (unhide HF) wz hSz; clear hSz; first | (go_simp; done) | (go_simp; with_reducible rfl)))
  try simp only [Act.put, List.setIfInBounds_toArray, List.set_cons_zero, List.set_cons_succ, List.getElem_toArray, List.getElem_cons_succ, List.getElem_cons_zero]
  refine wpAnyH_take (i := 4) (oi := _) (v := ?_) rfl (by kernel_rfl) (by kernel_rfl) (by kernel_rfl) (fun _ _ _ h => h) (Or.inl ⟨by rfl, fun wz hSz => ?_⟩) (by assumption) ?_
  rotate_left
  · (first | (go_simp; done) | (go_simp; with_reducible rfl) | (obtain ⟨f1, f2⟩ := (unhide HF) wz hSz; clear hSz; first | (go_simp; done) | (go_simp; with_reducible rfl)))
  try simp only [Act.put, List.setIfInBounds_toArray, List.set_cons_zero, List.set_cons_succ, List.getElem_toArray, List.getElem_cons_succ, List.getElem_cons_zero]
  refine wpAnyH_take (i := 6) (oi := _) (v := ?_) rfl (by kernel_rfl) (by kernel_rfl) (by kernel_rfl) (fun _ _ _ h => h) (Or.inl ⟨by rfl, fun wz hSz => ?_⟩) (by assumption) ?_
  rotate_left
  · (first | (go_simp; done) | (go_simp; with_reducible rfl) | (obtain ⟨f1, f2⟩ := (unhide HF) wz hSz; clear hSz; first | (go_simp; done) | (go_simp; with_reducible rfl)))
  try simp only [Act.put, List.setIfInBounds_toArray, List.set_cons_zero, List.set_cons_succ, List.getElem_toArray, List.getElem_cons_succ, List.getElem_cons_zero]
  refine wpAnyH_take (i := 7) (oi := _) (v := _) rfl (by kernel_rfl) (by kernel_rfl) (by kernel_rfl) (fun _ _ _ h => h) (ylm digest_wide rfl (by rfl) rfl (unhide HTL) (fun w' hw => rangeAt_ext (unhide HQ).2.2.2 hw)) (by assumption) ?_
  try simp only [Act.put, List.setIfInBounds_toArray, List.set_cons_zero, List.set_cons_succ, List.getElem_toArray, List.getElem_cons_succ, List.getElem_cons_zero]
  refine wpAnyH_ready (rs := [5]) (by kernel_rfl) (by simp) (AllReadyH.cons (o := _) rfl (fun K hK => ?_) AllReadyH.nil)
  go_simp
  refine (unhide HTg _ ((unhide HM).ext ((((Ext.refl w).alloc _).alloc _).trans hHeld))).mono ?_; rintro e w5 ⟨rfl, hE5⟩; have hS := Ext.trans hHeld hE5; clear hE5 hHeld
  refine hK.out _ _ ?_ (fun hHeld => ?_)
  · exact hS
  clear hK K
  try simp only [Act.put, List.setIfInBounds_toArray, List.set_cons_zero, List.set_cons_succ, List.getElem_toArray, List.getElem_cons_succ, List.getElem_cons_zero]
  refine wpAnyH_take (i := 8) (oi := _) (v := ?_) rfl (by kernel_rfl) (by kernel_rfl) (by kernel_rfl) (fun _ _ _ h => h) (Or.inl ⟨by rfl, fun wz hSz => ?_⟩) (by assumption) ?_
  rotate_left
  · (first | (go_simp; done) | (go_simp; with_reducible rfl) | (obtain ⟨f1, f2⟩ := (unhide HF) wz hSz; clear hSz; first | (go_simp; done) | (go_simp; with_reducible rfl)))
  try simp only [Act.put, List.setIfInBounds_toArray, List.set_cons_zero, List.set_cons_succ, List.getElem_toArray, List.getElem_cons_succ, List.getElem_cons_zero]
  refine wpAnyH_done (by kernel_rfl) ?_ _
  go_wp2
  go_ret2
  exact ⟨rfl, (((Ext.refl w).alloc _).alloc _).trans hHeld⟩

set_option maxRecDepth 100000 in
set_option maxHeartbeats 2000000 in
theorem open_yes (key : List UInt8) (nonce : Int) (c : ByteArray) (t : List UInt8) (w : World) (hM : ShaMem w) (hk : key.length = 16) (ht : t.length = 16) (h1 : -9223372036854775808 ≤ nonce) (h2 : nonce < 9223372036854775808) (hs : c.size ≤ 100000)
    (hyes : tagS key nonce c.data.toList = t) :
    Calls Tryd.prog 14 #[.agg (key.map u8v).toArray, .agg (boxV nonce c t)] w fun e w' => e = .returned (.tuple #[.string (strOf (applyS key nonce c.data.toList)), .int .i64 0]) ∧ Ext w w' := by
  obtain ⟨arr, harr⟩ : ∃ r, (key.map u8v).toArray = r := ⟨_, rfl⟩
  have HM := hide hM
  have HAp := hide (fun W hW => apply_any key nonce c W hW hk h1 h2 hs)
  have HTg := hide (fun W hW => tag_any key nonce c W hW hk h1 h2 hs)
  rw [harr] at HAp HTg ⊢
  have hasz : arr.size = 16 := by rw [← harr]; simpa using hk
  have HTL := hide (show (t.map u8v).length = 16 from by simpa using ht)
  have hne := fun W => ne16 (tagS_length key nonce c.data.toList) ht W
  rw [decide_eq_true hyes] at hne
  obtain ⟨tv, htv⟩ : ∃ l, t.map u8v = l := ⟨_, rfl⟩
  have hbx : boxV nonce c t = (Value.int .i64 nonce :: Value.string c :: tv).toArray := by rw [← htv]; rfl
  rw [htv] at hne HTL
  rw [hbx]
  obtain ⟨tg, htg⟩ : ∃ l, (tagS key nonce c.data.toList).map u8v = l := ⟨_, rfl⟩
  rw [htg] at hne HTg
  have HQ := hide (show Blk ((w.alloc (.cells arr 23)).alloc (.cells (Value.int .i64 nonce :: Value.string c :: tv).toArray 27)) w.heap.size 23 arr ∧
      ((w.alloc (.cells arr 23)).alloc (.cells (Value.int .i64 nonce :: Value.string c :: tv).toArray 27)).cell? ⟨w.heap.size + 1, 0, none⟩ = some (.int .i64 nonce) ∧
      ((w.alloc (.cells arr 23)).alloc (.cells (Value.int .i64 nonce :: Value.string c :: tv).toArray 27)).cell? ⟨w.heap.size + 1, 1, none⟩ = some (.string c) ∧
      ((w.alloc (.cells arr 23)).alloc (.cells (Value.int .i64 nonce :: Value.string c :: tv).toArray 27)).rangeAt (w.heap.size + 1) 2 tv from
    ⟨(Blk.new w _ _).alloc _, new_cell _ _ _ (by simp) rfl, new_cell _ _ _ (by simp) rfl, range_from (pre := [Value.int .i64 nonce, Value.string c]) (Blk.new' _ _ _ (by simp))⟩)
  have HF := hide (fun W (hE : Ext ((w.alloc (.cells arr 23)).alloc (.cells (Value.int .i64 nonce :: Value.string c :: tv).toArray 27)) W) => And.intro (Ext.cellv hE (unhide HQ).2.1) (Ext.cellv hE (unhide HQ).2.2.1))
  clear hM harr htv hbx htg
  go_enter Tryd.func14, Tryd.ntmps14
  go_upto_region 1 with fail
  refine wp_region_held_drew (S := fun w' => Ext ((w.alloc (.cells arr 23)).alloc (.cells (Value.int .i64 nonce :: Value.string c :: tv).toArray 27)) w') (by kernel_rfl) (Ext.refl _).drew (fun hHeld => ?_)
  refine wpAnyH_take (i := 0) (oi := _) (v := _) rfl (by kernel_rfl) (by kernel_rfl) (by kernel_rfl) (fun _ _ _ h => h) (ylb digest_wide rfl (by rfl) rfl hasz (fun w' hw => (unhide HQ).1.ext hw)) (by assumption) ?_
  try simp only [Act.put, List.setIfInBounds_toArray, List.set_cons_zero, List.set_cons_succ, List.getElem_toArray, List.getElem_cons_zero]
  refine wpAnyH_take (i := 1) (oi := _) (v := ?_) rfl (by kernel_rfl) (by kernel_rfl) (by kernel_rfl) (fun _ _ _ h => h) (Or.inl ⟨by rfl, fun wz hSz => ?_⟩) (by assumption) ?_
  rotate_left
  · (first | (go_simp; done) | (go_simp; with_reducible rfl) | (obtain ⟨f1, f2⟩ := (unhide HF) wz hSz; clear hSz; first | (go_simp; done) | (go_simp; with_reducible rfl)))
  try simp only [Act.put, List.setIfInBounds_toArray, List.set_cons_zero, List.set_cons_succ, List.getElem_toArray, List.getElem_cons_succ, List.getElem_cons_zero]
  refine wpAnyH_take (i := 2) (oi := _) (v := ?_) rfl (by kernel_rfl) (by kernel_rfl) (by kernel_rfl) (fun _ _ _ h => h) (Or.inl ⟨by rfl, fun wz hSz => ?_⟩) (by assumption) ?_
  rotate_left
  · (first | (go_simp; done) | (go_simp; with_reducible rfl) | (obtain ⟨f1, f2⟩ := (unhide HF) wz hSz; clear hSz; first | (go_simp; done) | (go_simp; with_reducible rfl)))
  try simp only [Act.put, List.setIfInBounds_toArray, List.set_cons_zero, List.set_cons_succ, List.getElem_toArray, List.getElem_cons_succ, List.getElem_cons_zero]
  refine wpAnyH_take (i := 3) (oi := _) (v := ?_) rfl (by kernel_rfl) (by kernel_rfl) (by kernel_rfl) (fun _ _ _ h => h) (Or.inl ⟨by rfl, fun wz hSz => ?_⟩) (by assumption) ?_
  rotate_left
  · (first | (go_simp; done) | (go_simp; with_reducible rfl) | (obtain ⟨f1, f2⟩ := (unhide HF) wz hSz; clear hSz; first | (go_simp; done) | (go_simp; with_reducible rfl)))
  try simp only [Act.put, List.setIfInBounds_toArray, List.set_cons_zero, List.set_cons_succ, List.getElem_toArray, List.getElem_cons_succ, List.getElem_cons_zero]
  refine wpAnyH_take (i := 4) (oi := _) (v := ?_) rfl (by kernel_rfl) (by kernel_rfl) (by kernel_rfl) (fun _ _ _ h => h) (Or.inl ⟨by rfl, fun wz hSz => ?_⟩) (by assumption) ?_
  rotate_left
  · (first | (go_simp; done) | (go_simp; with_reducible rfl) | (obtain ⟨f1, f2⟩ := (unhide HF) wz hSz; clear hSz; first | (go_simp; done) | (go_simp; with_reducible rfl)))
  try simp only [Act.put, List.setIfInBounds_toArray, List.set_cons_zero, List.set_cons_succ, List.getElem_toArray, List.getElem_cons_succ, List.getElem_cons_zero]
  refine wpAnyH_take (i := 6) (oi := _) (v := ?_) rfl (by kernel_rfl) (by kernel_rfl) (by kernel_rfl) (fun _ _ _ h => h) (Or.inl ⟨by rfl, fun wz hSz => ?_⟩) (by assumption) ?_
  rotate_left
  · (first | (go_simp; done) | (go_simp; with_reducible rfl) | (obtain ⟨f1, f2⟩ := (unhide HF) wz hSz; clear hSz; first | (go_simp; done) | (go_simp; with_reducible rfl)))
  try simp only [Act.put, List.setIfInBounds_toArray, List.set_cons_zero, List.set_cons_succ, List.getElem_toArray, List.getElem_cons_succ, List.getElem_cons_zero]
  refine wpAnyH_take (i := 7) (oi := _) (v := _) rfl (by kernel_rfl) (by kernel_rfl) (by kernel_rfl) (fun _ _ _ h => h) (ylm digest_wide rfl (by rfl) rfl (unhide HTL) (fun w' hw => rangeAt_ext (unhide HQ).2.2.2 hw)) (by assumption) ?_
  try simp only [Act.put, List.setIfInBounds_toArray, List.set_cons_zero, List.set_cons_succ, List.getElem_toArray, List.getElem_cons_succ, List.getElem_cons_zero]
  refine wpAnyH_ready (rs := [5]) (by kernel_rfl) (by simp) (AllReadyH.cons (o := _) rfl (fun K hK => ?_) AllReadyH.nil)
  go_simp
  refine (unhide HTg _ ((unhide HM).ext ((((Ext.refl w).alloc _).alloc _).trans hHeld))).mono ?_; rintro e w5 ⟨rfl, hE5⟩; have hS := Ext.trans hHeld hE5; clear hE5 hHeld
  refine hK.out _ _ ?_ (fun hHeld => ?_)
  · exact hS
  clear hK K
  try simp only [Act.put, List.setIfInBounds_toArray, List.set_cons_zero, List.set_cons_succ, List.getElem_toArray, List.getElem_cons_succ, List.getElem_cons_zero]
  refine wpAnyH_take (i := 8) (oi := _) (v := ?_) rfl (by kernel_rfl) (by kernel_rfl) (by kernel_rfl) (fun _ _ _ h => h) (Or.inl ⟨by rfl, fun wz hSz => ?_⟩) (by assumption) ?_
  rotate_left
  · (first | (go_simp; done) | (go_simp; with_reducible rfl) | (obtain ⟨f1, f2⟩ := (unhide HF) wz hSz; clear hSz; first | (go_simp; done) | (go_simp; with_reducible rfl)))
  try simp only [Act.put, List.setIfInBounds_toArray, List.set_cons_zero, List.set_cons_succ, List.getElem_toArray, List.getElem_cons_succ, List.getElem_cons_zero]
  refine wpAnyH_done (by kernel_rfl) ?_ _
  have HQ2 := hide (show Blk w5 w.heap.size 23 arr ∧ w5.cell? ⟨w.heap.size + 1, 0, none⟩ = some (.int .i64 nonce) ∧ w5.cell? ⟨w.heap.size + 1, 1, none⟩ = some (.string c) ∧ Ext w w5 from
    ⟨(unhide HQ).1.ext hHeld, Ext.cellv hHeld (unhide HQ).2.1, Ext.cellv hHeld (unhide HQ).2.2.1, (((Ext.refl w).alloc _).alloc _).trans hHeld⟩)
  have c1 := (unhide HQ2).2.1
  have c2 := (unhide HQ2).2.2.1
  clear hHeld HQ HF
  go_wp2_with (first
    | (refine wpList_loadB (x := .tmp 2) rfl rfl digest_wide rfl (cs := arr) (unhide HQ2).1 hasz ?_)
    | (go_at_call 51; refine (unhide HAp _ ((unhide HM).ext (unhide HQ2).2.2.2)).mono ?_; rintro e w6 ⟨rfl, hE6⟩; have H6 := hide hE6; clear hE6))
  go_ret2
  exact ⟨rfl, (unhide HQ2).2.2.2.trans (unhide H6)⟩

end Go.Proofs.YtgndblhpfjkfhaaDoor

/-
  What the sanity of the laws of boxes asks of three examples, by evaluation of the plain functions.
-/
namespace Go.Proofs.YtgndblhpfjkfhaaDoor
def kk7 : List UInt8 := 7 :: List.replicate 15 0
def kk8 : List UInt8 := 8 :: List.replicate 15 0
def secretS : List UInt8 := [115, 101, 99, 114, 101, 116]
def cc7 : List UInt8 := applyS kk7 3 secretS
def tt7 : List UInt8 := tagS kk7 3 cc7
set_option maxRecDepth 100000 in
theorem box_facts : (cc7 != secretS && (tagS kk8 3 cc7 != tt7 && tagS kk7 3 [] != tt7)) = true := by decide +kernel
end Go.Proofs.YtgndblhpfjkfhaaDoor

/-
  The sanity of the laws of boxes.
-/
namespace Go.Proofs.YtgndblhpfjkfhaaDoor
open Go.RowKit

theorem xor_back (a x : UInt8) : (a ^^^ x) ^^^ x = a := by rw [UInt8.xor_assoc, UInt8.xor_self, UInt8.xor_zero]
theorem zip_back (s x : List UInt8) (h : s.length ≤ x.length) : List.zipWith (· ^^^ ·) (List.zipWith (· ^^^ ·) s x) x = s := by
  induction s generalizing x with
  | nil => simp
  | cons a s ih =>
    cases x with
    | nil => simp at h
    | cons b x =>
      simp only [List.zipWith_cons_cons]
      rw [xor_back, ih x (by simpa using h)]
theorem apply_back (key : List UInt8) (nonce : Int) (s : List UInt8) : applyS key nonce (applyS key nonce s) = s := by
  have hl := applyS_length key nonce s
  unfold applyS at hl ⊢
  rw [hl]
  exact zip_back _ _ (by rw [streamS_length]; simp)

def boxL (n : Int) (c : ByteArray) (l : List Value) : Array Value := (Value.int .i64 n :: Value.string c :: l).toArray
theorem boxV_eq (n : Int) (c : ByteArray) (t : List UInt8) : boxV n c t = boxL n c (t.map u8v) := rfl
theorem boxL_size {n : Int} {c : ByteArray} {l : List Value} (h : l.length = 16) : (boxL n c l).size = 18 := by unfold boxL; simp [h]
theorem boxL_one {n : Int} {c : ByteArray} {t : List UInt8} : (boxL n c (t.map u8v)).all (·.oneCell') = true := by
  unfold boxL
  rw [← Array.all_toList]
  simp [u8v]
  exact ⟨rfl, rfl, fun _ _ => rfl⟩

theorem boxL_set (n : Int) (c : ByteArray) (u v : Value) (r : List Value) : (boxL n c (u :: r)).setIfInBounds 2 v = boxL n c (v :: r) := by simp [boxL]
theorem boxL_range {w : World} {g : Nat} {t : TypeId} {n : Int} {c : ByteArray} {l : List Value} (h : Blk w g t (boxL n c l)) : w.rangeAt g 2 l := range_from (pre := [Value.int .i64 n, Value.string c]) h
def secretB : ByteArray := { data := #[115, 101, 99, 114, 101, 116] }
def emptyB : ByteArray := { data := #[] }
theorem seal7 (s : ByteArray) (w : World) (hM : ShaMem w) (hs : s.size ≤ 1000) : Calls Tryd.prog 13 #[.agg (kk7.map u8v).toArray, .int .i64 3, .string s] w fun e w' =>
    e = .returned (.agg (boxL 3 (strOf (applyS kk7 3 s.data.toList)) ((tagS kk7 3 (applyS kk7 3 s.data.toList)).map u8v))) ∧ Ext w w' := seal_any kk7 3 s w hM rfl (by omega) (by omega) (by omega)

set_option maxRecDepth 100000 in
set_option maxHeartbeats 1000000 in
theorem sanity6_any (w : World) (hM : ShaMem w) : Calls Tryd.prog 12 #[] w fun e w' => e = .returned (.bool true) ∧ Ext w w' := by
  have HM := hide hM
  clear hM
  have hfacts := box_facts
  simp only [Bool.and_eq_true, bne_iff_ne, ne_eq] at hfacts
  obtain ⟨hb1, hb2, hb3⟩ := hfacts
  obtain ⟨cs, hcs⟩ : ∃ c, strOf cc7 = c := ⟨_, rfl⟩
  have hcl : cs.data.toList = cc7 := by rw [← hcs]; exact strOf_list _
  have hcz : cs.size = 6 := by rw [← hcs, strOf_size, cc7, applyS_length]; rfl
  have hcn : ¬ cs = secretB := fun e => hb1 (by rw [← hcl, e]; rfl)
  obtain ⟨t0, tr, ht⟩ : ∃ a l, tt7 = a :: l := by
    have := tagS_length kk7 3 cc7
    cases h : tt7 with
    | nil => rw [← tt7, h] at this; cases this
    | cons a l => exact ⟨a, l, rfl⟩
  have htl : (t0 :: tr).length = 16 := by rw [← ht]; exact tagS_length _ _ _
  have HSeal := hide (fun W hW => seal7 secretB W hW (by decide))
  rw [show applyS kk7 3 secretB.data.toList = cc7 from rfl, hcs, ← tt7, ht] at HSeal
  have HSealE := hide (fun W hW => seal7 emptyB W hW (by decide))
  obtain ⟨te, hte⟩ : ∃ l, tagS kk7 3 [] = l := ⟨_, rfl⟩
  have hae : applyS kk7 3 emptyB.data.toList = [] := List.length_eq_zero_iff.1 (applyS_length _ _ _)
  rw [hae, hte] at HSealE
  have htel : te.length = 16 := by rw [← hte]; exact tagS_length _ _ _
  rw [hte] at hb3
  have HOpen := hide (fun W hW => open_yes kk7 3 cs (t0 :: tr) W hW rfl htl (by omega) (by omega) (by omega) (by rw [hcl, ← ht]; rfl))
  rw [hcl, show applyS kk7 3 cc7 = secretS from apply_back _ _ _, show strOf secretS = { data := #[115, 101, 99, 114, 101, 116] } from rfl] at HOpen
  have HBad := hide (fun W hW => open_no kk7 3 cs ((t0 ^^^ 1) :: tr) W hW rfl (by simpa using htl) (by omega) (by omega) (by omega) (by
    rw [hcl]
    show ¬ tt7 = _
    rw [ht]
    intro e
    injection e with e1
    have : (t0 ^^^ 1) ^^^ 1 = t0 := xor_back t0 1
    have h2 : t0 ^^^ t0 = t0 ^^^ (t0 ^^^ 1) := by rw [← e1]
    rw [UInt8.xor_self, ← UInt8.xor_assoc, UInt8.xor_self] at h2
    cases h2))
  have HNo := hide (fun W hW => open_no kk8 3 cs (t0 :: tr) W hW rfl htl (by omega) (by omega) (by omega) (by rw [hcl, ← ht]; exact hb2))
  have hne : ∀ W, (binOp .neq 23 (.agg (te.map u8v).toArray) (.agg ((t0 :: tr).map u8v).toArray)).run Tryd.prog W = .ok (.bool true) W := fun W => by
    rw [ne16 htel htl]
    rw [ht] at hb3
    rw [decide_eq_false hb3]
    rfl
  have hxx : bits BinOp.xor IntKind.u8 (t0.toNat : Int) 1 = ((t0 ^^^ 1).toNat : Int) := xor8 t0 1
  obtain ⟨t1, ht1⟩ : ∃ x, t0 ^^^ 1 = x := ⟨_, rfl⟩
  rw [ht1] at hxx HBad
  clear ht1
  obtain ⟨k7, hk7⟩ : ∃ r, (kk7.map u8v).toArray = r := ⟨_, rfl⟩
  obtain ⟨k8, hk8⟩ : ∃ r, (kk8.map u8v).toArray = r := ⟨_, rfl⟩
  obtain ⟨tv, htv⟩ : ∃ r, (t0 :: tr).map u8v = r := ⟨_, rfl⟩
  obtain ⟨tb, htb⟩ : ∃ r, (t1 :: tr).map u8v = r := ⟨_, rfl⟩
  obtain ⟨tev, htev⟩ : ∃ r, te.map u8v = r := ⟨_, rfl⟩
  have HK7 := hide (show k7 = #[.int .u8 7, .int .u8 0, .int .u8 0, .int .u8 0, .int .u8 0, .int .u8 0, .int .u8 0, .int .u8 0, .int .u8 0, .int .u8 0, .int .u8 0, .int .u8 0, .int .u8 0, .int .u8 0, .int .u8 0, .int .u8 0] ∧ k7.size = 16 ∧ k7.all (·.oneCell') = true from by rw [← hk7]; exact ⟨rfl, rfl, bytes_one _⟩)
  have HK8 := hide (show k8 = #[.int .u8 8, .int .u8 0, .int .u8 0, .int .u8 0, .int .u8 0, .int .u8 0, .int .u8 0, .int .u8 0, .int .u8 0, .int .u8 0, .int .u8 0, .int .u8 0, .int .u8 0, .int .u8 0, .int .u8 0, .int .u8 0] from by rw [← hk8]; rfl)
  have HTV := hide (show tv = u8v t0 :: tr.map u8v ∧ tb = u8v t1 :: tr.map u8v ∧ tv.length = 16 ∧ tb.length = 16 ∧ tev.length = 16 from by
    rw [← htv, ← htb, ← htev]
    exact ⟨rfl, rfl, by simpa using htl, by simpa using htl, by simpa using htel⟩)
  have HB1 := hide (show (boxL 3 cs tv).all (·.oneCell') = true ∧ (boxL 3 emptyB tev).all (·.oneCell') = true from by rw [← htv, ← htev]; exact ⟨boxL_one, boxL_one⟩)
  rw [hk7, htv] at HSeal
  rw [hk7, htev, show strOf [] = emptyB from rfl] at HSealE
  rw [hk7, boxV_eq, htv] at HOpen
  rw [hk7, boxV_eq, htb] at HBad
  rw [hk8, boxV_eq, htv] at HNo
  rw [htev, htv] at hne
  have hcn4 : ¬ cs.toList = [115, 101, 99, 114, 101, 116] := by rw [ByteArray.toList_eq, hcl]; exact hb1
  have hcn5 : (cs.toList == [115, 101, 99, 114, 101, 116]) = false := by simpa using hcn4
  clear hb1 hb2 hb3 hcs hcl hcn ht htl hte hae htel hk7 hk8 htv htb htev
  go_enter Tryd.func12, Tryd.ntmps12
  go_upto_region 3 with (first
    | (refine wpList_storeB (ty := 23) (t := 23) (x := .tmp 1) (y := .tmp 11) (cs := k7) rfl rfl digest_wide rfl (by rw [(unhide HK7).1]; rfl) (Blk.new w _ _) rfl (unhide HK7).2.1 (unhide HK7).2.2 ?_; intro w1 hb1 hc1 hz1; have H1 := hide (And.intro (made_ext (Ext.refl w) hc1) hb1); clear hb1 hc1 hz1)
    | (refine wpList_loadB (x := .tmp 1) rfl rfl digest_wide rfl (cs := k7) (unhide H1).2 (unhide HK7).2.1 ?_)
    | (go_at_call 13; refine (unhide HSeal _ ((unhide HM).ext (unhide H1).1)).mono ?_; rintro e w2 ⟨rfl, hE2⟩; have H2 := hide (And.intro ((unhide H1).1.trans hE2) ((unhide H1).2.ext hE2)); clear hE2)
    | (refine wpList_storeB (ty := 27) (t := 27) (x := .tmp 2) (y := .tmp 13) (cs := boxL 3 cs tv) rfl rfl box_wide rfl rfl (Blk.new w2 _ _) rfl (boxL_size (unhide HTV).2.2.1) (unhide HB1).1 ?_; intro w3 hb3 hc3 hz3; have H3 := hide (And.intro (made_ext (unhide H2).1 hc3) (And.intro ((unhide H2).2.ext (made_ext1 hc3)) hb3)); clear hb3 hc3 hz3))
  have HL1 := hide (unhide H2).2.lt
  clear H1 H2 HSeal
  go_upto_region 5 with (first
    | (refine wpList_loadB (x := .tmp 1) rfl rfl digest_wide rfl (cs := k7) (unhide H3).2.1 (unhide HK7).2.1 ?_)
    | (refine wpList_loadB (x := .tmp 2) rfl rfl box_wide rfl (cs := boxL 3 cs tv) (unhide H4).2.2 (boxL_size (unhide HTV).2.2.1) ?_)
    | (refine wpList_loadB (x := .tmp 2) rfl rfl box_wide rfl (cs := boxL 3 cs tv) (unhide H3).2.2 (boxL_size (unhide HTV).2.2.1) ?_)
    | (go_at_call 14; refine (unhide HOpen _ ((unhide HM).ext (unhide H3).1)).mono ?_; rintro e w4 ⟨rfl, hE4⟩; have H4 := hide (And.intro ((unhide H3).1.trans hE4) (And.intro ((unhide H3).2.1.ext hE4) ((unhide H3).2.2.ext hE4))); clear hE4)
    | (refine wpList_storeB (ty := 27) (t := 27) (x := .tmp 5) (y := .tmp 20) (cs := boxL 3 cs tv) rfl rfl box_wide rfl rfl (Blk.new w4 _ _) rfl (boxL_size (unhide HTV).2.2.1) (unhide HB1).1 ?_; intro w5 hb5 hc5 hz5; have H5 := hide (And.intro (made_ext (unhide H4).1 hc5) (And.intro ((unhide H4).2.1.ext (made_ext1 hc5)) (And.intro ((unhide H4).2.2.ext (made_ext1 hc5)) hb5))); clear hb5 hc5 hz5))
  have HLT := hide (show w.heap.size < w2.heap.size ∧ w2.heap.size < w4.heap.size from ⟨unhide HL1, (unhide H4).2.2.lt⟩)
  have TK := hide True.intro
  clear H3 H4 HOpen
  have c5 : w5.cell? ⟨w4.heap.size, 2, none⟩ = some (.int .u8 (t0.toNat : Int)) := by rw [(unhide H5).2.2.2.cell, (unhide HTV).1]; rfl
  have f5 := (unhide H5).2.2.2.frozen 2
  go_upto_region 6 with fail
  clear c5 f5 hxx
  have H6 := hide (show Ext w (w5.setCell ⟨w4.heap.size, 2, none⟩ (.int .u8 (t1.toNat : Int))) ∧ Blk (w5.setCell ⟨w4.heap.size, 2, none⟩ (.int .u8 (t1.toNat : Int))) w.heap.size 23 k7 ∧ Blk (w5.setCell ⟨w4.heap.size, 2, none⟩ (.int .u8 (t1.toNat : Int))) w2.heap.size 27 (boxL 3 cs tv) ∧ Blk (w5.setCell ⟨w4.heap.size, 2, none⟩ (.int .u8 (t1.toNat : Int))) w4.heap.size 27 (boxL 3 cs tb) ∧ w.heap.size < w2.heap.size ∧ w2.heap.size < w4.heap.size from by
    obtain ⟨q1, q2, q3, q4⟩ := unhide H5
    obtain ⟨l1, l2⟩ := unhide HLT
    refine ⟨q1.setCell (by simp; omega) _, q2.far' (by omega) _ _, q3.far' (by omega) _ _, ?_, l1, l2⟩
    have := q4.set_ 2 (.int .u8 (t1.toNat : Int))
    rw [(unhide HTV).1, boxL_set] at this
    rw [(unhide HTV).2.1]
    exact this)
  clear H5
  generalize w5.setCell ⟨w4.heap.size, 2, none⟩ (.int .u8 (t1.toNat : Int)) = w6 at *
  go_upto_region 8 with (first
    | (refine wpList_loadB (x := .tmp 1) rfl rfl digest_wide rfl (cs := k7) (unhide H6).2.1 (unhide HK7).2.1 ?_)
    | (refine wpList_loadB (x := .tmp 5) rfl rfl box_wide rfl (cs := boxL 3 cs tb) (unhide H6).2.2.2.1 (boxL_size (unhide HTV).2.2.2.1) ?_)
    | (refine wpList_loadB (x := .tmp 2) rfl rfl box_wide rfl (cs := boxL 3 cs tv) (unhide H7).2.2.1 (boxL_size (unhide HTV).2.2.1) ?_)
    | (have TT := unhide TK; clear TK; go_at_call 14; clear TT; refine (unhide HBad _ ((unhide HM).ext (unhide H6).1)).mono ?_; rintro e w7 ⟨rfl, hE7⟩; have H7 := hide (And.intro ((unhide H6).1.trans hE7) (And.intro ((unhide H6).2.1.ext hE7) (And.intro ((unhide H6).2.2.1.ext hE7) (unhide H6).2.2.2.2))); clear hE7)
    | (go_at_call 14; rw [← unhide HK8]; refine (unhide HNo _ ((unhide HM).ext (unhide H7).1)).mono ?_; rintro e w8 ⟨rfl, hE8⟩; have H8 := hide (And.intro ((unhide H7).1.trans hE8) (And.intro ((unhide H7).2.1.ext hE8) (And.intro ((unhide H7).2.2.1.ext hE8) (unhide H7).2.2.2))); clear hE8))
  clear H6 H7 HBad HNo HK8
  go_upto_region 9 with (first
    | (refine wpList_loadB (x := .tmp 1) rfl rfl digest_wide rfl (cs := k7) (unhide H8).2.1 (unhide HK7).2.1 ?_)
    | (go_at_call 13; refine (unhide HSealE _ ((unhide HM).ext (unhide H8).1)).mono ?_; rintro e w9 ⟨rfl, hE9⟩; have H9 := hide (And.intro ((unhide H8).1.trans hE9) ((unhide H8).2.2.1.ext hE9)); clear hE9)
    | (refine wpList_storeB (ty := 27) (t := 27) (x := .tmp 10) (y := .tmp 40) (cs := boxL 3 emptyB tev) rfl rfl box_wide rfl rfl (Blk.new w9 _ _) rfl (boxL_size (unhide HTV).2.2.2.2) (unhide HB1).2 ?_; intro w10 hb10 hc10 hz10; have H10 := hide (And.intro (made_ext (unhide H9).1 hc10) (And.intro ((unhide H9).2.ext (made_ext1 hc10)) hb10)); clear hb10 hc10 hz10))
  clear H8 H9
  have d0 : w10.cell? ⟨w2.heap.size, 0, none⟩ = some (.int .i64 3) := by rw [(unhide H10).2.1.cell]; rfl
  have d1 : w10.cell? ⟨w2.heap.size, 1, none⟩ = some (.string cs) := by rw [(unhide H10).2.1.cell]; rfl
  have d2 : w10.cell? ⟨w9.heap.size, 1, none⟩ = some (.string emptyB) := by rw [(unhide H10).2.2.cell]; rfl
  have hcz6 : (cs.size : Int) = 6 := by omega
  unfold emptyB at d2
  go_wp2_with (first
    | (refine wpList_loadMG (x := .tmp 77) (g := w9.heap.size) (off := 2) ?_ rfl digest_wide ?_ (boxL_range (unhide H10).2.2) (unhide HTV).2.2.2.2 ?_; (focus (first | rfl | (go_simp; done) | simp [Region.wanted, yielded, hcn4])); (focus rfl))
    | (refine wpList_loadMG (x := .tmp 79) (g := w2.heap.size) (off := 2) ?_ rfl digest_wide ?_ (boxL_range (unhide H10).2.1) (unhide HTV).2.2.1 ?_; (focus (first | rfl | (go_simp; done) | simp [Region.wanted, yielded, hcn4])); (focus rfl)))
  go_ret
  exact ⟨rfl, (unhide H10).1⟩

end Go.Proofs.YtgndblhpfjkfhaaDoor

/-
  A region that draws its order, by facts: each operation but the last ones has a fact of the value that it leaves; whatever the order, it holds when its turn comes. Plain: no function of the program is named here.
-/
namespace Go.Proofs.YtgndblhpfjkfhaaDoor
open Go.RowKit

def upd (xs : Nat → Value) (i : Nat) (v : Value) : Nat → Value := fun j => if j = i then v else xs j
def putL : List (Option Nat) → Nat → (Nat → Value) → Array Value → Array Value
  | [], _, _, t => t
  | none :: ds, k, xs, t => putL ds (k + 1) xs t
  | some d :: ds, k, xs, t => putL ds (k + 1) xs (t.setIfInBounds d (xs k))
/-- The frame with what the operations have left. -/
def setAll (a : Act) (ds : List (Option Nat)) (xs : Nat → Value) : Act := { a with tmps := putL ds 0 xs a.tmps }
def NodupD : List (Option Nat) → Prop
  | [] => True
  | none :: ds => NodupD ds
  | some d :: ds => some d ∉ ds ∧ NodupD ds
def nodupB : List (Option Nat) → Bool
  | [] => true
  | none :: ds => nodupB ds
  | some d :: ds => !(ds.contains (some d)) && nodupB ds
theorem nodup_of : ∀ {ds : List (Option Nat)}, nodupB ds = true → NodupD ds
  | [], _ => trivial
  | none :: ds, h => nodup_of (ds := ds) h
  | some d :: ds, h => by
    rw [nodupB, Bool.and_eq_true] at h
    exact ⟨by simpa using h.1, nodup_of h.2⟩

theorem putL_set (v : Value) (d : Nat) (xs : Nat → Value) : ∀ (ds : List (Option Nat)) (k : Nat) (t : Array Value), some d ∉ ds → putL ds k xs (t.setIfInBounds d v) = (putL ds k xs t).setIfInBounds d v
  | [], _, _, _ => rfl
  | none :: ds, k, t, h => putL_set v d xs ds (k + 1) t (fun h2 => h (List.mem_cons_of_mem _ h2))
  | some e :: ds, k, t, h => by
    rw [putL, putL, ← putL_set v d xs ds (k + 1) _ (fun h2 => h (List.mem_cons_of_mem _ h2))]
    have hne : d ≠ e := fun he => h (by rw [he]; exact List.mem_cons_self)
    rw [Array.setIfInBounds_comm _ _ hne]
theorem putL_upd_lt (v : Value) (i : Nat) (xs : Nat → Value) : ∀ (ds : List (Option Nat)) (k : Nat) (t : Array Value), i < k → putL ds k (upd xs i v) t = putL ds k xs t
  | [], _, _, _ => rfl
  | none :: ds, k, t, h => putL_upd_lt v i xs ds (k + 1) t (by omega)
  | some e :: ds, k, t, h => by
    rw [putL, putL, show upd xs i v k = xs k from if_neg (by omega), putL_upd_lt v i xs ds (k + 1) _ (by omega)]
theorem putL_upd (v : Value) (xs : Nat → Value) (d : Nat) : ∀ (ds : List (Option Nat)) (k i : Nat) (t : Array Value), NodupD ds → ds[i]? = some (some d) → putL ds k (upd xs (k + i) v) t = (putL ds k xs t).setIfInBounds d v
  | [], _, _, _, _, h => by simp at h
  | none :: ds, k, 0, t, hn, h => by simp at h
  | some e :: ds, k, 0, t, hn, h => by
    obtain rfl : e = d := by simpa using h
    rw [Nat.add_zero, putL, putL, putL_upd_lt v k xs ds (k + 1) _ (by omega), show upd xs k v k = v from if_pos rfl, ← putL_set v e xs ds (k + 1) _ hn.1, Array.setIfInBounds_setIfInBounds]
  | none :: ds, k, i + 1, t, hn, h => by
    rw [putL, putL, show k + (i + 1) = (k + 1) + i from by omega]
    exact putL_upd v xs d ds (k + 1) i _ hn (by simpa using h)
  | some e :: ds, k, i + 1, t, hn, h => by
    rw [putL, putL, show upd xs (k + (i + 1)) v k = xs k from if_neg (by omega), show k + (i + 1) = (k + 1) + i from by omega]
    exact putL_upd v xs d ds (k + 1) i _ hn.2 (by simpa using h)
theorem putL_upd_none (v : Value) (xs : Nat → Value) : ∀ (ds : List (Option Nat)) (k i : Nat) (t : Array Value), ds[i]? = some none → putL ds k (upd xs (k + i) v) t = putL ds k xs t
  | [], _, _, _, h => by simp at h
  | none :: ds, k, 0, t, h => by rw [Nat.add_zero, putL, putL, putL_upd_lt v k xs ds (k + 1) _ (by omega)]
  | some e :: ds, k, 0, t, h => by simp at h
  | none :: ds, k, i + 1, t, h => by
    rw [putL, putL, show k + (i + 1) = (k + 1) + i from by omega]
    exact putL_upd_none v xs ds (k + 1) i _ (by simpa using h)
  | some e :: ds, k, i + 1, t, h => by
    rw [putL, putL, show upd xs (k + (i + 1)) v k = xs k from if_neg (by omega), show k + (i + 1) = (k + 1) + i from by omega]
    exact putL_upd_none v xs ds (k + 1) i _ (by simpa using h)
theorem setAll_put (a : Act) (ds : List (Option Nat)) (xs : Nat → Value) (i : Nat) (d : Option Nat) (v : Value) (hn : NodupD ds) (h : ds[i]? = some d) : (setAll a ds xs).put d v = setAll a ds (upd xs i v) := by
  cases d with
  | none =>
    have := putL_upd_none v xs ds 0 i a.tmps h
    rw [Nat.zero_add] at this
    unfold setAll Act.put
    rw [this]
  | some d =>
    have := putL_upd v xs d ds 0 i a.tmps hn h
    rw [Nat.zero_add] at this
    unfold setAll Act.put
    rw [this]
theorem putL_self (xs : Nat → Value) : ∀ (ds : List (Option Nat)) (k : Nat) (t : Array Value), (∀ i d, ds[i]? = some (some d) → t.getD d undef = xs (k + i)) → putL ds k xs t = t
  | [], _, _, _ => rfl
  | none :: ds, k, t, h => putL_self xs ds (k + 1) t fun i d hd => by rw [h (i + 1) d (by simpa using hd)]; congr 1; omega
  | some d :: ds, k, t, h => by
    have h0 := h 0 d rfl
    have e : t.setIfInBounds d (xs k) = t := by
      rw [Nat.add_zero] at h0
      rw [← h0]
      apply Array.ext_getElem?
      intro j
      by_cases hj : d = j
      · subst hj
        by_cases hd : d < t.size
        · simp [hd]
        · rw [Array.getElem?_eq_none (by simpa using hd), Array.getElem?_eq_none (by simpa using hd)]
      · rw [Array.getElem?_setIfInBounds_ne hj]
    rw [putL, e, putL_self xs ds (k + 1) t fun i d hd => by rw [h (i + 1) d (by simpa using hd)]; congr 1; omega]
theorem setAll_self (a : Act) (ds : List (Option Nat)) : setAll a ds (fun i => a.tmps.getD ((ds.getD i none).getD 0) undef) = a := by
  unfold setAll
  rw [putL_self]
  intro i d hd
  simp [List.getD_eq_getElem?_getD, hd]

section
variable {P : Program} {ops : Array Oper} {md : Region.Mode} {Q : Exit → Act → World → Prop}

def backB (md : Region.Mode) (ops : Array Oper) : Bool := (List.range ops.size).all fun i => match ops[i]? with | some o => o.after.all (fun e => !Region.binds md e || decide (e.on < i)) | none => true
def headAll (m n : Nat) : Array Bool := (Array.replicate m true) ++ (Array.replicate (n - m) false)
theorem headAll_of {listed : Array Bool} {m n : Nat} (hm : m ≤ n) (hs : listed.size = n) (h1 : ∀ i, i < m → listed.getD i false = true) (h2 : ∀ i, m ≤ i → i < n → listed.getD i true = false) : listed = headAll m n := by
  unfold headAll
  apply Array.ext
  · simp; omega
  · intro i h3 h4
    rw [Array.getElem_append]
    split
    · rename_i h
      have := h1 i (by simpa using h)
      rw [Array.getD_eq_getD_getElem?, Array.getElem?_eq_getElem h3] at this
      simpa using this
    · rename_i h
      have := h2 i (by simpa using h) (by omega)
      rw [Array.getD_eq_getD_getElem?, Array.getElem?_eq_getElem h3] at this
      simpa using this

theorem count_set {listed : Array Bool} {i : Nat} (h : listed.getD i true = false) : (listed.setIfInBounds i true).toList.count false + 1 = listed.toList.count false := by
  have hi : i < listed.size := by
    rcases Nat.lt_or_ge i listed.size with h' | h'
    · exact h'
    · simp [Array.getElem?_eq_none h'] at h
  have hv : listed.toList[i]'(by simpa using hi) = false := by
    rw [Array.getD_eq_getD_getElem?, Array.getElem?_eq_getElem hi] at h
    simpa using h
  rw [Array.toList_setIfInBounds, List.count_set (by simpa using hi), hv]
  have : 0 < listed.toList.count false := List.count_pos_iff.2 (hv ▸ List.getElem_mem _)
  rw [if_pos (by rfl), if_neg (by decide)]
  omega
theorem count_zero {listed : Array Bool} (h : listed.toList.count false = 0) : ∀ i, i < listed.size → listed.getD i false = true := by
  intro i hi
  have h1 := List.count_eq_zero.1 h
  have h2 : listed.toList[i]'(by simpa using hi) ≠ false := fun e => h1 (e ▸ List.getElem_mem _)
  rw [Array.getD_eq_getD_getElem?, Array.getElem?_eq_getElem hi]
  simpa using h2
theorem count_head (m n : Nat) : (headAll m n).toList.count false = n - m := by
  unfold headAll
  simp [List.count_replicate]

/-- k is listed when i comes up (f steps back at most). -/
def ancB (md : Region.Mode) (ops : Array Oper) : Nat → Nat → Nat → Bool
  | 0, _, _ => false
  | f + 1, i, k => Region.waitsFor md ops i k || (List.range ops.size).any fun j => Region.waitsFor md ops i j && ancB md ops f j k
/-- Operation i has the value of j among its operands. -/
def needB (md : Region.Mode) (ops : Array Oper) (i j : Nat) : Bool :=
  match ops[i]? with
  | some oi => oi.after.any fun e => (Region.binds md e && e.on == j) && (match e.ground with | .data => true | _ => false)
  | none => false
theorem need_waits {md : Region.Mode} {ops : Array Oper} {i j : Nat} (h : needB md ops i j = true) : Region.waitsFor md ops i j = true := by
  unfold needB at h
  unfold Region.waitsFor
  split at h
  · rename_i oi ho
    obtain ⟨e, he, hb⟩ := Array.any_eq_true'.1 h
    rw [ho]
    rw [Bool.and_eq_true] at hb
    exact Array.any_eq_true'.2 ⟨e, he, hb.1⟩
  · cases h
/-- The fact of j is still of use behind operation i. -/
def keepB (md : Region.Mode) (ops : Array Oper) (out : List Nat) (i j : Nat) : Bool := out.contains j || (List.range ops.size).any fun k => (needB md ops k j && !(k == i)) && !ancB md ops 4 i k
/-- The fact of j stands while i has not come up: some operation that waits for i has it among its operands. -/
def availB (md : Region.Mode) (ops : Array Oper) (out : List Nat) (i j : Nat) : Bool := out.contains j || (List.range ops.size).any fun k => needB md ops k j && Region.waitsFor md ops k i
def Closed (md : Region.Mode) (ops : Array Oper) (listed : Array Bool) : Prop := ∀ j oj, ops[j]? = some oj → listed.getD j false = true → ∀ e ∈ oj.after, Region.binds md e = true → listed.getD e.on false = true
theorem anc_listed {listed : Array Bool} (hc : Closed md ops listed) : ∀ (f i k : Nat), (∀ j, Region.waitsFor md ops i j = true → listed.getD j false = true) → ancB md ops f i k = true → listed.getD k false = true
  | 0, _, _, _, h => by cases h
  | f + 1, i, k, hd, h => by
    rw [ancB, Bool.or_eq_true, List.any_eq_true] at h
    rcases h with h | ⟨j, _, h⟩
    · exact hd k h
    · rw [Bool.and_eq_true] at h
      refine anc_listed hc f j k (fun j' hj' => ?_) h.2
      obtain ⟨oj, hoj, e, he, hbd, rfl⟩ := Region.waitsFor_spec hj'
      exact hc j oj hoj (hd j h.1) e he hbd

/-- What is kept while the first m operations come up: which are listed, their values, the world. -/
structure FactsAt (md : Region.Mode) (ops : Array Oper) (m : Nat) (out : List Nat) (B : (Nat → Bool) → (Nat → Value) → World → Prop) (link : Nat → Nat) (F : Nat → Value → Value → World → Prop) (listed : Array Bool) (xs : Nat → Value) (w : World) : Prop where
  size : listed.size = ops.size
  closed : Closed md ops listed
  tail : ∀ t, m ≤ t → t < ops.size → listed.getD t true = false
  base : B (fun i => listed.getD i false) xs w
  facts : ∀ i, i < m → listed.getD i false = true → (out.contains i = true ∨ ∃ k, k < ops.size ∧ needB md ops k i = true ∧ listed.getD k false = false) → F i (xs i) (xs (link i)) w

theorem ready_least (hb : backB md ops = true) {listed : Array Bool} (hs : listed.size = ops.size) : ∀ (n i : Nat), i < n → i < ops.size → listed.getD i true = false → Region.ready md ops listed ≠ []
  | 0, i, h, _, _ => by omega
  | n + 1, i, h, hi, hu => by
    intro h0
    by_cases hr : i ∈ Region.ready md ops listed
    · rw [h0] at hr; cases hr
    · apply hr
      rw [mem_ready]
      refine ⟨hu, ops[i], Array.getElem?_eq_getElem hi, fun e he hbd => ?_⟩
      have h1 := List.all_eq_true.1 hb i (List.mem_range.2 hi)
      rw [Array.getElem?_eq_getElem hi] at h1
      simp only [Array.all_eq_true_iff_forall_mem] at h1
      have h2 := h1 e he
      simp [hbd] at h2
      cases hl : listed.getD e.on false with
      | true => rfl
      | false => exact absurd h0 (ready_least hb hs n e.on (by omega) (by omega) (getD_in (by omega) hl))

/-- A fact may speak of the value of one operation that its own waits for. -/
def linkB (md : Region.Mode) (ops : Array Oper) (m : Nat) (link : Nat → Nat) : Bool := (List.range m).all fun i => (link i == i) || Region.waitsFor md ops i (link i)
theorem wpAny_facts (m : Nat) (ds : List (Option Nat)) (out : List Nat) (a0 : Act) (B : (Nat → Bool) → (Nat → Value) → World → Prop) (link : Nat → Nat) (F : Nat → Value → Value → World → Prop)
    (hm : m ≤ ops.size) (hds : ∀ i o, i < m → ops[i]? = some o → ds[i]? = some o.dst) (hnd : NodupD ds) (hlk : linkB md ops m link = true)
    (hb : backB md ops = true) (hsink : m = ops.size ∨ (Region.sinkB md ops m = true ∧ Region.chainB md ops m = true ∧ m < ops.size))
    (hstep : ∀ i o, i < m → ops[i]? = some o → ∀ (L : Nat → Bool) (xs : Nat → Value) (w : World) (K : Act → World → Prop), B L xs w → (∀ a b, L a = true → Region.waitsFor md ops a b = true → L b = true) → L i = false → (∀ j, j < m → needB md ops i j = true → L j = true ∧ F j (xs j) (xs (link j)) w) → (∀ j, j < m → j ≠ i → L j = true → availB md ops out i j = true → F j (xs j) (xs (link j)) w) → (∀ v w', F i v (upd xs i v (link i)) w' → (∀ j, j < m → j ≠ i → L j = true → keepB md ops out i j = true → F j (xs j) (xs (link j)) w → F j (xs j) (xs (link j)) w') → B (fun j => if j = i then true else L j) (upd xs i v) w' → K ((setAll a0 ds xs).put o.dst v) w') →
      if Region.wanted o (yielded ops (setAll a0 ds xs).tmps) = true then Oper.wp P o (setAll a0 ds xs) w K Q else K ((setAll a0 ds xs).put o.dst undef) w)
    (hend : ∀ (L : Nat → Bool) (xs : Nat → Value) (w : World), (∀ i, i < m → L i = true) → B L xs w → (∀ i, i < m → out.contains i = true → F i (xs i) (xs (link i)) w) → wpAny P md ops Q (ops.size - m) (headAll m ops.size) (setAll a0 ds xs) w) :
    ∀ (fuel : Nat) (listed : Array Bool) (xs : Nat → Value) (w : World), fuel = listed.toList.count false → FactsAt md ops m out B link F listed xs w → wpAny P md ops Q fuel listed (setAll a0 ds xs) w := by
  intro fuel
  induction fuel with
  | zero =>
    intro listed xs w hf h
    have hall := count_zero hf.symm
    have hme : m = ops.size := by
      rcases Nat.lt_or_ge m ops.size with hlt | hge
      · have h1 := h.tail m (Nat.le_refl _) hlt
        have h2 := hall m (by rw [h.size]; exact hlt)
        rw [getD_both h1] at h2
        cases h2
      · omega
    have hl : listed = headAll m ops.size := headAll_of hm h.size (fun i hi => hall i (by rw [h.size]; omega)) h.tail
    have h3 := hend _ xs w (fun i hi => hall i (by rw [h.size]; omega)) h.base fun i hi ho => h.facts i hi (hall i (by rw [h.size]; omega)) (.inl ho)
    rw [← hl, hme, Nat.sub_self] at h3
    exact h3
  | succ fuel ih =>
    intro listed xs w hf h
    by_cases hall : ∀ i, i < m → listed.getD i false = true
    · have hl : listed = headAll m ops.size := headAll_of hm h.size hall h.tail
      have h3 := hend _ xs w hall h.base fun i hi ho => h.facts i hi (hall i hi) (.inl ho)
      have h4 : fuel + 1 = ops.size - m := by rw [hf, hl, count_head]
      rw [← hl, ← h4] at h3
      exact h3
    · obtain ⟨i0, hi0⟩ := Classical.not_forall.1 hall
      obtain ⟨hi0m, hi0u⟩ := Classical.not_imp.1 hi0
      have hi0u' : listed.getD i0 true = false := getD_in (by rw [h.size]; omega) (by simpa using hi0u)
      refine ⟨fun h0 => absurd h0 (ready_least hb h.size (i0 + 1) i0 (by omega) (by omega) hi0u'), fun i hi => ?_⟩
      obtain ⟨hiu, o, ho, hdeps⟩ := mem_ready.1 hi
      have hilt : i < ops.size := (Array.getElem?_eq_some_iff.1 ho).1
      have him : i < m := by
        rcases hsink with rfl | ⟨hs, hc, hlt⟩
        · exact hilt
        · rcases Nat.lt_or_ge i m with h' | h'
          · exact h'
          · exact absurd hi (tail_waits hs hc hlt ⟨h.size, h.closed, h.tail⟩ _ i0 rfl hi0m hi0u' i h')
      have hdi := hds i o him ho
      have hdl : ∀ j, Region.waitsFor md ops i j = true → listed.getD j false = true := fun j hwt => by
        obtain ⟨oj, hoj, e, he, hbd, rfl⟩ := Region.waitsFor_spec hwt
        have : oj = o := Option.some.inj (hoj.symm.trans ho)
        subst this
        exact hdeps e he hbd
      have hnext : ∀ v w', F i v (upd xs i v (link i)) w' → (∀ j, j < m → j ≠ i → listed.getD j false = true → keepB md ops out i j = true → F j (xs j) (xs (link j)) w → F j (xs j) (xs (link j)) w') → B (fun j => if j = i then true else listed.getD j false) (upd xs i v) w' → wpAny P md ops Q fuel (listed.setIfInBounds i true) ((setAll a0 ds xs).put o.dst v) w' := by
        intro v w' h1 h2 h3
        rw [setAll_put a0 ds xs i o.dst v hnd hdi]
        refine ih _ _ _ ?_ ⟨by simp [h.size], fun j oj hj hl e he hbd => ?_, fun t ht ht' => ?_, ?_, fun j hj hl hu => ?_⟩
        · have := count_set hiu; omega
        · by_cases hij : i = j
          · subst hij
            have : oj = o := Option.some.inj (hj.symm.trans ho)
            subst this
            exact getD_set_true (hdeps e he hbd)
          · rw [getD_set_ne false hij] at hl
            exact getD_set_true (h.closed j oj hj hl e he hbd)
        · rw [getD_set_ne true (by omega)]
          exact h.tail t ht ht'
        · have he : (fun j => (listed.setIfInBounds i true).getD j false) = fun j => if j = i then true else listed.getD j false := funext fun j => by
            by_cases hij : j = i
            · subst hij
              rw [if_pos rfl, Array.getD_eq_getD_getElem?]
              simp [h.size, hilt]
            · rw [if_neg hij, getD_set_ne false (fun e => hij e.symm)]
          rw [he]
          exact h3
        · by_cases hij : i = j
          · subst hij
            rw [show upd xs i v i = v from if_pos rfl]
            exact h1
          · have hlj : upd xs i v (link j) = xs (link j) := if_neg (fun e => by
              have hj2 := List.all_eq_true.1 hlk j (List.mem_range.2 hj)
              rw [Bool.or_eq_true] at hj2
              rcases hj2 with hj2 | hj2
              · have : link j = j := by simpa using hj2
                exact hij (e.symm.trans this)
              · rw [e] at hj2
                rw [getD_set_ne false hij] at hl
                obtain ⟨oj, hoj, e2, he2, hbd, hon⟩ := Region.waitsFor_spec hj2
                have := h.closed j oj hoj hl e2 he2 hbd
                rw [hon, getD_both hiu] at this
                cases this)
            rw [hlj, show upd xs i v j = xs j from if_neg (fun e => hij e.symm)]
            rw [getD_set_ne false hij] at hl
            have hu' : out.contains j = true ∨ ∃ k, k < ops.size ∧ needB md ops k j = true ∧ k ≠ i ∧ listed.getD k false = false := by
              rcases hu with hu | ⟨k, hk, hw, hkl⟩
              · exact .inl hu
              · refine .inr ⟨k, hk, hw, fun e => ?_, ?_⟩
                · subst e
                  rw [Array.getD_eq_getD_getElem?] at hkl
                  simp [h.size, hk] at hkl
                · cases hkk : listed.getD k false with
                  | false => rfl
                  | true => rw [getD_set_true hkk] at hkl; cases hkl
            refine h2 j hj (fun e => hij e.symm) hl ?_ (h.facts j hj hl ?_)
            · unfold keepB
              rcases hu' with hu' | ⟨k, hk, hw, hne, hkl⟩
              · rw [hu']; rfl
              · rw [Bool.or_eq_true]
                refine .inr (List.any_eq_true.2 ⟨k, List.mem_range.2 hk, ?_⟩)
                have hna : ancB md ops 4 i k = false := by
                  cases ha : ancB md ops 4 i k with
                  | false => rfl
                  | true => rw [anc_listed h.closed 4 i k hdl ha] at hkl; cases hkl
                rw [hw, hna]
                simpa using hne
            · rcases hu' with hu' | ⟨k, hk, hw, _, hkl⟩
              · exact .inl hu'
              · exact .inr ⟨k, hk, hw, hkl⟩
      refine wpOp_step ho fun K' hK' => ?_
      refine hstep i o him ho _ xs w K' h.base (fun a b ha hw => ?_) (getD_both hiu) (fun j hj hwt => ⟨hdl j (need_waits hwt), h.facts _ hj (hdl j (need_waits hwt)) (.inr ⟨i, hilt, hwt, getD_both hiu⟩)⟩) (fun j hj hne hl hk => ?_) (fun v w' h1 h2 h3 => hK' _ _ (hnext v w' h1 h2 h3))
      · obtain ⟨oj, hoj, e, he, hbd, rfl⟩ := Region.waitsFor_spec hw
        exact h.closed a oj hoj ha e he hbd
      · refine h.facts j hj hl ?_
        unfold availB at hk
        rw [Bool.or_eq_true, List.any_eq_true] at hk
        rcases hk with hk | ⟨k, hkr, hk⟩
        · exact .inl hk
        · rw [Bool.and_eq_true] at hk
          refine .inr ⟨k, List.mem_range.1 hkr, hk.1, ?_⟩
          cases hkl : listed.getD k false with
          | false => rfl
          | true =>
            obtain ⟨ok, hok, e, he, hbd, hon⟩ := Region.waitsFor_spec hk.2
            have := h.closed k ok hok hkl e he hbd
            rw [hon, getD_both hiu] at this
            cases this

/-- What a step has to show, operation by operation. -/
def StepOK (P : Program) (Q : Exit → Act → World → Prop) (ops : Array Oper) (m : Nat) (ds : List (Option Nat)) (out : List Nat) (a0 : Act) (B : (Nat → Bool) → (Nat → Value) → World → Prop) (link : Nat → Nat) (F : Nat → Value → Value → World → Prop) (i : Nat) (o : Oper) : Prop :=
  ∀ (L : Nat → Bool) (xs : Nat → Value) (w : World) (K : Act → World → Prop), B L xs w → (∀ a b, L a = true → Region.waitsFor .any ops a b = true → L b = true) → L i = false → (∀ j, j < m → needB .any ops i j = true → L j = true ∧ F j (xs j) (xs (link j)) w) → (∀ j, j < m → j ≠ i → L j = true → availB .any ops out i j = true → F j (xs j) (xs (link j)) w) → (∀ v w', F i v (upd xs i v (link i)) w' → (∀ j, j < m → j ≠ i → L j = true → keepB .any ops out i j = true → F j (xs j) (xs (link j)) w → F j (xs j) (xs (link j)) w') → B (fun j => if j = i then true else L j) (upd xs i v) w' → K ((setAll a0 ds xs).put o.dst v) w') →
      if Region.wanted o (yielded ops (setAll a0 ds xs).tmps) = true then Oper.wp P o (setAll a0 ds xs) w K Q else K ((setAll a0 ds xs).put o.dst undef) w
def StepsOK (P : Program) (Q : Exit → Act → World → Prop) (ops : Array Oper) (m : Nat) (ds : List (Option Nat)) (out : List Nat) (a0 : Act) (B : (Nat → Bool) → (Nat → Value) → World → Prop) (link : Nat → Nat) (F : Nat → Value → Value → World → Prop) : Nat → List Oper → Prop
  | _, [] => True
  | i, o :: l => StepOK P Q ops m ds out a0 B link F i o ∧ StepsOK P Q ops m ds out a0 B link F (i + 1) l
theorem steps_at {m : Nat} {ds : List (Option Nat)} {out : List Nat} {a0 : Act} {B : (Nat → Bool) → (Nat → Value) → World → Prop} {link : Nat → Nat} {F : Nat → Value → Value → World → Prop} : ∀ (l : List Oper) (k i : Nat) (o : Oper), StepsOK P Q ops m ds out a0 B link F k l → l[i]? = some o → StepOK P Q ops m ds out a0 B link F (k + i) o
  | [], _, _, _, _, h => by simp at h
  | x :: l, k, 0, o, hs, h => by
    obtain rfl : x = o := by simpa using h
    exact hs.1
  | x :: l, k, i + 1, o, hs, h => by
    have := steps_at l (k + 1) i o hs.2 (by simpa using h)
    rwa [show k + (i + 1) = k + 1 + i from by omega]
def dstB (ops : Array Oper) (m : Nat) (ds : List (Option Nat)) : Bool := (List.range m).all fun i => match ops[i]? with | some o => ds[i]? == some o.dst | none => true

/-- The same from the head of the region. -/
theorem region_facts {id : Nat} {a0 : Act} {w0 : World} (m : Nat) (l : List Oper) (ds : List (Option Nat)) (out : List Nat) (B : (Nat → Bool) → (Nat → Value) → World → Prop) (link : Nat → Nat) (F : Nat → Value → Value → World → Prop)
    (hl : ops = l.toArray) (hmx : P.follows .mixedOrders = true) (hm : m ≤ ops.size) (hds : dstB ops m ds = true) (hnd : nodupB ds = true) (hlk : linkB .any ops m link = true)
    (hb : backB .any ops = true) (hsink : m = ops.size ∨ (Region.sinkB .any ops m = true ∧ Region.chainB .any ops m = true ∧ m < ops.size))
    (hB : ∀ xs, B (fun _ => false) xs w0.drew)
    (hstep : StepsOK P Q ops m ds out a0 B link F 0 (l.take m))
    (hend : ∀ (L : Nat → Bool) (xs : Nat → Value) (w : World), (∀ i, i < m → L i = true) → B L xs w → (∀ i, i < m → out.contains i = true → F i (xs i) (xs (link i)) w) → wpAny P .any ops Q (ops.size - m) (headAll m ops.size) (setAll a0 ds xs) w) :
    (Code.region id ops true).wp P Q a0 w0 := by
  refine wp_region_any hmx ?_
  have h := wpAny_facts m ds out a0 B link F hm (fun i o hi ho => by
      have h1 := List.all_eq_true.1 hds i (List.mem_range.2 hi)
      rw [ho] at h1
      simpa using h1) (nodup_of hnd) hlk hb hsink (fun i o hi ho => by
      have := steps_at (l.take m) 0 i o hstep (by rw [List.getElem?_take, if_pos hi]; rw [hl] at ho; simpa using ho)
      rw [Nat.zero_add] at this
      exact this) hend ops.size (Array.replicate ops.size false) (fun i => a0.tmps.getD ((ds.getD i none).getD 0) undef) w0.drew (by simp) ⟨by simp, fun j oj hj hl => (by rw [getD_replicate_false] at hl; cases hl), fun t ht ht' => (by simp [ht']), (by rw [show (fun i => (Array.replicate ops.size false).getD i false) = fun _ => false from funext fun i => getD_replicate_false _ i]; exact hB _), fun i hi hl => (by rw [getD_replicate_false] at hl; cases hl)⟩
  rw [setAll_self] at h
  exact h
end

end Go.Proofs.YtgndblhpfjkfhaaDoor
