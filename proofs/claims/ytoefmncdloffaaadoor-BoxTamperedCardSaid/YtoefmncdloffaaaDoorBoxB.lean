
/-
  box.apply.
-/
import Derived.Test.YtoefmncdloffaaaDoorBoxA
import Derived.Defers
import Derived.Deep.CutRange
import Derived.Deep.RegionHeld3
namespace Go.Proofs.YtoefmncdloffaaaDoor
open Go.RowKit

def keyS (key : List UInt8) (nonce : Int) : List UInt8 := deriveS key labEnc.data.toList [wInt nonce]
def applyS (key : List UInt8) (nonce : Int) (s : List UInt8) : List UInt8 := List.zipWith (· ^^^ ·) s (streamS (keyS key nonce) s.length)

def mixS (s x : List UInt8) (k : Nat) : List UInt8 := (List.zipWith (· ^^^ ·) s x).take k ++ s.drop k
theorem mixS_zero (s x : List UInt8) : mixS s x 0 = s := by unfold mixS; simp
theorem mixS_end (s x : List UInt8) (h : x.length = s.length) : mixS s x s.length = List.zipWith (· ^^^ ·) s x := by
  unfold mixS
  rw [List.drop_length, List.append_nil, List.take_of_length_le (by rw [List.length_zipWith]; omega)]
theorem mixS_length (s x : List UInt8) (k : Nat) (h : x.length = s.length) (hk : k ≤ s.length) : (mixS s x k).length = s.length := by
  unfold mixS
  rw [List.length_append, List.length_take, List.length_zipWith, List.length_drop]
  omega
theorem mixS_at (s x : List UInt8) (k : Nat) (h : x.length = s.length) (hk : k < s.length) : (mixS s x k)[k]? = some s[k] := by
  unfold mixS
  rw [List.getElem?_append_right (by rw [List.length_take]; omega), List.length_take, List.length_zipWith, List.getElem?_drop, show min k (min s.length x.length) = k from by omega, Nat.sub_self, Nat.add_zero, List.getElem?_eq_getElem hk]
theorem mixS_step (s x : List UInt8) (k : Nat) (h : x.length = s.length) (hk : k < s.length) : mixS s x (k + 1) = (mixS s x k).set k (s[k] ^^^ x[k]) := by
  apply List.ext_getElem?
  intro i
  unfold mixS
  rw [List.getElem?_set]
  have hl : ((List.zipWith (· ^^^ ·) s x).take k).length = k := by rw [List.length_take, List.length_zipWith]; omega
  have hl' : ((List.zipWith (· ^^^ ·) s x).take (k + 1)).length = k + 1 := by rw [List.length_take, List.length_zipWith]; omega
  rw [List.getElem?_append, List.getElem?_append, hl, hl', List.length_append, hl, List.length_drop]
  by_cases h1 : i < k
  · rw [if_pos (by omega), if_neg (by omega), if_pos h1, List.getElem?_take, List.getElem?_take, if_pos (by omega), if_pos h1]
  · by_cases h2 : k = i
    · subst h2
      rw [if_pos (by omega), if_pos rfl, if_pos (by omega), List.getElem?_take, if_pos (by omega), List.getElem?_zipWith, List.getElem?_eq_getElem hk, List.getElem?_eq_getElem (by omega)]
    · rw [if_neg (by omega), if_neg h2, if_neg h1, List.getElem?_drop, List.getElem?_drop]
      congr 1
      omega

/-- The deferred closure: the result is the bytes at hand. -/
theorem applyD (l : List UInt8) (v o : Value) (g7 g6 : Nat) (u : FrameMode) (w : World) (h7 : w.cell? ⟨g7, 0, none⟩ = some v) (h6 : w.cell? ⟨g6, 0, none⟩ = some o) (f6 : w.frozen? ⟨g6, 0, none⟩ = false) (hr : Reads w 1 v l.length (l.map u8v)) :
    CallsD Tryd.prog 90 #[.pointer (some ⟨g7, 0, none⟩), .pointer (some ⟨g6, 0, none⟩)] u w fun e u' w' => u' = u ∧ (e = .returned (.tuple #[]) ∧ w' = w.setCell ⟨g6, 0, none⟩ (.string (strOf l))) := by
  have hc := run_str_of (P := Tryd.prog) (w := w) Tryd.underlying29 Tryd.underlying5 Tryd.underlying9 hr
  obtain ⟨A, c, rfl⟩ : ∃ A c, v = .slice A l.length c := by obtain ⟨_, A, c, h, _⟩ := hr; exact ⟨A, c, h⟩
  go_enter_d Tryd.func90, Tryd.ntmps90
  go_wp2
  go_end0
  exact ⟨rfl, rfl⟩

set_option maxRecDepth 100000 in
set_option maxHeartbeats 2000000 in
theorem apply_any (key : List UInt8) (nonce : Int) (s : ByteArray) (w : World) (hM : ShaMem w) (hk : key.length = 16) (h1 : -9223372036854775808 ≤ nonce) (h2 : nonce < 9223372036854775808) (hs : s.size ≤ 100000) :
    Calls Tryd.prog 49 #[.agg (key.map u8v).toArray, .int .i64 nonce, .string s] w fun e w' => e = .returned (.string (strOf (applyS key nonce s.data.toList))) ∧ Ext w w' := by
  obtain ⟨arr, harr⟩ : ∃ r, (key.map u8v).toArray = r := ⟨_, rfl⟩
  have HM := hide hM
  have HW1 := hide (fun w => wint_any nonce w h1 h2)
  have HA := hide harr
  rw [harr]
  clear harr hM h1 h2
  have hasz : arr.size = 16 := by rw [← unhide HA]; simpa using hk
  have hmf : ∀ (fn : Fn) (first cap : Array Value) (w : World), (Instr.makeFunc fn first cap).run Tryd.prog w = .ok (.func fn first cap) w := fun _ _ _ _ => rfl
  go_enter_defers Tryd.func49, Tryd.ntmps49
  go_wp2_with (refine wpList_bytesOf rfl rfl Tryd.underlying9 Tryd.underlying29 Tryd.underlying5 rfl (by unfold maxLen; omega) ?_; intro c1 w1 hr1 hE1 hf1; have H1 := hide (And.intro hr1 (And.intro hE1 hf1)); clear hr1 hE1 hf1)
  have hsz1 : w.heap.size + 2 ≤ w1.heap.size := by have h2 := (unhide H1).2.1.size'; simp at h2; omega
  have HRB := hide (show Reads (w1.alloc (.cells #[.slice (some ⟨w.heap.size + 1 + 1, 0, none⟩) s.size c1] 29)) 1 (.slice (some ⟨w.heap.size + 1 + 1, 0, none⟩) s.size c1) s.size (s.data.toList.map byteV) ∧ ∀ i, i < s.size → (w1.alloc (.cells #[.slice (some ⟨w.heap.size + 1 + 1, 0, none⟩) s.size c1] 29)).frozen? ⟨w.heap.size + 1 + 1, i, none⟩ = false from by
    have h1 := (unhide H1).1
    have h3 := (unhide H1).2.2
    simp only [World.size_alloc] at h1 h3
    refine ⟨h1.ext ((Ext.refl w1).alloc _), fun i hi => ?_⟩
    obtain ⟨_, hc⟩ : ∃ u, w1.cell? ⟨w.heap.size + 1 + 1, i, none⟩ = some u := by
      obtain ⟨b, o, c, u, hv, _, _, _, _, hcc⟩ := h1.at1 hi
      cases hv
      exact ⟨u, by simpa using hcc⟩
    exact Ext.frozenv ((Ext.refl w1).alloc _) (h3 i hi) (lt_of_cell hc))
  have HB6 := hide (show Blk (w1.alloc (.cells #[.slice (some ⟨w.heap.size + 1 + 1, 0, none⟩) s.size c1] 29)) (w.heap.size + 1) 9 #[.string { data := #[] }] from ((Blk.new' (w.alloc (.cells arr 23)) _ _ (by simp)).ext (unhide H1).2.1).alloc _)
  have HB7 := hide (show Blk (w1.alloc (.cells #[.slice (some ⟨w.heap.size + 1 + 1, 0, none⟩) s.size c1] 29)) w1.heap.size 29 #[.slice (some ⟨w.heap.size + 1 + 1, 0, none⟩) s.size c1] from Blk.new _ _ _)
  have HBA := hide (show Blk (w1.alloc (.cells #[.slice (some ⟨w.heap.size + 1 + 1, 0, none⟩) s.size c1] 29)) w.heap.size 23 arr from ((((Blk.new w _ arr).alloc _).ext (unhide H1).2.1).alloc _))
  have HP := hide (show Ext w (w1.alloc (.cells #[.slice (some ⟨w.heap.size + 1 + 1, 0, none⟩) s.size c1] 29)) from ((((Ext.refl w).alloc _).alloc _).trans (unhide H1).2.1).alloc _)
  generalize hW0 : (w1.alloc (.cells #[.slice (some ⟨w.heap.size + 1 + 1, 0, none⟩) s.size c1] 29)) = W0
  rw [hW0] at HP HRB HB6 HB7 HBA
  obtain ⟨dk, hdk⟩ : ∃ d, keyS key nonce = d := ⟨_, rfl⟩
  have HD := hide hdk
  have HKA := hide (show Reads W0 1 (.slice (some ⟨w.heap.size, 0, none⟩) 16 16) key.length (key.map u8v) from by
    have := Reads.of_blk (unhide HBA) (i := 0) (n := 16) (c := 16) (by omega) (by omega) (by unfold maxLen; omega)
    rw [← unhide HA] at this
    simp only [List.drop_zero] at this
    rw [List.take_of_length_le (by rw [List.length_map]; omega)] at this
    rw [hk]
    exact this)
  clear hdk
  have HPC := hide (fun (W4 : World) (pv : Value) (A3 : Option Addr) (c3 : Nat) (hX : Ext W0 W4) (hpv : Reads W4 1 pv 1 [.slice A3 (wInt nonce).length c3]) (hr : Reads W4 1 (.slice A3 (wInt nonce).length c3) (wInt nonce).length ((wInt nonce).map u8v)) => derive_any key (.slice (some ⟨w.heap.size, 0, none⟩) 16 16) labEnc [wInt nonce] pv W4 ((unhide HM).ext ((unhide HP).trans hX)) ((unhide HKA).ext hX) (by omega) (by decide) ⟨[.slice A3 (wInt nonce).length c3], rfl, hpv, fun i p hp => by
    cases i with
    | zero => cases hp; exact ⟨_, rfl, hr⟩
    | succ i => simp at hp⟩ (by simp) (fun p hp => by simp at hp; subst hp; have := wInt_length nonce; omega))
  go_cut [8] from 14 to 18 (fun s8 wx => ∃ g, s8 = .pointer (some ⟨g, 0, none⟩) ∧ Hid (Blk wx g 23 ((dk.map u8v).toArray) ∧ Ext W0 wx ∧ W0.heap.size ≤ g))
  case first =>
    have HS := hide (show ((dk.map u8v).toArray).size = 16 from by rw [← unhide HD]; unfold keyS; simpa using deriveS_length _ _ _)
    refine wp_region_noPanic ?_
    go_region_law (first
      | (go_simp; go_at_call 17; refine (unhide HW1 _).mono ?_; rintro e w3 ⟨A3, c3, rfl, ho3, hE3⟩
         first
         | (have H3 := hide (show Reads w3 1 (.slice A3 (wInt nonce).length c3) (wInt nonce).length ((wInt nonce).map u8v) ∧ Ext W0 w3 ∧ True from And.intro (Reads.of_own ho3) (And.intro (((Ext.refl W0).drew).trans hE3) trivial)); clear ho3 hE3)
         | (have H3 := hide (show Reads w3 1 (.slice A3 (wInt nonce).length c3) (wInt nonce).length ((wInt nonce).map u8v) ∧ Ext W0 w3 ∧ Blk w3 W0.heap.size 23 (Array.replicate 16 (.int .u8 0)) from And.intro (Reads.of_own ho3) (And.intro ((((Ext.refl W0).drew).alloc _).trans hE3) ((Blk.new W0.drew _ _).ext hE3))); clear ho3 hE3))
      | (rename_i K hK; go_simp; go_at_call 15; refine (unhide HPC _ _ A3 c3 ?_ ?_ ?_).mono ?_
         (focus (first | exact (unhide H3).2.1.alloc _ | exact ((unhide H3).2.1.alloc _).alloc _))
         (focus (first | exact Reads.new1 _ _ _ | exact (Reads.new1 _ _ _).ext ((Ext.refl _).alloc _) | (have h := Reads.new1 (w3.alloc (.cells (Array.replicate 16 (.int .u8 0)) 23)) (.slice A3 (wInt nonce).length c3) 29; rw [World.size_alloc] at h; exact h)))
         (focus (first | exact (unhide H3).1.ext ((Ext.refl _).alloc _) | exact (unhide H3).1.ext (((Ext.refl _).alloc _).alloc _)))
         rintro e w5 ⟨rfl, hE5⟩
         rw [show deriveS key labEnc.data.toList [wInt nonce] = dk from unhide HD]
         have H5 := hide (show Ext W0 w5 ∧ Ext _ w5 from And.intro (by first | exact ((unhide H3).2.1.alloc _).trans hE5 | exact (((unhide H3).2.1.alloc _).alloc _).trans hE5) hE5)
         clear hE5
         dsimp only
         refine hK _ _ ?_
         clear hK K
         first
         | (refine wpAny_ready (rs := [5]) (by kernel_rfl) (by simp) (AllReady.cons rfl (fun J hJ => ?_) AllReady.nil)
            rw [if_pos (by rfl)]
            go_simp
            refine hJ _ _ ?_
            clear hJ J
            refine wpAny_ready (rs := [6]) (by kernel_rfl) (by simp) (AllReady.cons rfl (fun J hJ => ?_) AllReady.nil)
            refine step_storeB (ty := 23) (t := 23) (x := .tmp 8) (y := .tmp 18) rfl rfl digest_wide rfl rfl (Blk.new w5 _ _) ?_ ?_ ?_ ?_
            · rfl
            · exact unhide HS
            · exact bytes_one _
            intro w7 hb7 hc7 hz7
            have H7 := hide (And.intro hb7 (And.intro (((unhide H5).1.alloc _).trans' hc7 (fun _ _ h => h) (fun i hi e => by have := (unhide H5).1.size'; omega)) (unhide H5).1.size'))
            clear hb7 hc7 hz7
            refine hJ _ _ ?_
            clear hJ J)
         | (refine wpAny_ready (rs := [6]) (by kernel_rfl) (by simp) (AllReady.cons rfl (fun J hJ => ?_) AllReady.nil)
            have hz3 := (unhide H3).2.1.size'
            refine step_storeB (ty := 23) (t := 23) (x := .tmp 8) (y := .tmp 18) (old := Array.replicate 16 (.int .u8 0)) rfl rfl digest_wide rfl rfl ?_ ?_ ?_ ?_ ?_
            · first | exact (((unhide H3).2.2).alloc _).ext (unhide H5).2 | exact ((Blk.new w3 _ _).alloc _).ext (unhide H5).2 | exact (Blk.new' (w3.alloc _) _ _ (by simp)).ext (unhide H5).2
            · rfl
            · exact unhide HS
            · exact bytes_one _
            intro w7 hb7 hc7 hz7
            have H7 := hide (And.intro hb7 (And.intro ((unhide H5).1.trans' hc7 (fun _ _ h => h) (fun i hi e => by omega)) (show W0.heap.size ≤ _ by omega)))
            clear hb7 hc7 hz7 hz3
            refine hJ _ _ ?_
            clear hJ J)))
    all_goals
      refine NoPanic.normal ?_
      go_wp2_with fail
      go_meet
      exact ⟨_, rfl, hide ⟨(unhide H7).1, (unhide H7).2.1, by have := (unhide H7).2.2; omega⟩⟩
  case rest =>
    obtain ⟨g8, rfl, H8⟩ := hcut
    have HS := hide (show ((dk.map u8v).toArray).size = 16 ∧ dk.length = 16 from by rw [← unhide HD]; unfold keyS; exact ⟨by simpa using deriveS_length _ _ _, deriveS_length _ _ _⟩)
    have c7 := ((unhide HB7).ext (unhide H8).2.1).cell 0
    have HQ := hide (fun (W : World) (hE : Ext wc W) => stream_pos dk (.slice (some ⟨g8, 0, none⟩) 16 16) s.size W ((unhide HM).ext (((unhide HP).trans (unhide H8).2.1).trans hE)) (by
      have := Reads.of_blk ((unhide H8).1.ext hE) (i := 0) (n := 16) (c := 16) (by rw [(unhide HS).1]; omega) (by omega) (by unfold maxLen; omega)
      simp only [List.drop_zero] at this
      rw [List.take_of_length_le (by rw [List.length_map, (unhide HS).2]; omega)] at this
      rw [(unhide HS).2]
      exact this) (by have := (unhide HS).2; omega) (by omega))
    go_upto_region 4 with fail
    refine wp_region_noPanic ?_
    go_region_law (first
      | (go_simp; go_at_call 91; refine (unhide HQ _ ((Ext.refl wc).drew)).mono ?_; rintro e w9 ⟨A9, c9, rfl, ho9, hE9⟩
         have H9 := hide (And.intro ho9 (((Ext.refl wc).drew).trans hE9))
         clear ho9 hE9))
    refine NoPanic.normal ?_
    obtain ⟨x, hx⟩ : ∃ x, streamS dk s.size = x := ⟨_, rfl⟩
    have HX := hide hx
    rw [hx] at H9
    obtain ⟨sl, hsl⟩ : ∃ l, s.data.toList = l := ⟨_, rfl⟩
    have hsz : sl.length = s.size := by rw [← hsl, Array.length_toList]; rfl
    have hsW : W0.heap.size = w1.heap.size + 1 := by rw [← hW0]; simp
    have E9 : Ext W0 w9 := (unhide H8).2.1.trans (unhide H9).2
    have hxl : x.length = sl.length := by have := (unhide H9).1.1; rw [List.length_map] at this; omega
    have HSL := hide hsl
    rw [hsl] at HRB
    clear hx c7
    go_wp2
    go_simp
    go_loopw [24] (fun i wr => ∃ k : Nat, k ≤ s.size ∧ i = .int .i64 k ∧ Hid (Reads wr 1 (.slice (some ⟨w.heap.size + 1 + 1, 0, none⟩) s.size c1) s.size ((mixS sl x k).map u8v) ∧ (∀ i, i < s.size → wr.frozen? ⟨w.heap.size + 1 + 1, i, none⟩ = false) ∧ Blk wr w1.heap.size 29 #[.slice (some ⟨w.heap.size + 1 + 1, 0, none⟩) s.size c1] ∧ Blk wr (w.heap.size + 1) 9 #[.string { data := #[] }] ∧ Chg (fun b => b = w.heap.size + 1 + 1) w9 wr)) (fun i _ => s.size - (intOf i).toNat)
    case atStart => exact ⟨0, Nat.zero_le _, rfl, hide ⟨by rw [mixS_zero]; exact (unhide HRB).1.ext E9, fun i hi => Ext.frozenv E9 ((unhide HRB).2 i hi) (by show w.heap.size + 1 + 1 < _; omega), (unhide HB7).ext E9, (unhide HB6).ext E9, Chg.refl _ _⟩⟩
    case round =>
      obtain ⟨k, hk, rfl, HI⟩ := hrel
      by_cases hlt : k < s.size
      · obtain ⟨b, o, c', u, hv, _, _, hb, hu, hcc⟩ := (unhide HI).1.at1 hlt
        cases hv
        rw [List.getElem?_map, mixS_at sl x k hxl (by omega)] at hu
        cases hu
        have hOX := ownsRow_chg (unhide H9).1 (unhide HI).2.2.2.2 (fun j hj e => by have h1 := ((unhide H9).1.lt j hj).1; have h2 := (unhide H8).2.1.size'; simp at h1; omega)
        obtain ⟨b, o, c', u, hv, _, _, hb', hu, hcx⟩ := (Reads.of_own hOX).at1 hlt
        cases hv
        rw [List.getElem?_map, List.getElem?_eq_getElem (show k < x.length by omega)] at hu
        cases hu
        clear hOX
        have hw12 : ¬ w1.heap.size = w.heap.size + 1 + 1 := by have := (unhide H1).1.own_lt (by omega) (by omega) _ rfl; simp at this; omega
        have c7 := (unhide HI).2.2.1.cell 0
        have hf := (unhide HI).2.1 k hlt
        have HS2 := hide (mixS_step sl x k hxl (by omega))
        rw [Nat.zero_add] at hcc
        unfold u8v at hcc hcx
        generalize sl[k] = y at *
        generalize x[k] = z at *
        have HX2 := hide (xor8 y z)
        go_wp2
        go_roundw
        case rel =>
          refine ⟨k + 1, by omega, by go_num, hide ⟨?_, fun i hi => by rw [World.frozen?_setCell]; exact (unhide HI).2.1 i hi, (unhide HI).2.2.1.far' hw12 k _, (unhide HI).2.2.2.1.far' (by omega) k _, (unhide HI).2.2.2.2.setCell (p := ⟨w.heap.size + 1 + 1, k, none⟩) (.inl rfl) _⟩⟩
          rw [unhide HS2, List.map_set]
          have := (unhide HI).1.set (k := k) (by omega) (u8v (y ^^^ z))
          rw [unhide HX2]
          exact this
        case measure => simp [intOf]; omega
      · obtain rfl : k = s.size := by omega
        have hA : applyS key nonce s.data.toList = mixS sl x s.size := by
          unfold applyS
          rw [unhide HD, unhide HSL, hsz, unhide HX, ← hsz, mixS_end _ _ hxl]
        have hAl : (applyS key nonce s.data.toList).length = s.size := by rw [hA, mixS_length _ _ _ hxl (by omega), hsz]
        have hfin : Reads wr 1 (.slice (some ⟨w.heap.size + 1 + 1, 0, none⟩) s.size c1) (applyS key nonce s.data.toList).length ((applyS key nonce s.data.toList).map u8v) := by rw [hAl, hA]; exact (unhide HI).1
        have HF := hide hfin
        have hw12 := hsz1
        clear hA hAl hfin
        go_wp2
        refine leaves_cons (f := 90) (args := #[.pointer (some ⟨w1.heap.size, 0, none⟩), .pointer (some ⟨w.heap.size + 1, 0, none⟩)]) (by simp) (by simp [go_sem]) ?_
        refine (applyD (applyS key nonce s.data.toList) _ _ _ _ .returning _ ((unhide HI).2.2.1.cell 0) ((unhide HI).2.2.2.1.cell 0) ((unhide HI).2.2.2.1.frozen 0) (unhide HF)).mono ?_
        rintro e u' w'' ⟨rfl, rfl, rfl⟩
        have hc6 : (wr.setCell ⟨w.heap.size + 1, 0, none⟩ (.string (strOf (applyS key nonce s.data.toList)))).cell? ⟨w.heap.size + 1, 0, none⟩ = some (.string (strOf (applyS key nonce s.data.toList))) := World.cell?_setCell_same' _ _ _ (by rw [(unhide HI).2.2.2.1.cell 0]; rfl)
        have hE : Ext w (wr.setCell ⟨w.heap.size + 1, 0, none⟩ (.string (strOf (applyS key nonce s.data.toList)))) := ((unhide HP).trans E9).trans' ((Chg.mono (T := fun b => b = w.heap.size + 1 + 1 ∨ b = w.heap.size + 1) (unhide HI).2.2.2.2 (fun _ _ h => .inl h)).setCell (p := ⟨w.heap.size + 1, 0, none⟩) (.inl (.inr rfl)) _) (fun _ _ h => h.elim) (fun i hi e => by omega)
        simp [Leaves, settle, results, Tryd.results49, go_sem, hc6]
        exact hE

end Go.Proofs.YtoefmncdloffaaaDoor
