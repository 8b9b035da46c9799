/-
  Several texts in one file: each has its own heading below.
-/
import Derived.Test.YtjemfefkgfoikaaDoorWotsG
import Derived.Test.YtjemfefkgfoikaaDoorDigs
import Derived.Deep.RegionLaw
import Derived.Deep.Cut
import Derived.Test.YtjemfefkgfoikaaDoorWotsR
import Derived.Test.YtjemfefkgfoikaaDoorMore
import Derived.RangeFuncBound

/-
  wots.advance, wots.start, the law's step.
-/
namespace Go.Proofs.YtjemfefkgfoikaaDoor
open Go.RowKit

theorem Parts.two {w : World} {pv a b : Value} {la lb : List UInt8} (h : Reads w 1 pv 2 [a, b]) (ha : Reads w 1 a la.length (la.map u8v)) (hb : Reads w 1 b lb.length (lb.map u8v)) : Parts w pv [la, lb] :=
  ⟨[a, b], rfl, h, fun i p hp => by
    match i, hp with
    | 0, hp => cases hp; exact ⟨_, rfl, ha⟩
    | 1, hp => cases hp; exact ⟨_, rfl, hb⟩
    | i + 2, hp => simp at hp⟩
theorem Parts.one {w : World} {pv a : Value} {la : List UInt8} (h : Reads w 1 pv 1 [a]) (ha : Reads w 1 a la.length (la.map u8v)) : Parts w pv [la] :=
  ⟨[a], rfl, h, fun i p hp => by
    match i, hp with
    | 0, hp => cases hp; exact ⟨_, rfl, ha⟩
    | i + 1, hp => simp at hp⟩
/-- The slice of a whole digest's block. -/
theorem Blk.digR {w : World} {g : Nat} {t : TypeId} {d : List UInt8} (h : Blk w g t (d.map u8v).toArray) (hd : d.length = 16) : Reads w 1 (.slice (some ⟨g, 0, none⟩) 16 16) d.length (d.map u8v) := by
  have := Reads.of_blk h (i := 0) (n := 16) (c := 16) (by simp; omega) (by omega) (by unfold maxLen; omega)
  simp only [List.drop_zero] at this
  rw [List.take_of_length_le (by simp; omega)] at this
  rw [hd]
  exact this
theorem Reads.new2 (w : World) (a b : Value) (e : TypeId) {g : Nat} (hg : g = w.heap.size) : Reads (w.alloc (.cells #[a, b] e)) 1 (.slice (some ⟨g, 0, none⟩) 2 2) 2 [a, b] := by
  subst hg
  exact Reads.of_blk (Blk.new w e #[a, b]) (i := 0) (n := 2) (c := 2) (by simp) (by omega) (by unfold maxLen; omega)

set_option maxRecDepth 100000 in
set_option maxHeartbeats 2000000 in
theorem lstep_any (k : Nat) (v : List UInt8) (w : World) (hM : ShaMem w) (hv : v.length = 16) (hk : k < 1000) :
    Calls Tryd.prog 25 #[.int .i64 (k : Int), .agg (v.map u8v).toArray] w fun e w' => e = .returned (.agg ((stepS k v).map u8v).toArray) ∧ Ext w w' := by
  have HM := hide hM
  have HW := hide (fun w => wint_any (k : Int) w (by omega) (by omega))
  have HD := hide (fun (W : World) (A : Option Addr) (c : Nat) (pv : Value) (hE : Ext w W) (h1 : Reads W 1 pv 2 [.slice A (wInt k).length c, .slice (some ⟨w.heap.size, 0, none⟩) 16 16]) (h2 : Reads W 1 (.slice A (wInt k).length c) (wInt k).length ((wInt k).map u8v)) (h3 : Blk W w.heap.size 23 (v.map u8v).toArray) =>
    digest_any 3 [wInt k, v] pv W (hM.ext hE) (Parts.two h1 h2 (h3.digR hv)) (by simp) (fun p hp => by have := wInt_length (k : Int); simp at hp; rcases hp with rfl | rfl <;> omega))
  obtain ⟨arr, harr⟩ : ∃ r, (v.map u8v).toArray = r := ⟨_, rfl⟩
  rw [harr] at HD ⊢
  obtain ⟨res, hres⟩ : ∃ r, stepS k v = r := ⟨_, rfl⟩
  have HR := hide (And.intro hres (show res.length = 16 from by rw [← hres]; exact digestS_length _ _))
  rw [hres]
  clear hM harr hres
  go_enter Tryd.func25, Tryd.ntmps25
  go_upto_region 1 with fail
  go_region_law (first
    | (go_simp; go_at_call 48; refine (unhide HW _).mono ?_; rintro e w3 ⟨A3, c3, rfl, ho3, hE3⟩; have H3 := hide (And.intro (Reads.of_own ho3) hE3); clear ho3 hE3)
    | (rename_i K hK; go_simp; go_at_call 26; refine (unhide HD _ A3 c3 _ ((((Ext.refl w).alloc _).alloc _).drew.trans (unhide H3).2 |>.alloc _) (Reads.new2 _ _ _ _ rfl) ((unhide H3).1.ext ((Ext.refl _).alloc _)) ((((Blk.new w _ _).alloc _).drew.ext (unhide H3).2).alloc _)).mono ?_
       rintro e w5 ⟨rfl, hE5⟩
       rw [show digestS 3 [wInt k, v] = res from (unhide HR).1]
       have H5 := hide (((((Ext.refl w).alloc _).alloc _).drew.trans (unhide H3).2 |>.alloc _).trans hE5)
       have HB := hide ((((Blk.new' (w.alloc (.cells arr 23)) 23 (Array.replicate 16 (.int .u8 0)) (g := w.heap.size + 1) (by simp)).drew.ext (unhide H3).2).alloc _).ext hE5)
       clear hE5
       dsimp only
       refine hK _ _ ?_
       clear hK K
       refine wpAny_ready (rs := [5]) (by kernel_rfl) (by simp) (AllReady.cons rfl (fun J hJ => ?_) AllReady.nil)
       refine step_storeB (ty := 23) (t := 23) (x := .tmp 4) (y := .tmp 9) rfl rfl digest_wide rfl rfl (unhide HB) rfl (by simpa using (unhide HR).2) (bytes_one _) ?_
       intro w6 hb6 hc6 hz6
       have H6 := hide (And.intro hb6 hc6)
       clear hb6 hc6 hz6
       refine hJ _ _ ?_
       clear hJ J))
  go_wp2
  refine bodyPost_ret (v := .agg (res.map u8v).toArray) (results_blk digest_wide rfl (unhide H6).1 (by simpa using (unhide HR).2) rfl) rfl ⟨rfl, ?_⟩
  exact (unhide H5).trans' (unhide H6).2 (fun _ _ h => h) (fun i hi e => by omega)

end Go.Proofs.YtjemfefkgfoikaaDoor

/-
  wots.advance, wots.start.
-/
namespace Go.Proofs.YtjemfefkgfoikaaDoor
open Go.RowKit

set_option maxRecDepth 100000 in
set_option maxHeartbeats 4000000 in
theorem adv_any (k n : Nat) (v : List UInt8) (w : World) (hM : ShaMem w) (hv : v.length = 16) (hk : k < 1000) (hn : n < 1000) :
    Calls Tryd.prog 42 #[.int .i64 (k : Int), .agg (v.map u8v).toArray, .int .i64 (n : Int)] w fun e w' => e = .returned (.agg ((advS k v n).map u8v).toArray) ∧ Ext w w' := by
  have HM := hide hM
  have HW := hide (fun w => wint_any (k : Int) w (by omega) (by omega))
  have HD := hide (fun (j : Nat) (W : World) (A : Option Addr) (c : Nat) (pv : Value) (hE : Ext w W) (h1 : Reads W 1 pv 2 [.slice A (wInt k).length c, .slice (some ⟨w.heap.size, 0, none⟩) 16 16]) (h2 : Reads W 1 (.slice A (wInt k).length c) (wInt k).length ((wInt k).map u8v)) (h3 : Blk W w.heap.size 23 ((advS k v j).map u8v).toArray) =>
    digest_any 3 [wInt k, advS k v j] pv W (hM.ext hE) (Parts.two h1 h2 (h3.digR (advS_length k v hv j))) (by simp) (fun p hp => by have := wInt_length (k : Int); have := advS_length k v hv j; simp at hp; rcases hp with rfl | rfl <;> omega))
  have HL := hide (advS_length k v hv)
  have HS := hide (fun j => show digestS 3 [wInt k, advS k v j] = advS k v (j + 1) from rfl)
  obtain ⟨F, hF⟩ : ∃ F, advS k v = F := ⟨_, rfl⟩
  rw [hF] at HD HL HS ⊢
  have h0 : F 0 = v := by rw [← hF]; rfl
  clear hM
  go_enter Tryd.func42, Tryd.ntmps42
  go_wp2_with fail
  go_loopw [8] (fun i wr => ∃ j : Nat, j ≤ n ∧ i = .int .i64 j ∧ Hid (Blk wr w.heap.size 23 ((F j).map u8v).toArray ∧ Blk wr (w.heap.size + 1) 23 (Array.replicate 16 (.int .u8 0)) ∧ Ext w wr)) (fun i _ => n - (intOf i).toNat)
  case atStart => exact ⟨0, by omega, rfl, hide ⟨by rw [h0]; exact (Blk.new w _ _).alloc _, Blk.new' _ _ _ (by simp), ((Ext.refl w).alloc _).alloc _⟩⟩
  case round =>
    obtain ⟨j, hj, rfl, HI⟩ := hrel
    by_cases hlt : j < n
    · have HJ := hide (unhide HS j)
      have HL1 := hide (unhide HL (j + 1))
      have HLj := hide (unhide HL j)
      have HDj := hide (unhide HD j)
      go_upto_region 3 with fail
      go_region_law (first
        | (go_simp; go_at_call 48; refine (unhide HW _).mono ?_; rintro e w3 ⟨A3, c3, rfl, ho3, hE3⟩; have H3 := hide (And.intro (Reads.of_own ho3) (((Ext.refl wr).drew).trans hE3)); clear ho3 hE3)
        | (rename_i K hK; go_simp; go_at_call 26; refine (unhide HDj _ A3 c3 _ (((unhide HI).2.2.trans (unhide H3).2).alloc _) (Reads.new2 _ _ _ _ rfl) ((unhide H3).1.ext ((Ext.refl _).alloc _)) (((unhide HI).1.ext (unhide H3).2).alloc _)).mono ?_
           rintro e w5 ⟨rfl, hE5⟩
           rw [unhide HJ]
           have H5 := hide (((unhide H3).2.alloc _).trans hE5)
           clear hE5
           dsimp only
           refine hK _ _ ?_
           clear hK K
           refine wpAny_ready (rs := [5]) (by kernel_rfl) (by simp) (AllReady.cons rfl (fun J hJ => ?_) AllReady.nil)
           refine step_storeB (ty := 23) (t := 23) (x := .tmp 4) (y := .tmp 14) rfl rfl digest_wide rfl rfl ((unhide HI).1.ext (unhide H5)) (by simpa using unhide HLj) (by simpa using unhide HL1) (bytes_one _) ?_
           intro w6 hb6 hc6 hz6
           have H6 := hide (And.intro hb6 hc6)
           clear hb6 hc6 hz6
           refine hJ _ _ ?_
           clear hJ J))
      go_wp2
      go_roundw
      case rel => exact ⟨j + 1, by omega, by go_num, hide ⟨(unhide H6).1, ((unhide HI).2.1.ext (unhide H5)).chg (unhide H6).2 (by omega), ((unhide HI).2.2.trans (unhide H5)).trans' (unhide H6).2 (fun _ _ h => h) (fun i hi e => by omega)⟩⟩
      case measure => simp [intOf]; omega
    · obtain rfl : j = n := by omega
      go_wp2_with (first
        | (refine wpList_loadB (ty := 23) (t := 23) (x := .tmp 4) rfl rfl digest_wide rfl (unhide HI).1 (by simpa using unhide HL j) ?_)
        | (refine wpList_storeB (ty := 23) (t := 23) (x := .tmp 6) (y := .tmp 16) rfl rfl digest_wide rfl rfl (unhide HI).2.1 rfl (by simpa using unhide HL j) (bytes_one _) ?_; intro w7 hb7 hc7 hz7; have H7 := hide (And.intro hb7 hc7); clear hb7 hc7 hz7))
      refine bodyPost_ret (v := .agg ((F j).map u8v).toArray) (results_blk digest_wide rfl (unhide H7).1 (by simpa using unhide HL j) rfl) rfl ⟨rfl, ?_⟩
      exact (unhide HI).2.2.trans' (unhide H7).2 (fun _ _ h => h) (fun i hi e => by omega)

set_option maxRecDepth 100000 in
set_option maxHeartbeats 4000000 in
theorem start_any (k : Nat) (seed : List UInt8) (index : Int) (w : World) (hM : ShaMem w) (hv : seed.length = 16) (hk : k < 1000) (h1 : -9223372036854775808 ≤ index) (h2 : index < 9223372036854775808) :
    Calls Tryd.prog 46 #[.agg (seed.map u8v).toArray, .int .i64 index, .int .i64 (k : Int)] w fun e w' => e = .returned (.agg ((startS seed index k).map u8v).toArray) ∧ Ext w w' := by
  have HM := hide hM
  have HW := hide (fun w => wint_any index w h1 h2)
  have HW2 := hide (fun w => wint_any (k : Int) w (by omega) (by omega))
  have HD := hide (fun (W : World) (A A' : Option Addr) (c c' : Nat) (pv : Value) (hE : Ext w W) (h1 : Reads W 1 pv 2 [.slice A (wInt index).length c, .slice A' (wInt k).length c']) (h2 : Reads W 1 (.slice A (wInt index).length c) (wInt index).length ((wInt index).map u8v)) (h2' : Reads W 1 (.slice A' (wInt k).length c') (wInt k).length ((wInt k).map u8v)) (h3 : Blk W w.heap.size 23 (seed.map u8v).toArray) =>
    derive_any seed (.slice (some ⟨w.heap.size, 0, none⟩) 16 16) ⟨#[119, 111, 116, 115]⟩ [wInt index, wInt k] pv W (hM.ext hE) (h3.digR hv) (by omega) (by decide) (Parts.two h1 h2 h2') (by simp) (fun p hp => by have := wInt_length (k : Int); have := wInt_length index; simp at hp; rcases hp with rfl | rfl <;> omega))
  obtain ⟨arr, harr⟩ : ∃ r, (seed.map u8v).toArray = r := ⟨_, rfl⟩
  rw [harr] at HD ⊢
  obtain ⟨res, hres⟩ : ∃ r, startS seed index k = r := ⟨_, rfl⟩
  have HR := hide (And.intro hres (show res.length = 16 from by rw [← hres]; exact startS_length _ _ _))
  rw [hres]
  clear hM harr hres h1 h2
  have HT := hide True.intro
  go_enter Tryd.func46, Tryd.ntmps46
  go_upto_region 1 with fail
  go_region_law (first
    | (clear HT; go_simp; go_at_call 48; refine (unhide HW _).mono ?_; rintro e w3 ⟨A3, c3, rfl, ho3, hE3⟩; have H3 := hide (And.intro (Reads.of_own ho3) hE3); clear ho3 hE3)
    | (go_simp; go_at_call 48; refine (unhide HW2 _).mono ?_; rintro e w4 ⟨A4, c4, rfl, ho4, hE4⟩; have H4 := hide (And.intro (Reads.of_own ho4) hE4); clear ho4 hE4)
    | (rename_i K hK; go_simp; go_at_call 67; refine (unhide HD _ A3 A4 c3 c4 _ (((((Ext.refl w).alloc _).alloc _).drew.trans ((unhide H3).2.trans (unhide H4).2)).alloc _) (Reads.new2 _ _ _ _ rfl) (((unhide H3).1.ext (unhide H4).2).ext ((Ext.refl _).alloc _)) ((unhide H4).1.ext ((Ext.refl _).alloc _)) ((((Blk.new w _ _).alloc _).drew.ext ((unhide H3).2.trans (unhide H4).2)).alloc _)).mono ?_
       rintro e w5 ⟨rfl, hE5⟩
       rw [show deriveS seed (⟨#[119, 111, 116, 115]⟩ : ByteArray).data.toList [wInt index, wInt k] = res from (unhide HR).1]
       have H5 := hide ((((((Ext.refl w).alloc _).alloc _).drew.trans ((unhide H3).2.trans (unhide H4).2)).alloc _).trans hE5)
       have HB := hide ((((Blk.new' (w.alloc (.cells arr 23)) 23 (Array.replicate 16 (.int .u8 0)) (g := w.heap.size + 1) (by simp)).drew.ext ((unhide H3).2.trans (unhide H4).2)).alloc _).ext hE5)
       clear hE5
       dsimp only
       refine hK _ _ ?_
       clear hK K
       refine wpAny_ready (rs := [7]) (by kernel_rfl) (by simp) (AllReady.cons rfl (fun J hJ => ?_) AllReady.nil)
       refine step_storeB (ty := 23) (t := 23) (x := .tmp 6) (y := .tmp 13) rfl rfl digest_wide rfl rfl (unhide HB) rfl (by simpa using (unhide HR).2) (bytes_one _) ?_
       intro w6 hb6 hc6 hz6
       have H6 := hide (And.intro hb6 hc6)
       clear hb6 hc6 hz6
       refine hJ _ _ ?_
       clear hJ J))
  go_wp2
  refine bodyPost_ret (v := .agg (res.map u8v).toArray) (results_blk digest_wide rfl (unhide H6).1 (by simpa using (unhide HR).2) rfl) rfl ⟨rfl, ?_⟩
  exact (unhide H5).trans' (unhide H6).2 (fun _ _ h => h) (fun i hi e => by omega)

end Go.Proofs.YtjemfefkgfoikaaDoor

/-
  wots.key, at whatever function value.
-/
namespace Go.Proofs.YtjemfefkgfoikaaDoor
open Go.RowKit

/-- A function value that yields the digest f k for k, and what it leans on. -/
structure EndEnv (F : FuncId) (caps : Array Value) (f : Nat → List UInt8) (Inv : World → Prop) (B : Nat) : Prop where
  call : ∀ (args : Array Value) (w : World), (callFunc F args).run Tryd.prog w = .ok (.enter F args) w
  step : ∀ (k : Nat) (w : World), k < 68 → Inv w → Calls Tryd.prog F (#[.int .i64 (k : Int)] ++ caps) w fun e w' => e = .returned (.agg ((f k).map u8v).toArray) ∧ Ext w w'
  keep : ∀ w w', Inv w → Chg (fun k => B ≤ k) w w' → Inv w'
  len : ∀ k, (f k).length = 16

set_option maxRecDepth 100000 in
set_option maxHeartbeats 4000000 in
theorem key_any {F : FuncId} {caps : Array Value} {f : Nat → List UInt8} {Inv : World → Prop} {B : Nat} (E : EndEnv F caps f Inv B) (w : World) (hB : B ≤ w.heap.size) (hM : ShaMem w) (hI : Inv w) :
    Calls Tryd.prog 40 #[.func (.func F) #[] caps] w fun e w' => e = .returned (.agg ((keyOf f).map u8v).toArray) ∧ Ext w w' := by
  have HM := hide hM
  have HE := hide E
  have hc := E.call
  have HI0 := hide hI
  have HD := hide (fun (W : World) (A : Option Addr) (c : Nat) (pv : Value) (hE : Ext w W) (h1 : Reads W 1 pv 1 [.slice A (endsS f 68).length c]) (h2 : Reads W 1 (.slice A (endsS f 68).length c) (endsS f 68).length ((endsS f 68).map u8v)) =>
    digest_any 4 [endsS f 68] pv W (hM.ext hE) (Parts.one h1 h2) (by simp) (fun p hp => by have := endsS_length f E.len 68; simp at hp; subst hp; omega))
  have HLE := hide (endsS_length f E.len 68)
  have HK := hide (show digestS 4 [endsS f 68] = keyOf f ∧ (keyOf f).length = 16 from ⟨rfl, digestS_length _ _⟩)
  clear hM hI E
  obtain ⟨key, hkey⟩ : ∃ r, keyOf f = r := ⟨_, rfl⟩
  rw [hkey] at HK ⊢
  clear hkey
  go_enter Tryd.func40, Tryd.ntmps40
  go_wp2_with fail
  go_loopw [3, 6] (fun b i wr => ∃ (k : Nat) (A : Option Addr) (c : Nat), k ≤ 68 ∧ i = .int .i64 k ∧ b = .slice A (16 * k) c ∧ Hid (GB w (w.heap.size + 1) b (16 * k) (endsS f k) wr ∧ Inv wr ∧ Blk wr w.heap.size 23 (Array.replicate 16 (.int .u8 0)))) (fun _ i _ => 68 - (intOf i).toNat)
  case atStart => exact ⟨0, none, 0, by omega, rfl, rfl, hide ⟨GB.nil ((Ext.refl w).alloc _) (by omega) (by simp), (unhide HE).keep _ _ (unhide HI0) ((Ext.refl w).alloc _).chg, Blk.new w _ _⟩⟩
  case round =>
    obtain ⟨k, A, c, hk, rfl, rfl, HI⟩ := hrel
    by_cases hlt : k < 68
    · have HSt := hide ((unhide HE).step k wr hlt (unhide HI).2.1)
      have HEs := hide (endsS_step f k)
      have HL := hide ((unhide HE).len k)
      obtain ⟨d, hd⟩ : ∃ d, f k = d := ⟨_, rfl⟩
      rw [hd] at HSt HEs HL
      clear hd
      go_wp2_with fail
      refine (unhide HSt).mono ?_
      rintro e w1 ⟨rfl, hE1⟩
      have H1 := hide hE1
      clear hE1
      go_wp2_with (first
        | (refine wpList_storeB (ty := 23) (t := 23) (x := .tmp 5) (y := .tmp 11) rfl rfl digest_wide rfl rfl (Blk.new w1 _ _) rfl (by simpa using unhide HL) (bytes_one _) ?_; intro w2 hb2 hc2 hz2; have H2 := hide (And.intro hb2 (made_ext (unhide H1) hc2)); clear hb2 hc2 hz2)
        | (at_builtin; refine wpList_app rfl rfl u8_row rfl ((unhide HI).1.to (unhide H2).2).own rfl (by have := (unhide H2).1.digR (unhide HL); rw [unhide HL] at this; exact this) (AllOne.u8 d) (by omega) ((unhide HI).1.to (unhide H2).2).room ?_; intro A' c' w3 ho hc3 hv; have H3 := hide (And.intro ho hc3); clear ho hc3 hv))
      go_roundw
      case rel =>
        have hst : GB w (w.heap.size + 1) (.slice A' (16 * k + 16) c') (16 * k + 16) (endsS f k ++ d) w3 := (unhide HI).1.step (unhide H2).2 (unhide H3).2 (by have := (unhide H3).1; rw [← List.map_append] at this; exact this)
        have hX : Chg (fun k => B ≤ k) wr w3 := (unhide H2).2.trans' (unhide H3).2 (fun _ _ h => h.elim) (fun i hi e => by have := ((unhide HI).1.own.lt i e).1; omega)
        refine ⟨k + 1, A', c', by omega, by go_num, by congr 1, hide ⟨by rw [unhide HEs]; exact hst, (unhide HE).keep _ _ (unhide HI).2.1 hX, (unhide HI).1.blk (unhide H2).2 (unhide H3).2 (unhide HI).2.2 (by omega)⟩⟩
      case measure => simp [intOf]; omega
    · obtain rfl : k = 68 := by omega
      have HX := hide (show GB w (w.heap.size + 1) (.slice A (endsS f 68).length c) (endsS f 68).length (endsS f 68) wr from by rw [unhide HLE]; exact (unhide HI).1)
      have HZ := hide (unhide HI).2.2
      have e68 : 16 * 68 = (endsS f 68).length := (unhide HLE).symm
      rw [e68]
      clear HI e68
      go_wp2_with (first
        | (go_at_call 26; refine (unhide HD _ A c _ ((unhide HX).ext.alloc _) (Reads.new1 _ _ _) ((unhide HX).reads.ext ((Ext.refl _).alloc _))).mono ?_; rintro e w5 ⟨rfl, hE5⟩; rw [(unhide HK).1]; have H5 := hide (((Ext.refl wr).alloc _).trans hE5); clear hE5)
        | (refine wpList_storeB (ty := 23) (t := 23) (x := .tmp 2) (y := .tmp 18) rfl rfl digest_wide rfl rfl ((unhide HZ).ext (unhide H5)) rfl (by simpa using (unhide HK).2) (bytes_one _) ?_; intro w7 hb7 hc7 hz7; have H7 := hide (And.intro hb7 hc7); clear hb7 hc7 hz7))
      refine bodyPost_ret (v := .agg (key.map u8v).toArray) (results_blk digest_wide rfl (unhide H7).1 (by simpa using (unhide HK).2) rfl) rfl ⟨rfl, ?_⟩
      exact ((unhide HX).ext.trans (unhide H5)).trans' (unhide H7).2 (fun _ _ h => h) (fun i hi e => by omega)

end Go.Proofs.YtjemfefkgfoikaaDoor

/-
  wots.Public and wots.Recover.
-/
namespace Go.Proofs.YtjemfefkgfoikaaDoor
open Go.RowKit

def PubInv (seed : List UInt8) (index : Int) (bs bi : Nat) (w : World) : Prop := ShaMem w ∧ Blk w bs 23 (seed.map u8v).toArray ∧ w.cell? ⟨bi, 0, none⟩ = some (.int .i64 index)

set_option maxRecDepth 100000 in
set_option maxHeartbeats 4000000 in
theorem pub1_any (k : Nat) (seed : List UInt8) (index : Int) (bs bi : Nat) (w : World) (hv : seed.length = 16) (hk : k < 68) (h1 : -9223372036854775808 ≤ index) (h2 : index < 9223372036854775808) (hI : PubInv seed index bs bi w) :
    Calls Tryd.prog 45 #[.int .i64 (k : Int), .pointer (some ⟨bs, 0, none⟩), .pointer (some ⟨bi, 0, none⟩)] w fun e w' => e = .returned (.agg ((advS k (startS seed index k) 3).map u8v).toArray) ∧ Ext w w' := by
  obtain ⟨hM, hB, hc⟩ := hI
  have lbi := lt_of_cell hc
  simp only at lbi
  have HB := hide (hB.alloc (.cells (Array.replicate 16 (.int .u8 0)) 23))
  have HS := hide (start_any k seed index (w.alloc (.cells (Array.replicate 16 (.int .u8 0)) 23)) (hM.ext ((Ext.refl w).alloc _)) hv (by omega) h1 h2)
  have HA := hide (fun (W : World) (hE : Ext w W) => adv_any k 3 (startS seed index k) W (hM.ext hE) (startS_length _ _ _) (by omega) (by omega))
  have HL := hide (advS_length k (startS seed index k) (startS_length _ _ _) 3)
  have HZ := hide (Blk.new w 23 (Array.replicate 16 (.int .u8 0)))
  obtain ⟨d0, hd0⟩ : ∃ d, ((startS seed index k).map u8v).toArray = d := ⟨_, rfl⟩
  obtain ⟨d, hd⟩ : ∃ d, advS k (startS seed index k) 3 = d := ⟨_, rfl⟩
  rw [hd] at HA HL ⊢
  rw [hd0] at HA HS
  have HV := hide hv
  clear hM hB hd hd0 hv
  go_enter Tryd.func45, Tryd.ntmps45
  go_wp2_with (refine wpList_loadB (ty := 23) (t := 23) (x := .tmp 1) rfl rfl digest_wide rfl (unhide HB) (by simpa using unhide HV) ?_)
  refine (unhide HS).mono ?_
  rintro e w1 ⟨rfl, hE1⟩
  have H1 := hide hE1
  clear hE1
  go_wp2_with fail
  refine (unhide HA _ (((Ext.refl w).alloc _).trans (unhide H1))).mono ?_
  rintro e w2 ⟨rfl, hE2⟩
  have H2 := hide ((unhide H1).trans hE2)
  clear hE2
  go_wp2_with (refine wpList_storeB (ty := 23) (t := 23) (x := .tmp 4) (y := .tmp 10) rfl rfl digest_wide rfl rfl ((unhide HZ).ext (unhide H2)) rfl (by simpa using unhide HL) (bytes_one _) ?_; intro w7 hb7 hc7 hz7; have H7 := hide (And.intro hb7 hc7); clear hb7 hc7 hz7)
  refine bodyPost_ret (v := .agg (d.map u8v).toArray) (results_blk digest_wide rfl (unhide H7).1 (by simpa using unhide HL) rfl) rfl ⟨rfl, ?_⟩
  exact (((Ext.refl w).alloc _).trans (unhide H2)).trans' (unhide H7).2 (fun _ _ h => h) (fun i hi e => by omega)

theorem ShaMem.lt {w : World} (h : ShaMem w) : 1 < w.heap.size ∧ 0 < w.heap.size := ⟨lt_of_cell (h.k 0 _ rfl), lt_of_cell (h.h 0 _ rfl)⟩
theorem ShaMem.past {w0 w w' : World} {B : Nat} (h0 : ShaMem w0) (hB : w0.heap.size ≤ B) (h : ShaMem w) (hc : Chg (fun k => B ≤ k) w w') : ShaMem w' := h.chg hc (by have := h0.lt; omega) (by have := h0.lt; omega)
theorem mkfun (fn : Fn) (first cap : Array Value) (w : World) : (Instr.makeFunc fn first cap).run Tryd.prog w = .ok (.func fn first cap) w := rfl
set_option maxRecDepth 100000 in
set_option maxHeartbeats 4000000 in
theorem public_any (seed : List UInt8) (index : Int) (w : World) (hM : ShaMem w) (hv : seed.length = 16) (h1 : -9223372036854775808 ≤ index) (h2 : index < 9223372036854775808) :
    Calls Tryd.prog 20 #[.agg (seed.map u8v).toArray, .int .i64 index] w fun e w' => e = .returned (.agg ((publicS seed index).map u8v).toArray) ∧ Ext w w' := by
  have HK := hide (fun (W : World) (hE : Ext w W) (hB : Blk W w.heap.size 23 (seed.map u8v).toArray) (hc : W.cell? ⟨w.heap.size + 1, 0, none⟩ = some (.int .i64 index)) (hs : w.heap.size + 2 ≤ W.heap.size) =>
    key_any (F := 45) (caps := #[.pointer (some ⟨w.heap.size, 0, none⟩), .pointer (some ⟨w.heap.size + 1, 0, none⟩)]) (f := fun k => advS k (startS seed index k) 3) (Inv := PubInv seed index w.heap.size (w.heap.size + 1)) (B := w.heap.size + 2)
      ⟨call_enters Tryd.func45 (by kernel_rfl) rfl, fun k W hk hI => pub1_any k seed index _ _ W hv hk h1 h2 hI,
       fun W W' hI hC => ⟨ShaMem.past hM (by omega) hI.1 hC, hI.2.1.chg hC (by omega), Chg.cellv hC hI.2.2 (by simp)⟩, fun k => advS_length k _ (startS_length _ _ _) 3⟩ W hs (hM.ext hE) ⟨hM.ext hE, hB, hc⟩)
  obtain ⟨arr, harr⟩ : ∃ r, (seed.map u8v).toArray = r := ⟨_, rfl⟩
  rw [harr] at HK ⊢
  have HR := hide (show keyOf (fun k => advS k (startS seed index k) 3) = publicS seed index ∧ (publicS seed index).length = 16 from ⟨rfl, digestS_length _ _⟩)
  obtain ⟨res, hres⟩ : ∃ r, publicS seed index = r := ⟨_, rfl⟩
  rw [hres] at HR ⊢
  have hmf := mkfun
  clear hM harr hres
  go_enter Tryd.func20, Tryd.ntmps20
  go_wp2_with fail
  refine (unhide HK _ ((((Ext.refl w).alloc _).alloc _).alloc _) ((((Blk.new w _ _).alloc _).alloc _)) (old_cell _ _ (new_cell _ _ _ (by simp) rfl)) (by simp)).mono ?_
  rintro e w1 ⟨rfl, hE1⟩
  rw [(unhide HR).1]
  have H1 := hide hE1
  clear hE1 hmf
  go_wp2_with (refine wpList_storeB (ty := 23) (t := 23) (x := .tmp 4) (y := .tmp 6) rfl rfl digest_wide rfl rfl ((Blk.new' ((w.alloc (.cells arr 23)).alloc (.cells #[.int .i64 index] 3)) 23 (Array.replicate 16 (.int .u8 0)) (g := w.heap.size + 1 + 1) (by simp)).ext (unhide H1)) rfl (by simpa using (unhide HR).2) (bytes_one _) ?_; intro w7 hb7 hc7 hz7; have H7 := hide (And.intro hb7 hc7); clear hb7 hc7 hz7)
  refine bodyPost_ret (v := .agg (res.map u8v).toArray) (results_blk digest_wide rfl (unhide H7).1 (by simpa using (unhide HR).2) rfl) rfl ⟨rfl, ?_⟩
  exact (((((Ext.refl w).alloc _).alloc _).alloc _).trans (unhide H1)).trans' (unhide H7).2 (fun _ _ h => h) (fun i hi e => by omega)

end Go.Proofs.YtjemfefkgfoikaaDoor
