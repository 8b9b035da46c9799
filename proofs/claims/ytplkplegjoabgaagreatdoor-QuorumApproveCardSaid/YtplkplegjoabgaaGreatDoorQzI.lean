/-
  Several texts in one file: each has its own heading below.
-/
import Derived.Test.YtplkplegjoabgaaGreatDoorQzH
import Derived.Test.YtplkplegjoabgaaGreatDoorQzG
import Derived.Deep.RegionLaw
import Derived.Deep.Cut
import Derived.Test.YtplkplegjoabgaaGreatDoorQzE
import Derived.RangeFuncBound
import Derived.Test.YtplkplegjoabgaaGreatDoorQzA
import Derived.Deep.RegionHeld

/-
  wots.Digits.
-/
namespace Go.Proofs.YtplkplegjoabgaaGreatDoor
open Go.RowKit

theorem arr68_wide : Wide Tryz.prog 230 68 := ⟨⟨_, Tryz.underlying230, rfl⟩, by kernel_rfl⟩
set_option maxRecDepth 100000 in
set_option maxHeartbeats 2000000 in
theorem digits_any (m : List UInt8) (w : World) (hm : m.length = 16) :
    Calls Tryz.prog 165 #[.agg (m.map u8v).toArray] w fun e w' => ∃ g, e = .returned (.slice (some ⟨g, 0, none⟩) 68 68) ∧ Blk w' g 230 (icells (digC m) 68).toArray ∧ w.heap.size ≤ g ∧ Ext w w' := by
  obtain ⟨arr, harr⟩ : ∃ r, (m.map u8v).toArray = r := ⟨_, rfl⟩
  have HA := hide (And.intro harr hm)
  rw [harr]
  clear harr
  go_enter Tryz.func165, Tryz.ntmps165
  go_wp2_with fail
  go_loopw [4, 7] (fun s i wr => ∃ k : Nat, k ≤ 64 ∧ i = .int .i64 k ∧ s = .int .i64 ((sumTo m k : Nat) : Int) ∧ Hid (Blk wr w.heap.size 23 arr ∧ Blk wr (w.heap.size + 1) 230 (icells (fillD m k) 68).toArray ∧ Ext w wr)) (fun _ i _ => 64 - (intOf i).toNat)
  case atStart => exact ⟨0, by omega, rfl, rfl, hide ⟨(Blk.new w _ _).alloc _, by rw [show icells (fillD m 0) 68 = icells (fun _ => 0) 68 from icells_congr fun j _ => if_neg (by omega), icells_zero]; exact Blk.new' _ _ _ (by simp), ((Ext.refl w).alloc _).alloc _⟩⟩
  case round =>
    obtain ⟨k, hk, rfl, rfl, HI⟩ := hrel
    by_cases hlt : k < 64
    · have cm : wr.cell? ⟨w.heap.size, k / 4, none⟩ = some (.int .u8 ((m.getD (k / 4) 0).toNat : Int)) := by
        rw [(unhide HI).1.cell, ← (unhide HA).1, List.getElem?_toArray, List.getElem?_map, List.getD_eq_getElem?_getD, List.getElem?_eq_getElem (by omega)]
        rfl
      have co : wr.cell? ⟨w.heap.size + 1, k, none⟩ = some (.int .i64 0) := by
        rw [(unhide HI).2.1.cell, List.getElem?_toArray, icells_get _ (by omega), fillD, if_neg (by omega)]
        rfl
      have fo : wr.frozen? ⟨w.heap.size + 1, k, none⟩ = false := (unhide HI).2.1.frozen k
      have HS := hide (dig_shift m k)
      generalize m.getD (k / 4) 0 = x at *
      have hx := x.toNat_lt
      have hX : bits BinOp.and IntKind.i64 ((x.toNat : Int) / 2 ^ (6 - 2 * (k % 4))) 3 = ((dig m k : Nat) : Int) := by
        rw [and3, unhide HS]
        simp
      have HX := hide hX
      have hd := dig_le m k
      have hsl := sumTo_le m k
      clear hX
      go_wp2
      go_roundw
      case rel =>
        rw [unhide HX]
        refine ⟨k + 1, by omega, by go_num, int_eq ?_, hide ⟨(unhide HI).1.far' (by omega) _ _, ?_, (unhide HI).2.2.setCell (p := ⟨w.heap.size + 1, k, none⟩) (by simp) _⟩⟩
        · rw [sumTo]
          unfold wrap64
          omega
        · have := (unhide HI).2.1.set_ k (.int .i64 ((dig m k : Nat) : Int))
          rw [icells_set (fillD m k) (fillD m (k + 1)) (dig m k) (by omega) (fun j _ => fillD_step m k j)] at this
          exact this
      case measure => simp [intOf]; omega
    · obtain rfl : k = 64 := by omega
      have hc := chk_le m
      have HE := hide (fill_end m)
      rw [fill_meet] at HI
      rw [show sumTo m 64 = chk m from rfl]
      generalize hch : chk m = ch at *
      go_wp2_with fail
      go_loopw [30] (fun i wr => ∃ k : Nat, k ≤ 4 ∧ i = .int .i64 k ∧ Hid (Blk wr (w.heap.size + 1) 230 (icells (fillC m k) 68).toArray ∧ Ext w wr)) (fun i _ => 4 - (intOf i).toNat)
      case atStart => exact ⟨0, by omega, rfl, hide ⟨(unhide HI).2.1, (unhide HI).2.2⟩⟩
      case round =>
        clear HI
        obtain ⟨k, hk, rfl, HI⟩ := hrel
        by_cases hlt : k < 4
        · have co : wr.cell? ⟨w.heap.size + 1, 67 - k, none⟩ = some (.int .i64 0) := by
            rw [(unhide HI).1.cell, List.getElem?_toArray, icells_get _ (by omega), fillC, if_neg (by omega), if_neg (by omega)]
            rfl
          have fo : wr.frozen? ⟨w.heap.size + 1, 67 - k, none⟩ = false := (unhide HI).1.frozen (67 - k)
          have hX : bits BinOp.and IntKind.i64 ((ch : Int) / 2 ^ (2 * k)) 3 = ((ch / 4 ^ k % 4 : Nat) : Int) := by
            rw [and3, Int.pow_mul]
            simp
          have HX := hide hX
          clear hX
          go_wp2
          go_roundw
          case rel =>
            rw [unhide HX]
            refine ⟨k + 1, by omega, by go_num, hide ⟨?_, (unhide HI).2.setCell (p := ⟨w.heap.size + 1, 67 - k, none⟩) (by simp) _⟩⟩
            have := (unhide HI).1.set_ (67 - k) (.int .i64 ((ch / 4 ^ k % 4 : Nat) : Int))
            rw [icells_set (fillC m k) (fillC m (k + 1)) (ch / 4 ^ k % 4) (by omega) (fun j hj => by rw [← hch]; exact fillC_step m k j hlt hj)] at this
            exact this
          case measure => simp [intOf]; omega
        · obtain rfl : k = 4 := by omega
          go_wp2
          go_ret
          exact ⟨_, rfl, by rw [← unhide HE]; exact (unhide HI).1, by omega, (unhide HI).2⟩

end Go.Proofs.YtplkplegjoabgaaGreatDoor

/-
  wots.advance, wots.start.
-/
namespace Go.Proofs.YtplkplegjoabgaaGreatDoor
open Go.RowKit

set_option maxRecDepth 100000 in
set_option maxHeartbeats 4000000 in
theorem adv_any (k n : Nat) (v : List UInt8) (w : World) (hM : ShaMem w) (hv : v.length = 16) (hk : k < 1000) (hn : n < 1000) :
    Calls Tryz.prog 166 #[.int .i64 (k : Int), .agg (v.map u8v).toArray, .int .i64 (n : Int)] w fun e w' => e = .returned (.agg ((advS k v n).map u8v).toArray) ∧ Ext w w' := by
  have HM := hide hM
  have HW := hide (fun w => wint_any (k : Int) w (by omega) (by omega))
  have HD := hide (fun (j : Nat) (W : World) (A : Option Addr) (c : Nat) (pv : Value) (hE : Ext w W) (h1 : Reads W 1 pv 2 [.slice A (wInt k).length c, .slice (some ⟨w.heap.size, 0, none⟩) 16 16]) (h2 : Reads W 1 (.slice A (wInt k).length c) (wInt k).length ((wInt k).map u8v)) (h3 : Blk W w.heap.size 23 ((advS k v j).map u8v).toArray) =>
    digest_any 3 [wInt k, advS k v j] pv W (hM.ext hE) (Parts.two h1 h2 (h3.digR (advS_length k v hv j))) (by simp) (fun p hp => by have := wInt_length (k : Int); have := advS_length k v hv j; simp at hp; rcases hp with rfl | rfl <;> omega))
  have HL := hide (advS_length k v hv)
  have HS := hide (fun j => show digestS 3 [wInt k, advS k v j] = advS k v (j + 1) from rfl)
  obtain ⟨F, hF⟩ : ∃ F, advS k v = F := ⟨_, rfl⟩
  rw [hF] at HD HL HS ⊢
  have h0 : F 0 = v := by rw [← hF]; rfl
  clear hM
  go_enter Tryz.func166, Tryz.ntmps166
  go_wp2_with fail
  go_loopw [8] (fun i wr => ∃ j : Nat, j ≤ n ∧ i = .int .i64 j ∧ Hid (Blk wr w.heap.size 23 ((F j).map u8v).toArray ∧ Blk wr (w.heap.size + 1) 23 (Array.replicate 16 (.int .u8 0)) ∧ Ext w wr)) (fun i _ => n - (intOf i).toNat)
  case atStart => exact ⟨0, by omega, rfl, hide ⟨by rw [h0]; exact (Blk.new w _ _).alloc _, Blk.new' _ _ _ (by simp), ((Ext.refl w).alloc _).alloc _⟩⟩
  case round =>
    obtain ⟨j, hj, rfl, HI⟩ := hrel
    by_cases hlt : j < n
    · have HJ := hide (unhide HS j)
      have HL1 := hide (unhide HL (j + 1))
      have HLj := hide (unhide HL j)
      have HDj := hide (unhide HD j)
      go_upto_region 3 with fail
      go_region_law (first
        | (go_simp; go_at_call 149; refine (unhide HW _).mono ?_; rintro e w3 ⟨A3, c3, rfl, ho3, hE3⟩; have H3 := hide (And.intro (Reads.of_own ho3) (((Ext.refl wr).drew).trans hE3)); clear ho3 hE3)
        | (rename_i K hK; go_simp; go_at_call 96; refine (unhide HDj _ A3 c3 _ (((unhide HI).2.2.trans (unhide H3).2).alloc _) (Reads.new2 _ _ _ _ rfl) ((unhide H3).1.ext ((Ext.refl _).alloc _)) (((unhide HI).1.ext (unhide H3).2).alloc _)).mono ?_
           rintro e w5 ⟨rfl, hE5⟩
           rw [unhide HJ]
           have H5 := hide (((unhide H3).2.alloc _).trans hE5)
           clear hE5
           dsimp only
           refine hK _ _ ?_
           clear hK K
           refine wpAny_ready (rs := [5]) (by kernel_rfl) (by simp) (AllReady.cons rfl (fun J hJ => ?_) AllReady.nil)
           refine step_storeB (ty := 23) (t := 23) (x := .tmp 4) (y := .tmp 14) rfl rfl digest_wide rfl rfl ((unhide HI).1.ext (unhide H5)) (by simpa using unhide HLj) (by simpa using unhide HL1) (bytes_one _) ?_
           intro w6 hb6 hc6 hz6
           have H6 := hide (And.intro hb6 hc6)
           clear hb6 hc6 hz6
           refine hJ _ _ ?_
           clear hJ J))
      go_wp2
      go_roundw
      case rel => exact ⟨j + 1, by omega, by go_num, hide ⟨(unhide H6).1, ((unhide HI).2.1.ext (unhide H5)).chg (unhide H6).2 (by omega), ((unhide HI).2.2.trans (unhide H5)).trans' (unhide H6).2 (fun _ _ h => h) (fun i hi e => by omega)⟩⟩
      case measure => simp [intOf]; omega
    · obtain rfl : j = n := by omega
      go_wp2_with (first
        | (refine wpList_loadB (ty := 23) (t := 23) (x := .tmp 4) rfl rfl digest_wide rfl (unhide HI).1 (by simpa using unhide HL j) ?_)
        | (refine wpList_storeB (ty := 23) (t := 23) (x := .tmp 6) (y := .tmp 16) rfl rfl digest_wide rfl rfl (unhide HI).2.1 rfl (by simpa using unhide HL j) (bytes_one _) ?_; intro w7 hb7 hc7 hz7; have H7 := hide (And.intro hb7 hc7); clear hb7 hc7 hz7))
      refine bodyPost_ret (v := .agg ((F j).map u8v).toArray) (results_blk digest_wide rfl (unhide H7).1 (by simpa using unhide HL j) rfl) rfl ⟨rfl, ?_⟩
      exact (unhide HI).2.2.trans' (unhide H7).2 (fun _ _ h => h) (fun i hi e => by omega)

set_option maxRecDepth 100000 in
set_option maxHeartbeats 4000000 in
theorem start_any (k : Nat) (seed : List UInt8) (index : Int) (w : World) (hM : ShaMem w) (hv : seed.length = 16) (hk : k < 1000) (h1 : -9223372036854775808 ≤ index) (h2 : index < 9223372036854775808) :
    Calls Tryz.prog 167 #[.agg (seed.map u8v).toArray, .int .i64 index, .int .i64 (k : Int)] w fun e w' => e = .returned (.agg ((startS seed index k).map u8v).toArray) ∧ Ext w w' := by
  have HM := hide hM
  have HW := hide (fun w => wint_any index w h1 h2)
  have HW2 := hide (fun w => wint_any (k : Int) w (by omega) (by omega))
  have HD := hide (fun (W : World) (A A' : Option Addr) (c c' : Nat) (pv : Value) (hE : Ext w W) (h1 : Reads W 1 pv 2 [.slice A (wInt index).length c, .slice A' (wInt k).length c']) (h2 : Reads W 1 (.slice A (wInt index).length c) (wInt index).length ((wInt index).map u8v)) (h2' : Reads W 1 (.slice A' (wInt k).length c') (wInt k).length ((wInt k).map u8v)) (h3 : Blk W w.heap.size 23 (seed.map u8v).toArray) =>
    derive_any seed (.slice (some ⟨w.heap.size, 0, none⟩) 16 16) ⟨#[119, 111, 116, 115]⟩ [wInt index, wInt k] pv W (hM.ext hE) (h3.digR hv) (by omega) (by decide) (Parts.two h1 h2 h2') (by simp) (fun p hp => by have := wInt_length (k : Int); have := wInt_length index; simp at hp; rcases hp with rfl | rfl <;> omega))
  obtain ⟨arr, harr⟩ : ∃ r, (seed.map u8v).toArray = r := ⟨_, rfl⟩
  rw [harr] at HD ⊢
  obtain ⟨res, hres⟩ : ∃ r, startS seed index k = r := ⟨_, rfl⟩
  have HR := hide (And.intro hres (show res.length = 16 from by rw [← hres]; exact startS_length _ _ _))
  rw [hres]
  clear hM harr hres h1 h2
  have HT := hide True.intro
  go_enter Tryz.func167, Tryz.ntmps167
  go_upto_region 1 with fail
  go_region_law (first
    | (clear HT; go_simp; go_at_call 149; refine (unhide HW _).mono ?_; rintro e w3 ⟨A3, c3, rfl, ho3, hE3⟩; have H3 := hide (And.intro (Reads.of_own ho3) hE3); clear ho3 hE3)
    | (go_simp; go_at_call 149; refine (unhide HW2 _).mono ?_; rintro e w4 ⟨A4, c4, rfl, ho4, hE4⟩; have H4 := hide (And.intro (Reads.of_own ho4) hE4); clear ho4 hE4)
    | (rename_i K hK; go_simp; go_at_call 183; refine (unhide HD _ A3 A4 c3 c4 _ (((((Ext.refl w).alloc _).alloc _).drew.trans ((unhide H3).2.trans (unhide H4).2)).alloc _) (Reads.new2 _ _ _ _ rfl) (((unhide H3).1.ext (unhide H4).2).ext ((Ext.refl _).alloc _)) ((unhide H4).1.ext ((Ext.refl _).alloc _)) ((((Blk.new w _ _).alloc _).drew.ext ((unhide H3).2.trans (unhide H4).2)).alloc _)).mono ?_
       rintro e w5 ⟨rfl, hE5⟩
       rw [show deriveS seed (⟨#[119, 111, 116, 115]⟩ : ByteArray).data.toList [wInt index, wInt k] = res from (unhide HR).1]
       have H5 := hide ((((((Ext.refl w).alloc _).alloc _).drew.trans ((unhide H3).2.trans (unhide H4).2)).alloc _).trans hE5)
       have HB := hide ((((Blk.new' (w.alloc (.cells arr 23)) 23 (Array.replicate 16 (.int .u8 0)) (g := w.heap.size + 1) (by simp)).drew.ext ((unhide H3).2.trans (unhide H4).2)).alloc _).ext hE5)
       clear hE5
       dsimp only
       refine hK _ _ ?_
       clear hK K
       refine wpAny_ready (rs := [7]) (by kernel_rfl) (by simp) (AllReady.cons rfl (fun J hJ => ?_) AllReady.nil)
       refine step_storeB (ty := 23) (t := 23) (x := .tmp 6) (y := .tmp 13) rfl rfl digest_wide rfl rfl (unhide HB) rfl (by simpa using (unhide HR).2) (bytes_one _) ?_
       intro w6 hb6 hc6 hz6
       have H6 := hide (And.intro hb6 hc6)
       clear hb6 hc6 hz6
       refine hJ _ _ ?_
       clear hJ J))
  go_wp2
  refine bodyPost_ret (v := .agg (res.map u8v).toArray) (results_blk digest_wide rfl (unhide H6).1 (by simpa using (unhide HR).2) rfl) rfl ⟨rfl, ?_⟩
  exact (unhide H5).trans' (unhide H6).2 (fun _ _ h => h) (fun i hi e => by omega)

end Go.Proofs.YtplkplegjoabgaaGreatDoor

/-
  One-time signatures: other chain values that lead to the same key hide a collision.
-/
namespace Go.Proofs.YtplkplegjoabgaaGreatDoor

/-- Up to step n the two chains never meet. -/
def Apart (k : Nat) (a b : List UInt8) (n : Nat) : Prop := ∀ i, i < n → advS k a i ≠ advS k b i → advS k a (i + 1) ≠ advS k b (i + 1)
theorem apart_end {k : Nat} {a b : List UInt8} : ∀ {n : Nat}, Apart k a b n → a ≠ b → advS k a n ≠ advS k b n
  | 0, _, h => h
  | n + 1, ha, h => ha n (by omega) (apart_end (fun i hi => ha i (by omega)) h)
theorem endsS_step (f : Nat → List UInt8) (n : Nat) : endsS f (n + 1) = endsS f n ++ f n := by unfold endsS; rw [List.range_succ, List.flatMap_append]; simp
theorem endsS_length (f : Nat → List UInt8) (h : ∀ k, (f k).length = 16) : ∀ n, (endsS f n).length = 16 * n
  | 0 => rfl
  | n + 1 => by rw [endsS_step, List.length_append, endsS_length f h n, h]; omega
theorem ends_inj (f g : Nat → List UInt8) (hf : ∀ k, (f k).length = 16) (hg : ∀ k, (g k).length = 16) : ∀ n, endsS f n = endsS g n → ∀ k, k < n → f k = g k
  | 0, _ => fun k hk => by omega
  | n + 1, h => by
    rw [endsS_step, endsS_step] at h
    obtain ⟨h1, h2⟩ := List.append_inj h (by rw [endsS_length f hf, endsS_length g hg])
    intro k hk
    rcases Nat.lt_or_ge k n with hlt | hge
    · exact ends_inj f g hf hg n h1 k hlt
    · obtain rfl : k = n := by omega
      exact h2
/-- Where no chain of the two meets, the ends differ if the chain values do. -/
theorem ends_apart (c d : Nat → List UInt8) (l : Nat → Nat) (hc : ∀ k, (c k).length = 16) (hd : ∀ k, (d k).length = 16) (ha : ∀ k, k < 68 → Apart k (c k) (d k) (l k)) (hne : ∃ k, k < 68 ∧ c k ≠ d k) :
    endsS (fun k => advS k (c k) (l k)) 68 ≠ endsS (fun k => advS k (d k) (l k)) 68 := by
  intro he
  obtain ⟨k, hk, hn⟩ := hne
  have := ends_inj _ _ (fun k => advS_length k _ (hc k) _) (fun k => advS_length k _ (hd k) _) 68 he k hk
  exact apart_end (ha k hk) hn this

end Go.Proofs.YtplkplegjoabgaaGreatDoor

/-
  wots.key, at whatever function value.
-/
namespace Go.Proofs.YtplkplegjoabgaaGreatDoor
open Go.RowKit

/-- A function value that yields the digest f k for k, and what it leans on. -/
structure EndEnv (F : FuncId) (caps : Array Value) (f : Nat → List UInt8) (Inv : World → Prop) (B : Nat) : Prop where
  call : ∀ (args : Array Value) (w : World), (callFunc F args).run Tryz.prog w = .ok (.enter F args) w
  step : ∀ (k : Nat) (w : World), k < 68 → Inv w → Calls Tryz.prog F (#[.int .i64 (k : Int)] ++ caps) w fun e w' => e = .returned (.agg ((f k).map u8v).toArray) ∧ Ext w w'
  keep : ∀ w w', Inv w → Chg (fun k => B ≤ k) w w' → Inv w'
  len : ∀ k, (f k).length = 16

set_option maxRecDepth 100000 in
set_option maxHeartbeats 4000000 in
theorem key_any {F : FuncId} {caps : Array Value} {f : Nat → List UInt8} {Inv : World → Prop} {B : Nat} (E : EndEnv F caps f Inv B) (w : World) (hB : B ≤ w.heap.size) (hM : ShaMem w) (hI : Inv w) :
    Calls Tryz.prog 172 #[.func (.func F) #[] caps] w fun e w' => e = .returned (.agg ((keyOf f).map u8v).toArray) ∧ Ext w w' := by
  have HM := hide hM
  have HE := hide E
  have hc := E.call
  have HI0 := hide hI
  have HD := hide (fun (W : World) (A : Option Addr) (c : Nat) (pv : Value) (hE : Ext w W) (h1 : Reads W 1 pv 1 [.slice A (endsS f 68).length c]) (h2 : Reads W 1 (.slice A (endsS f 68).length c) (endsS f 68).length ((endsS f 68).map u8v)) =>
    digest_any 4 [endsS f 68] pv W (hM.ext hE) (Parts.one h1 h2) (by simp) (fun p hp => by have := endsS_length f E.len 68; simp at hp; subst hp; omega))
  have HLE := hide (endsS_length f E.len 68)
  have HK := hide (show digestS 4 [endsS f 68] = keyOf f ∧ (keyOf f).length = 16 from ⟨rfl, digestS_length _ _⟩)
  clear hM hI E
  obtain ⟨key, hkey⟩ : ∃ r, keyOf f = r := ⟨_, rfl⟩
  rw [hkey] at HK ⊢
  clear hkey
  go_enter Tryz.func172, Tryz.ntmps172
  go_wp2_with fail
  go_loopw [3, 6] (fun b i wr => ∃ (k : Nat) (A : Option Addr) (c : Nat), k ≤ 68 ∧ i = .int .i64 k ∧ b = .slice A (16 * k) c ∧ Hid (GB w (w.heap.size + 1) b (16 * k) (endsS f k) wr ∧ Inv wr ∧ Blk wr w.heap.size 23 (Array.replicate 16 (.int .u8 0)))) (fun _ i _ => 68 - (intOf i).toNat)
  case atStart => exact ⟨0, none, 0, by omega, rfl, rfl, hide ⟨GB.nil ((Ext.refl w).alloc _) (by omega) (by simp), (unhide HE).keep _ _ (unhide HI0) ((Ext.refl w).alloc _).chg, Blk.new w _ _⟩⟩
  case round =>
    obtain ⟨k, A, c, hk, rfl, rfl, HI⟩ := hrel
    by_cases hlt : k < 68
    · have HSt := hide ((unhide HE).step k wr hlt (unhide HI).2.1)
      have HEs := hide (endsS_step f k)
      have HL := hide ((unhide HE).len k)
      obtain ⟨d, hd⟩ : ∃ d, f k = d := ⟨_, rfl⟩
      rw [hd] at HSt HEs HL
      clear hd
      go_wp2_with fail
      refine (unhide HSt).mono ?_
      rintro e w1 ⟨rfl, hE1⟩
      have H1 := hide hE1
      clear hE1
      go_wp2_with (first
        | (refine wpList_storeB (ty := 23) (t := 23) (x := .tmp 5) (y := .tmp 11) rfl rfl digest_wide rfl rfl (Blk.new w1 _ _) rfl (by simpa using unhide HL) (bytes_one _) ?_; intro w2 hb2 hc2 hz2; have H2 := hide (And.intro hb2 (made_ext (unhide H1) hc2)); clear hb2 hc2 hz2)
        | (at_builtin; refine wpList_app rfl rfl u8_row rfl ((unhide HI).1.to (unhide H2).2).own rfl (by have := (unhide H2).1.digR (unhide HL); rw [unhide HL] at this; exact this) (AllOne.u8 d) (by omega) ((unhide HI).1.to (unhide H2).2).room ?_; intro A' c' w3 ho hc3 hv; have H3 := hide (And.intro ho hc3); clear ho hc3 hv))
      go_roundw
      case rel =>
        have hst : GB w (w.heap.size + 1) (.slice A' (16 * k + 16) c') (16 * k + 16) (endsS f k ++ d) w3 := (unhide HI).1.step (unhide H2).2 (unhide H3).2 (by have := (unhide H3).1; rw [← List.map_append] at this; exact this)
        have hX : Chg (fun k => B ≤ k) wr w3 := (unhide H2).2.trans' (unhide H3).2 (fun _ _ h => h.elim) (fun i hi e => by have := ((unhide HI).1.own.lt i e).1; omega)
        refine ⟨k + 1, A', c', by omega, by go_num, by congr 1, hide ⟨by rw [unhide HEs]; exact hst, (unhide HE).keep _ _ (unhide HI).2.1 hX, (unhide HI).1.blk (unhide H2).2 (unhide H3).2 (unhide HI).2.2 (by omega)⟩⟩
      case measure => simp [intOf]; omega
    · obtain rfl : k = 68 := by omega
      have HX := hide (show GB w (w.heap.size + 1) (.slice A (endsS f 68).length c) (endsS f 68).length (endsS f 68) wr from by rw [unhide HLE]; exact (unhide HI).1)
      have HZ := hide (unhide HI).2.2
      have e68 : 16 * 68 = (endsS f 68).length := (unhide HLE).symm
      rw [e68]
      clear HI e68
      go_wp2_with (first
        | (go_at_call 96; refine (unhide HD _ A c _ ((unhide HX).ext.alloc _) (Reads.new1 _ _ _) ((unhide HX).reads.ext ((Ext.refl _).alloc _))).mono ?_; rintro e w5 ⟨rfl, hE5⟩; rw [(unhide HK).1]; have H5 := hide (((Ext.refl wr).alloc _).trans hE5); clear hE5)
        | (refine wpList_storeB (ty := 23) (t := 23) (x := .tmp 2) (y := .tmp 18) rfl rfl digest_wide rfl rfl ((unhide HZ).ext (unhide H5)) rfl (by simpa using (unhide HK).2) (bytes_one _) ?_; intro w7 hb7 hc7 hz7; have H7 := hide (And.intro hb7 hc7); clear hb7 hc7 hz7))
      refine bodyPost_ret (v := .agg (key.map u8v).toArray) (results_blk digest_wide rfl (unhide H7).1 (by simpa using (unhide HK).2) rfl) rfl ⟨rfl, ?_⟩
      exact ((unhide HX).ext.trans (unhide H5)).trans' (unhide H7).2 (fun _ _ h => h) (fun i hi e => by omega)

end Go.Proofs.YtplkplegjoabgaaGreatDoor

/-
  wots.Public and wots.Recover.
-/
namespace Go.Proofs.YtplkplegjoabgaaGreatDoor
open Go.RowKit

def PubInv (seed : List UInt8) (index : Int) (bs bi : Nat) (w : World) : Prop := ShaMem w ∧ Blk w bs 23 (seed.map u8v).toArray ∧ w.cell? ⟨bi, 0, none⟩ = some (.int .i64 index)

set_option maxRecDepth 100000 in
set_option maxHeartbeats 4000000 in
theorem pub1_any (k : Nat) (seed : List UInt8) (index : Int) (bs bi : Nat) (w : World) (hv : seed.length = 16) (hk : k < 68) (h1 : -9223372036854775808 ≤ index) (h2 : index < 9223372036854775808) (hI : PubInv seed index bs bi w) :
    Calls Tryz.prog 173 #[.int .i64 (k : Int), .pointer (some ⟨bs, 0, none⟩), .pointer (some ⟨bi, 0, none⟩)] w fun e w' => e = .returned (.agg ((advS k (startS seed index k) 3).map u8v).toArray) ∧ Ext w w' := by
  obtain ⟨hM, hB, hc⟩ := hI
  have lbi := lt_of_cell hc
  simp only at lbi
  have HB := hide (hB.alloc (.cells (Array.replicate 16 (.int .u8 0)) 23))
  have HS := hide (start_any k seed index (w.alloc (.cells (Array.replicate 16 (.int .u8 0)) 23)) (hM.ext ((Ext.refl w).alloc _)) hv (by omega) h1 h2)
  have HA := hide (fun (W : World) (hE : Ext w W) => adv_any k 3 (startS seed index k) W (hM.ext hE) (startS_length _ _ _) (by omega) (by omega))
  have HL := hide (advS_length k (startS seed index k) (startS_length _ _ _) 3)
  have HZ := hide (Blk.new w 23 (Array.replicate 16 (.int .u8 0)))
  obtain ⟨d0, hd0⟩ : ∃ d, ((startS seed index k).map u8v).toArray = d := ⟨_, rfl⟩
  obtain ⟨d, hd⟩ : ∃ d, advS k (startS seed index k) 3 = d := ⟨_, rfl⟩
  rw [hd] at HA HL ⊢
  rw [hd0] at HA HS
  have HV := hide hv
  clear hM hB hd hd0 hv
  go_enter Tryz.func173, Tryz.ntmps173
  go_wp2_with (refine wpList_loadB (ty := 23) (t := 23) (x := .tmp 1) rfl rfl digest_wide rfl (unhide HB) (by simpa using unhide HV) ?_)
  refine (unhide HS).mono ?_
  rintro e w1 ⟨rfl, hE1⟩
  have H1 := hide hE1
  clear hE1
  go_wp2_with fail
  refine (unhide HA _ (((Ext.refl w).alloc _).trans (unhide H1))).mono ?_
  rintro e w2 ⟨rfl, hE2⟩
  have H2 := hide ((unhide H1).trans hE2)
  clear hE2
  go_wp2_with (refine wpList_storeB (ty := 23) (t := 23) (x := .tmp 4) (y := .tmp 10) rfl rfl digest_wide rfl rfl ((unhide HZ).ext (unhide H2)) rfl (by simpa using unhide HL) (bytes_one _) ?_; intro w7 hb7 hc7 hz7; have H7 := hide (And.intro hb7 hc7); clear hb7 hc7 hz7)
  refine bodyPost_ret (v := .agg (d.map u8v).toArray) (results_blk digest_wide rfl (unhide H7).1 (by simpa using unhide HL) rfl) rfl ⟨rfl, ?_⟩
  exact (((Ext.refl w).alloc _).trans (unhide H2)).trans' (unhide H7).2 (fun _ _ h => h) (fun i hi e => by omega)

set_option maxRecDepth 100000 in
set_option maxHeartbeats 4000000 in
theorem public_any (seed : List UInt8) (index : Int) (w : World) (hM : ShaMem w) (hv : seed.length = 16) (h1 : -9223372036854775808 ≤ index) (h2 : index < 9223372036854775808) :
    Calls Tryz.prog 141 #[.agg (seed.map u8v).toArray, .int .i64 index] w fun e w' => e = .returned (.agg ((publicS seed index).map u8v).toArray) ∧ Ext w w' := by
  have HK := hide (fun (W : World) (hE : Ext w W) (hB : Blk W w.heap.size 23 (seed.map u8v).toArray) (hc : W.cell? ⟨w.heap.size + 1, 0, none⟩ = some (.int .i64 index)) (hs : w.heap.size + 2 ≤ W.heap.size) =>
    key_any (F := 173) (caps := #[.pointer (some ⟨w.heap.size, 0, none⟩), .pointer (some ⟨w.heap.size + 1, 0, none⟩)]) (f := fun k => advS k (startS seed index k) 3) (Inv := PubInv seed index w.heap.size (w.heap.size + 1)) (B := w.heap.size + 2)
      ⟨call_enters Tryz.func173 (by kernel_rfl) rfl, fun k W hk hI => pub1_any k seed index _ _ W hv hk h1 h2 hI,
       fun W W' hI hC => ⟨ShaMem.past hM (by omega) hI.1 hC, hI.2.1.chg hC (by omega), Chg.cellv hC hI.2.2 (by simp)⟩, fun k => advS_length k _ (startS_length _ _ _) 3⟩ W hs (hM.ext hE) ⟨hM.ext hE, hB, hc⟩)
  obtain ⟨arr, harr⟩ : ∃ r, (seed.map u8v).toArray = r := ⟨_, rfl⟩
  rw [harr] at HK ⊢
  have HR := hide (show keyOf (fun k => advS k (startS seed index k) 3) = publicS seed index ∧ (publicS seed index).length = 16 from ⟨rfl, digestS_length _ _⟩)
  obtain ⟨res, hres⟩ : ∃ r, publicS seed index = r := ⟨_, rfl⟩
  rw [hres] at HR ⊢
  have hmf := mkfun
  clear hM harr hres
  go_enter Tryz.func141, Tryz.ntmps141
  go_wp2_with fail
  refine (unhide HK _ ((((Ext.refl w).alloc _).alloc _).alloc _) ((((Blk.new w _ _).alloc _).alloc _)) (old_cell _ _ (new_cell _ _ _ (by simp) rfl)) (by simp)).mono ?_
  rintro e w1 ⟨rfl, hE1⟩
  rw [(unhide HR).1]
  have H1 := hide hE1
  clear hE1 hmf
  go_wp2_with (refine wpList_storeB (ty := 23) (t := 23) (x := .tmp 4) (y := .tmp 6) rfl rfl digest_wide rfl rfl ((Blk.new' ((w.alloc (.cells arr 23)).alloc (.cells #[.int .i64 index] 3)) 23 (Array.replicate 16 (.int .u8 0)) (g := w.heap.size + 1 + 1) (by simp)).ext (unhide H1)) rfl (by simpa using (unhide HR).2) (bytes_one _) ?_; intro w7 hb7 hc7 hz7; have H7 := hide (And.intro hb7 hc7); clear hb7 hc7 hz7)
  refine bodyPost_ret (v := .agg (res.map u8v).toArray) (results_blk digest_wide rfl (unhide H7).1 (by simpa using (unhide HR).2) rfl) rfl ⟨rfl, ?_⟩
  exact (((((Ext.refl w).alloc _).alloc _).alloc _).trans (unhide H1)).trans' (unhide H7).2 (fun _ _ h => h) (fun i hi e => by omega)

end Go.Proofs.YtplkplegjoabgaaGreatDoor

/-
  wots.Sign and wots.Recover.
-/
namespace Go.Proofs.YtplkplegjoabgaaGreatDoor
open Go.RowKit

def z16 : List UInt8 := List.replicate 16 0
theorem z16_cells : ((z16.map u8v).toArray) = Array.replicate 16 (.int .u8 0) := rfl
def chainAt (c : List (List UInt8)) (k : Nat) : List UInt8 := c.getD k z16
theorem chainAt_length {c : List (List UInt8)} (h : D16 c) (k : Nat) : (chainAt c k).length = 16 := by
  unfold chainAt
  rw [List.getD_eq_getElem?_getD]
  rcases Nat.lt_or_ge k c.length with hk | hk
  · rw [List.getElem?_eq_getElem hk]; exact h.get hk
  · rw [List.getElem?_eq_none hk]; rfl
theorem chainAt_get {c : List (List UInt8)} {k : Nat} (hk : k < c.length) : chainAt c k = c[k] := by
  unfold chainAt
  rw [List.getD_eq_getElem?_getD, List.getElem?_eq_getElem hk]; rfl
structure RecInv (m : List UInt8) (c : List (List UInt8)) (cv : Value) (bc bl g : Nat) (B : Nat) (w : World) : Prop where
  mem : ShaMem w
  chain : Digs w cv c
  cell : w.cell? ⟨bc, 0, none⟩ = some cv
  cell2 : w.cell? ⟨bl, 0, none⟩ = some (.slice (some ⟨g, 0, none⟩) 68 68)
  digs : Blk w g 230 (icells (digC m) 68).toArray
  lt : (∀ k, cv.ownBlock = some k → k < B) ∧ bc < B ∧ bl < B ∧ g < B ∧ 1 < B ∧ 0 < B
theorem RecInv.keep {m : List UInt8} {c : List (List UInt8)} {cv : Value} {bc bl g B : Nat} {w w' : World} (h : RecInv m c cv bc bl g B w) (hc : Chg (fun k => B ≤ k) w w') : RecInv m c cv bc bl g B w' := by
  obtain ⟨l1, l2, l3, l4, l5, l6⟩ := h.lt
  exact ⟨h.mem.chg hc (by omega) (by omega), h.chain.chg hc (fun k hk e => by have := l1 k hk; omega), Chg.cellv hc h.cell (by simp; omega), Chg.cellv hc h.cell2 (by simp; omega), h.digs.chg hc (by omega), h.lt⟩

set_option maxRecDepth 100000 in
set_option maxHeartbeats 4000000 in
theorem rec1_any (k : Nat) (m : List UInt8) (c : List (List UInt8)) (cv : Value) (bc bl g B : Nat) (w : World) (hk : k < 68) (hc : c.length = 68) (hI : RecInv m c cv bc bl g B w) :
    Calls Tryz.prog 174 #[.int .i64 (k : Int), .pointer (some ⟨bc, 0, none⟩), .pointer (some ⟨bl, 0, none⟩)] w fun e w' => e = .returned (.agg ((advS k (chainAt c k) (3 - digC m k)).map u8v).toArray) ∧ Ext w w' := by
  obtain ⟨hM, hD, hbc, hbl, hB, _⟩ := hI
  obtain ⟨b, o, c', rfl, _, _, hb, hR⟩ := hD.at (k := k) (by omega)
  rw [← chainAt_get (by omega : k < c.length)] at hR
  have hl := chainAt_length hD.1 k
  have h3 := digC_le m k
  have HA := hide (fun (W : World) (hE : Ext w W) => adv_any k (3 - digC m k) (chainAt c k) W (hM.ext hE) hl (by omega) (by omega))
  have HL := hide (advS_length k (chainAt c k) hl (3 - digC m k))
  have hdc : w.cell? ⟨g, k, none⟩ = some (.int .i64 ((digC m k : Nat) : Int)) := by rw [hB.cell, List.getElem?_toArray, icells_get _ hk]
  have e3 : IntKind.i64.wrap (3 - ((digC m k : Nat) : Int)) = ((3 - digC m k : Nat) : Int) := by rw [IntKind.wrap_i64]; omega
  obtain ⟨cells, hcs⟩ : ∃ l, (chainAt c k).map u8v = l := ⟨_, rfl⟩
  have HCL := hide (show cells.length = 16 from by rw [← hcs]; simpa using hl)
  rw [hcs] at hR HA
  obtain ⟨d, hd⟩ : ∃ d, advS k (chainAt c k) (3 - digC m k) = d := ⟨_, rfl⟩
  rw [hd] at HA HL ⊢
  have HF : Hid (∀ W, (Ext w W ∧ ∃ cs : Array Value, cs.size = 16 ∧ Blk W w.heap.size 23 cs) → W.cell? ⟨bc, 0, none⟩ = some (.slice (some ⟨b, o, none⟩) c.length c') ∧ W.cell? ⟨bl, 0, none⟩ = some (.slice (some ⟨g, 0, none⟩) 68 68) ∧ W.cell? ⟨g, k, none⟩ = some (.int .i64 ((digC m k : Nat) : Int))) := hide (fun W hW => ⟨Ext.cellv hW.1 hbc, Ext.cellv hW.1 hbl, Ext.cellv hW.1 hdc⟩)
  have HR := hide hR
  rw [hc] at HF
  generalize hdk : digC m k = dk at *
  generalize hsk : 3 - dk = sk at *
  have hkI : (k : Int) < 68 := by omega
  clear hM hD hbc hbl hB hR hdc hcs hd hl
  go_enter Tryz.func174, Tryz.ntmps174
  go_upto_region 1 with fail
  refine wp_region_held_drew (S := fun W => Ext w W ∧ ∃ cs : Array Value, cs.size = 16 ∧ Blk W w.heap.size 23 cs) (by kernel_rfl) ⟨((Ext.refl w).alloc _).drew, _, rfl, (Blk.new w _ _).drew⟩ (fun hHeld => ?_)
  refine wpAnyH_take (i := 0) (oi := _) (v := ?_) rfl (by kernel_rfl) (by kernel_rfl) (by kernel_rfl) (fun _ _ _ h => h) (Or.inl ⟨by rfl, fun wz hSz => ?_⟩) (by assumption) ?_
  rotate_left
  · (first | (go_simp; done) | (go_simp; with_reducible rfl) | (obtain ⟨f1, f2, f3⟩ := (unhide HF) wz hSz; clear hSz; first | (go_simp; done) | (go_simp; with_reducible rfl)))
  try simp only [Act.put, List.setIfInBounds_toArray, List.set_cons_zero, List.set_cons_succ, List.getElem_toArray, List.getElem_cons_zero]
  refine wpAnyH_take (i := 1) (oi := _) (v := ?_) rfl (by kernel_rfl) (by kernel_rfl) (by kernel_rfl) (fun _ _ _ h => h) (Or.inl ⟨by rfl, fun wz hSz => ?_⟩) (by assumption) ?_
  rotate_left
  · (first | (go_simp; done) | (go_simp; with_reducible rfl) | (obtain ⟨f1, f2, f3⟩ := (unhide HF) wz hSz; clear hSz; first | (go_simp; done) | (go_simp; with_reducible rfl)))
  try simp only [Act.put, List.setIfInBounds_toArray, List.set_cons_zero, List.set_cons_succ, List.getElem_toArray, List.getElem_cons_succ, List.getElem_cons_zero]
  refine wpAnyH_take (i := 2) (oi := _) (v := ?_) rfl (by kernel_rfl) (by kernel_rfl) (by kernel_rfl) (fun _ _ _ h => h) (Or.inl ⟨by rfl, fun wz hSz => ?_⟩) (by assumption) ?_
  rotate_left
  · (first | (go_simp; done) | (go_simp; with_reducible rfl) | (obtain ⟨f1, f2, f3⟩ := (unhide HF) wz hSz; clear hSz; first | (go_simp; done) | (go_simp; with_reducible rfl)))
  try simp only [Act.put, List.setIfInBounds_toArray, List.set_cons_zero, List.set_cons_succ, List.getElem_toArray, List.getElem_cons_succ, List.getElem_cons_zero]
  refine wpAnyH_take (i := 3) (oi := _) (v := ?_) rfl (by kernel_rfl) (by kernel_rfl) (by kernel_rfl) (fun _ _ _ h => h) (Or.inl ⟨by rfl, fun wz hSz => ?_⟩) (by assumption) ?_
  rotate_left
  · (first | (go_simp; done) | (go_simp; with_reducible rfl) | (obtain ⟨f1, f2, f3⟩ := (unhide HF) wz hSz; clear hSz; first | (go_simp; done) | (go_simp; with_reducible rfl)))
  try simp only [Act.put, List.setIfInBounds_toArray, List.set_cons_zero, List.set_cons_succ, List.getElem_toArray, List.getElem_cons_succ, List.getElem_cons_zero]
  refine wpAnyH_take (i := 4) (oi := _) (v := _) rfl (by kernel_rfl) (by kernel_rfl) (by kernel_rfl) (fun _ _ _ h => h) (ylm digest_wide rfl (by rfl) rfl (unhide HCL) (fun w' hw => rangeAt_ext (unhide HR) hw.1)) (by assumption) ?_
  try simp only [Act.put, List.setIfInBounds_toArray, List.set_cons_zero, List.set_cons_succ, List.getElem_toArray, List.getElem_cons_succ, List.getElem_cons_zero]
  refine wpAnyH_take (i := 5) (oi := _) (v := ?_) rfl (by kernel_rfl) (by kernel_rfl) (by kernel_rfl) (fun _ _ _ h => h) (Or.inl ⟨by rfl, fun wz hSz => ?_⟩) (by assumption) ?_
  rotate_left
  · (first | (go_simp; done) | (go_simp; with_reducible rfl) | (obtain ⟨f1, f2, f3⟩ := (unhide HF) wz hSz; clear hSz; first | (go_simp; done) | (go_simp; with_reducible rfl)))
  try simp only [Act.put, List.setIfInBounds_toArray, List.set_cons_zero, List.set_cons_succ, List.getElem_toArray, List.getElem_cons_succ, List.getElem_cons_zero]
  refine wpAnyH_take (i := 6) (oi := _) (v := ?_) rfl (by kernel_rfl) (by kernel_rfl) (by kernel_rfl) (fun _ _ _ h => h) (Or.inl ⟨by rfl, fun wz hSz => ?_⟩) (by assumption) ?_
  rotate_left
  · (first | (go_simp; done) | (go_simp; with_reducible rfl) | (obtain ⟨f1, f2, f3⟩ := (unhide HF) wz hSz; clear hSz; first | (go_simp; done) | (go_simp; with_reducible rfl)))
  try simp only [Act.put, List.setIfInBounds_toArray, List.set_cons_zero, List.set_cons_succ, List.getElem_toArray, List.getElem_cons_succ, List.getElem_cons_zero]
  refine wpAnyH_take (i := 7) (oi := _) (v := ?_) rfl (by kernel_rfl) (by kernel_rfl) (by kernel_rfl) (fun _ _ _ h => h) (Or.inl ⟨by rfl, fun wz hSz => ?_⟩) (by assumption) ?_
  rotate_left
  · (first | (go_simp; done) | (go_simp; with_reducible rfl) | (obtain ⟨f1, f2, f3⟩ := (unhide HF) wz hSz; clear hSz; first | (go_simp; done) | (go_simp; with_reducible rfl)))
  try simp only [Act.put, List.setIfInBounds_toArray, List.set_cons_zero, List.set_cons_succ, List.getElem_toArray, List.getElem_cons_succ, List.getElem_cons_zero]
  refine wpAnyH_take (i := 8) (oi := _) (v := ?_) rfl (by kernel_rfl) (by kernel_rfl) (by kernel_rfl) (fun _ _ _ h => h) (Or.inl ⟨by rfl, fun wz hSz => ?_⟩) (by assumption) ?_
  rotate_left
  · (first | (go_simp; done) | (go_simp; with_reducible rfl) | (obtain ⟨f1, f2, f3⟩ := (unhide HF) wz hSz; clear hSz; first | (go_simp; done) | (go_simp; with_reducible rfl)))
  try simp only [Act.put, List.setIfInBounds_toArray, List.set_cons_zero, List.set_cons_succ, List.getElem_toArray, List.getElem_cons_succ, List.getElem_cons_zero]
  refine wpAnyH_take (i := 9) (oi := _) (v := ?_) rfl (by kernel_rfl) (by kernel_rfl) (by kernel_rfl) (fun _ _ _ h => h) (Or.inl ⟨by rfl, fun wz hSz => ?_⟩) (by assumption) ?_
  rotate_left
  · (first | (go_simp; done) | (go_simp; with_reducible rfl) | (obtain ⟨f1, f2, f3⟩ := (unhide HF) wz hSz; clear hSz; first | (go_simp; done) | (go_simp; with_reducible rfl)))
  try simp only [Act.put, List.setIfInBounds_toArray, List.set_cons_zero, List.set_cons_succ, List.getElem_toArray, List.getElem_cons_succ, List.getElem_cons_zero]

  refine wpAnyH_ready (rs := [10]) (by kernel_rfl) (by simp) (AllReadyH.cons (o := _) rfl (fun K hK => ?_) AllReadyH.nil)
  try go_simp
  (refine (unhide HA _ hHeld.1).mono ?_; rintro e w5 ⟨rfl, hE5⟩; have hS := And.intro (hHeld.1.trans hE5) (hHeld.2.imp fun _ h => And.intro h.1 (h.2.ext hE5)); clear hE5 hHeld)
  refine hK.out _ _ ?_ (fun hHeld => ?_)
  · exact hS
  clear hK K
  try simp only [Act.put, List.setIfInBounds_toArray, List.set_cons_zero, List.set_cons_succ, List.getElem_toArray, List.getElem_cons_succ, List.getElem_cons_zero]
  obtain ⟨hX, cs, hcs, hBk⟩ := hHeld
  refine wpAnyH_ready (rs := [11]) (by kernel_rfl) (by simp) (AllReadyH.cons (o := _) rfl (fun K hK => ?_) AllReadyH.nil)
  (refine step_storeB (ty := 23) (t := 23) (x := .tmp 4) (y := .tmp 15) rfl rfl digest_wide rfl rfl hBk hcs (by simpa using unhide HL) (bytes_one _) ?_; intro w7 hb7 hc7 hz7; have hS : Ext w w7 ∧ ∃ cs : Array Value, cs.size = 16 ∧ Blk w7 w.heap.size 23 cs := ⟨hX.trans' hc7 (fun _ _ h => h) (fun i hi e => by omega), _, by simpa using unhide HL, hb7⟩; have H7 := hide hb7; clear hb7 hc7 hz7)
  refine hK.out _ _ ?_ (fun hHeld => ?_)
  · exact hS
  clear hK K
  try simp only [Act.put, List.getElem_toArray, List.getElem_cons_succ, List.getElem_cons_zero]
  refine wpAnyH_done (by kernel_rfl) ?_ _
  have H8 := hide hHeld.1
  go_wp2
  refine bodyPost_ret (v := .agg (d.map u8v).toArray) (results_blk digest_wide rfl (unhide H7) (by simpa using unhide HL) rfl) rfl ⟨rfl, unhide H8⟩

end Go.Proofs.YtplkplegjoabgaaGreatDoor

/-
  wots.Recover and wots.Sign.
-/
namespace Go.Proofs.YtplkplegjoabgaaGreatDoor
open Go.RowKit

def recV (m : List UInt8) (c : List (List UInt8)) : Value := if c.length = 68 then .tuple #[.agg ((recoverS m (chainAt c)).map u8v).toArray, .int .i64 0] else .tuple #[.agg (z16.map u8v).toArray, .int .i64 9]

set_option maxRecDepth 100000 in
set_option maxHeartbeats 4000000 in
theorem recover_no (m : List UInt8) (c : List (List UInt8)) (cv : Value) (w : World) (hc : ¬ c.length = 68) (hD : Digs w cv c) :
    Calls Tryz.prog 142 #[.agg (m.map u8v).toArray, cv] w fun e w' => e = .returned (.tuple #[.agg (z16.map u8v).toArray, .int .i64 9]) ∧ Ext w w' := by
  obtain ⟨A, c', rfl, _, _⟩ := hD.form
  obtain ⟨arr, harr⟩ : ∃ r, (m.map u8v).toArray = r := ⟨_, rfl⟩
  rw [harr]
  clear hD harr
  have hcI : ¬ (c.length : Int) = 68 := by omega
  generalize c.length = n at *
  go_enter Tryz.func142, Tryz.ntmps142
  go_wp2
  refine bodyPost_ret (v := .tuple #[.agg (z16.map u8v).toArray, .int .i64 9]) (results_two digest_wide rfl (Blk.new' _ _ _ (by simp)) rfl rfl rfl) rfl ⟨rfl, ?_⟩
  exact (((Ext.refl w).alloc _).alloc _).alloc _

set_option maxRecDepth 100000 in
set_option maxHeartbeats 4000000 in
theorem recover_yes (m : List UInt8) (c : List (List UInt8)) (cv : Value) (w : World) (hM : ShaMem w) (hm : m.length = 16) (hc : c.length = 68) (hD : Digs w cv c) :
    Calls Tryz.prog 142 #[.agg (m.map u8v).toArray, cv] w fun e w' => e = .returned (.tuple #[.agg ((recoverS m (chainAt c)).map u8v).toArray, .int .i64 0]) ∧ Ext w w' := by
  obtain ⟨A, c', rfl, _, _⟩ := hD.form
  have hlt := hD.own_lt (by omega)
  have hsl := hM.lt
  have HDg := hide (fun (W : World) => digits_any m W hm)
  have HK := hide (fun (g bl B : Nat) (W : World) (hI : RecInv m c (.slice A c.length c') (w.heap.size + 1) bl g B W) (hB : B ≤ W.heap.size) =>
    key_any (F := 174) (caps := #[.pointer (some ⟨w.heap.size + 1, 0, none⟩), .pointer (some ⟨bl, 0, none⟩)]) (f := fun k => advS k (chainAt c k) (3 - digC m k)) (Inv := RecInv m c (.slice A c.length c') (w.heap.size + 1) bl g B) (B := B)
      ⟨call_enters Tryz.func174 (by kernel_rfl) rfl, fun k W hk hI => rec1_any k m c _ _ _ _ _ W hk hc hI, fun W W' hI hC => hI.keep hC, fun k => advS_length k _ (chainAt_length hD.1 k) _⟩ W hB hI.mem hI)
  have HM := hide (And.intro hM (And.intro hD (And.intro hlt hsl)))
  obtain ⟨arr, harr⟩ : ∃ r, (m.map u8v).toArray = r := ⟨_, rfl⟩
  rw [harr] at HDg ⊢
  have HR := hide (show keyOf (fun k => advS k (chainAt c k) (3 - digC m k)) = recoverS m (chainAt c) ∧ (recoverS m (chainAt c)).length = 16 from ⟨rfl, digestS_length _ _⟩)
  obtain ⟨res, hres⟩ : ∃ r, recoverS m (chainAt c) = r := ⟨_, rfl⟩
  rw [hres] at HR ⊢
  have hasz : arr.size = 16 := by rw [← harr]; simpa using hm
  have hmf := mkfun
  rw [hc] at HK ⊢
  rw [hc] at HM
  clear hM harr hres hD hlt hsl
  go_enter Tryz.func142, Tryz.ntmps142
  go_wp2_with (refine wpList_loadB (ty := 23) (t := 23) (x := .tmp 2) rfl rfl digest_wide rfl (((Blk.new w _ _).alloc _).alloc _) hasz ?_)
  refine (unhide HDg _).mono ?_
  rintro e w1 ⟨g, rfl, hb1, hg, hE1⟩
  have H1 := hide (And.intro hb1 (And.intro ((((Ext.refl w).alloc _).alloc _).alloc _ |>.trans hE1) (And.intro (Ext.cellv hE1 (old_cell _ _ (new_cell (w.alloc (.cells arr 23)) 30 #[.slice A 68 c'] (g := w.heap.size + 1) (by simp) (i := 0) rfl))) ((Blk.new' ((w.alloc (.cells arr 23)).alloc (.cells #[.slice A 68 c'] 30)) 23 (Array.replicate 16 (.int .u8 0)) (g := w.heap.size + 1 + 1) (by simp)).ext hE1))))
  clear hb1 hE1
  have hw1 : w.heap.size + 1 + 1 < w1.heap.size := (unhide H1).2.2.2.lt
  go_wp2_with fail
  refine (unhide HK g w1.heap.size (w1.heap.size + 1) _ ⟨(unhide HM).1.ext ((unhide H1).2.1.alloc _), (unhide HM).2.1.ext ((unhide H1).2.1.alloc _), old_cell _ _ (unhide H1).2.2.1, new_cell _ _ _ rfl rfl, (unhide H1).1.alloc _, fun k hk => by have := (unhide HM).2.2.1 k hk; omega, by omega, by omega, by have := (unhide H1).1.lt; omega, by have := (unhide HM).2.2.2; omega, by have := (unhide HM).2.2.2; omega⟩ (by simp)).mono ?_
  rintro e w2 ⟨rfl, hE2⟩
  rw [(unhide HR).1]
  have H2 := hide (((Ext.refl w1).alloc _).trans hE2)
  clear hE2 hmf
  go_wp2_with (refine wpList_storeB (ty := 23) (t := 23) (x := .tmp 4) (y := .tmp 14) rfl rfl digest_wide rfl rfl ((unhide H1).2.2.2.ext (unhide H2)) rfl (by simpa using (unhide HR).2) (bytes_one _) ?_; intro w7 hb7 hc7 hz7; have H7 := hide (And.intro hb7 hc7); clear hb7 hc7 hz7)
  refine bodyPost_ret (v := .tuple #[.agg (res.map u8v).toArray, .int .i64 0]) (results_two digest_wide rfl (unhide H7).1 (by simpa using (unhide HR).2) rfl rfl) rfl ⟨rfl, ?_⟩
  exact ((unhide H1).2.1.trans (unhide H2)).trans' (unhide H7).2 (fun _ _ h => h) (fun i hi e => by omega)

theorem recover_any (m : List UInt8) (c : List (List UInt8)) (cv : Value) (w : World) (hM : ShaMem w) (hm : m.length = 16) (hD : Digs w cv c) :
    Calls Tryz.prog 142 #[.agg (m.map u8v).toArray, cv] w fun e w' => e = .returned (recV m c) ∧ Ext w w' := by
  unfold recV
  split
  · rename_i h; exact recover_yes m c cv w hM hm h hD
  · rename_i h; exact recover_no m c cv w h hD

/-- The chain values of a signature. -/
def signS (seed : List UInt8) (index : Int) (m : List UInt8) (n : Nat) : List (List UInt8) := (List.range n).map (signAt seed index m)
theorem signAt_length (seed : List UInt8) (index : Int) (m : List UInt8) (k : Nat) : (signAt seed index m k).length = 16 := advS_length k _ (startS_length _ _ _) _
theorem signS_step (seed : List UInt8) (index : Int) (m : List UInt8) (n : Nat) : signS seed index m (n + 1) = signS seed index m n ++ [signAt seed index m n] := by unfold signS; rw [List.range_succ, List.map_append]; rfl
theorem signS_length (seed : List UInt8) (index : Int) (m : List UInt8) (n : Nat) : (signS seed index m n).length = n := by unfold signS; simp
theorem signS_16 (seed : List UInt8) (index : Int) (m : List UInt8) (n : Nat) : D16 (signS seed index m n) := fun d hd => by
  unfold signS at hd
  obtain ⟨k, _, rfl⟩ := List.mem_map.1 hd
  exact signAt_length _ _ _ _

end Go.Proofs.YtplkplegjoabgaaGreatDoor

/-
  A range over a function whose loop variable lies in a box, as one law of the plain walk.
-/
namespace Go.Proofs.YtplkplegjoabgaaGreatDoor
open Go.RowKit

theorem KeepB.of_ext {w w' : World} (h : Ext w w') : KeepB w w' := fun _ _ hk _ => h.blk hk
theorem KeepB.own {β : Type} {B : Nat} {I : β → World → Prop} (h : ∀ s W W', I s W → KeepB W W' → I s W') : OwnFrom B I := by
  intro s W W' row hs hg hrow
  refine h s W W' hs fun k o hk ho => ?_
  rw [hg.block k (lt_of_heap hk) (fun e => ?_)]
  · exact hk
  · obtain ⟨_, q, hq, hqc⟩ := hrow k e.symm
    rw [hk] at hq
    cases hq
    rw [ho] at hqc
    cases hqc
theorem wp_rangeH {α : Type} {P : Program} {g : Operand} {ps : Array Tmp} {assign body : Code} {Q : Exit → Act → World → Prop} {a : Act} {w : World}
    {gf : Nat} {lb : Array Value} (hg : a.eval g = .func (.func gf) #[] lb) (eg : ∀ args w, (callFunc gf args).run P w = .ok (.enter gf args) w)
    {encs : α → Array Value} {S : Nat → Prop} {all : List α} {N : Nat}
    (hseq : SeqStopsK Fence.wide 2 P gf lb encs (KeepC S) (fun ys => ys = all) (fun _ => True) N w) (hps : ∀ x, (encs x).size = ps.size)
    (J : List α → World → Prop) (hJ : ∀ pre W W', J pre W → KeepB W W' → J pre W') (h0 : J [] w) (Ax : α → Act → World → Prop) (hAx : ∀ x a' W W', Ax x a' W → KeepB W W' → Ax x a' W')
    (hassign : ∀ (l : Nat) (pre : List α) (x : α) (W : World) (K : Act → World → Prop), Chg S w W → J pre W → (∀ a' W', Ext W W' → Ax x a' W' → K a' W') →
      assign.wpIn (Fence.wide.inRound l) 1 P (Exit.then K (fun _ _ _ => False)) { tmps := (ps.zip (encs x)).foldl (fun t (p, v) => t.setIfInBounds p v) a.tmps, defers := [] } W)
    (hbody : ∀ (l : Nat) (pre : List α) (x : α) (a' : Act) (W : World), Chg S w W → J pre W → Ax x a' W → pre.length < N →
      body.wpIn (Fence.wide.inRound l) 1 P (Exit.then (fun _ W' => Chg S W W' ∧ KeepsFrom w.heap.size W W' ∧ J (pre ++ [x]) W') (fun _ _ _ => False)) a' W)
    (hdone : ∀ (D : Nat) (W : World), w.heap.size ≤ D → Chg S w W → J all W → W.heap[D]? = some (.deferred (some [])) → Q .normal { a with defers := { target := .collected D, args := #[] } :: a.defers } W) :
    (Code.rangeFunc g ps assign body).wp P Q a w := by
  refine (wpIn_wide (n := 3)).1 ?_
  refine wpIn_rangeFunc_ownH (n := 3) (N := N) (w0 := w) rfl (by omega) hg trivial eg hseq (fun h k => h.trans k) (fun W l o o' _ h ho _ => KeepC.putObj W l o' h ho) (Below.refl _ _) hps
    (fun pre W => Chg S w W ∧ J pre W) (fun _ _ _ => False) ?hI (fun _ _ _ _ _ h _ _ => h) ⟨Chg.refl _ _, h0⟩ Ax (fun x a' => KeepB.own fun _ W W' h k => hAx x a' W W' h k) ?hassign ?hbody ?hdone (fun _ _ _ _ _ _ h _ => h.elim)
  case hI =>
    rintro pre W W' row ⟨hc, hj⟩ hgr hrow
    exact ⟨hc.grown hgr fun k e => .inr (hrow k e).1, KeepB.own (B := w.heap.size) hJ pre W W' row hj hgr hrow⟩
  case hassign =>
    rintro l pre x W K ⟨hc, hj⟩ hK
    refine hassign l pre x W K hc hj fun a' W' hE hA => hK a' W' ⟨hE.size', fun k o _ hk _ => hE.blk hk⟩ (KeepC.of_chg hE.chg) ⟨hc.ext hE, hJ _ _ _ hj (KeepB.of_ext hE)⟩ hA
  case hbody =>
    rintro l pre x a' W _ _ ⟨hc, hj⟩ hA hl
    refine wpIn_mono (hbody l pre x a' W hc hj hA hl) ?_
    rintro e b W' h
    cases e with
    | normal =>
      obtain ⟨h1, h3, h2⟩ := h
      exact ⟨h3, KeepC.of_chg h1, hc.trans h1, h2⟩
    | _ => exact h.elim
  case hdone =>
    rintro D xs W hD rfl ⟨hc, hj⟩ hd
    exact hdone D W hD hc hj hd
theorem keeps_ext (B : Nat) {w w' : World} (h : Ext w w') : KeepsFrom B w w' := ⟨h.size', fun _ _ _ hk _ => h.blk hk⟩
theorem keeps_own {B0 B : Nat} {w w' : World} {e : TypeId} {size : Nat} {v : Value} {n : Nat} {xs : List Value} (h : w.ownsRow B e size v n xs) (hc : Chg (fun k => v.ownBlock = some k) w w') : KeepsFrom B0 w w' := by
  refine ⟨hc.size, fun k o _ hk ho => hc.blk hk fun hv => ?_⟩
  rcases h.2 with ⟨rfl, _⟩ | ⟨g, cap, cur, rfl, _, hg, _⟩
  · simp [Value.ownBlock] at hv
  · simp only [Value.ownBlock, Option.some.injEq] at hv
    subst hv
    rw [hg] at hk
    cases hk
    simp [Obj.isCells] at ho
theorem KeepB.own' {w w' : World} (hk : KeepB w w') {B : Nat} {e : TypeId} {size : Nat} {v : Value} {n : Nat} {xs : List Value} (h : w.ownsRow B e size v n xs) : w'.ownsRow B e size v n xs := by
  refine ⟨h.1, ?_⟩
  rcases h.2 with hn | ⟨g, cap, cur, rfl, hb, hgg, rest⟩
  · exact .inl hn
  · exact .inr ⟨g, cap, cur, rfl, hb, hk _ _ hgg rfl, rest⟩
theorem grown_of_ext {w w' : World} (h : Ext w w') : w.grownBy w' none := ⟨h.os, h.tape, h.output, h.size', fun k hk _ => h.block k hk (fun h => h)⟩

end Go.Proofs.YtplkplegjoabgaaGreatDoor

/-
  A region that draws its order, whose operation k (a store, say) writes what other operations load: those loads come up before k, so what holds of the world (C) is asked until k has come up, and no longer. Plain: no function of the program is named here.
-/
namespace Go.Proofs.YtplkplegjoabgaaGreatDoor
open Go.RowKit

section
variable {P : Program} {ops : Array Oper} {Q : Exit → Act → World → Prop} {md : Region.Mode} {k : Nat} {C : World → Prop}

def wpAnyK (P : Program) (md : Region.Mode) (ops : Array Oper) (Q : Exit → Act → World → Prop) (k : Nat) (C : World → Prop) : Nat → Array Bool → Act → World → Prop
  | 0, l, a, w => Region.ready md ops l = [] ∧ Q .normal a w
  | f + 1, l, a, w => (Region.ready md ops l = [] → Q .normal a w) ∧
    ∀ i ∈ Region.ready md ops l, wpOp P ops Q i (fun a' w' => ((l.setIfInBounds i true).getD k true = false → C w') ∧ wpAnyK P md ops Q k C f (l.setIfInBounds i true) a' w') a w
theorem wpAny_of_key : ∀ (f : Nat) (l : Array Bool) (a : Act) (w : World), wpAnyK P md ops Q k C f l a w → wpAny P md ops Q f l a w
  | 0, _, _, _, h => h
  | f + 1, _, _, _, h => ⟨h.1, fun i hi => wpOp_mono (fun a' w' h' => wpAny_of_key f _ a' w' h'.2) (h.2 i hi)⟩
/-- k waits for i. -/
def waitsB (md : Region.Mode) (ops : Array Oper) (k i : Nat) : Bool := match ops[k]? with
  | some o => o.after.any fun e => Region.binds md e && e.on == i
  | none => false
theorem ready_ne {l : Array Bool} {i j : Nat} (hi : i ∈ Region.ready md ops l) (hj : j ∈ Region.ready md ops l) (hk : waitsB md ops k i = true) : j ≠ k := by
  rintro rfl
  obtain ⟨_, o, ho, hall⟩ := mem_ready.1 hj
  unfold waitsB at hk
  rw [ho] at hk
  obtain ⟨e, he, h2⟩ := Array.any_eq_true'.1 hk
  rw [Bool.and_eq_true, beq_iff_eq] at h2
  have h1 := hall e he h2.1
  have h0 := (mem_ready.1 hi).1
  rw [h2.2] at h1
  rcases Nat.lt_or_ge i l.size with h' | h'
  · simp [h'] at h0 h1; rw [h0] at h1; cases h1
  · simp [Array.getElem?_eq_none h'] at h1
theorem getD_set_ne' {l : Array Bool} {i j : Nat} (d : Bool) (h : i ≠ j) : (l.setIfInBounds i true).getD j d = l.getD j d := by
  simp [Array.getD_eq_getD_getElem?, Array.getElem?_setIfInBounds_ne h]

theorem wpAnyK_first {i : Nat} {oi : Oper} {v : Value} (hi : ops[i]? = some oi) (hsel : ∀ (j : Nat) (o : Oper) cs b, ops[j]? = some o → o.op ≠ .select cs b)
    (hQ : ∀ c a w, Q (.panic c) (a.put oi.dst v) w → Q (.panic c) a w) (hki : waitsB md ops k i = true) :
    ∀ (f : Nat) (l : Array Bool) (a : Act) (w : World),
      (∀ j oj, ops[j]? = some oj → j ≠ i → l.getD j true = false → (∀ e ∈ oj.after, Region.binds md e = true → e.on ≠ i) → oi.apart ops oj = true) →
      i ∈ Region.ready md ops l → l.getD k true = false → i ≠ k → YieldsIf P ops C oi v a → C w →
      wpAnyK P md ops Q k C f (l.setIfInBounds i true) (a.put oi.dst v) w → wpAnyK P md ops Q k C (f + 1) l a w := by
  intro f
  induction f with
  | zero =>
    intro l a w _ hr _ _ hy hC H
    refine ⟨fun h => (by rw [h] at hr; cases hr), fun j hj => ?_⟩
    by_cases hji : j = i
    · subst hji; exact hy.wpOp hi hC ⟨fun _ => hC, H⟩
    · have := ready_mono hj hji
      rw [H.1] at this
      cases this
  | succ f ih =>
    intro l a w hfree hr hkl hik hy hC H
    refine ⟨fun h => (by rw [h] at hr; cases hr), fun j hj => ?_⟩
    by_cases hji : j = i
    · subst hji; exact hy.wpOp hi hC ⟨fun _ => hC, H⟩
    · have hjk : j ≠ k := ready_ne hr hj hki
      have h1 := H.2 j (ready_mono hj hji)
      obtain ⟨hjun, oj, hoj, hall⟩ := mem_ready.1 hj
      have hnot : ∀ e ∈ oj.after, Region.binds md e = true → e.on ≠ i := fun e he hb heq => by
        have h1 := hall e he hb
        have h0 := (mem_ready.1 hr).1
        rw [heq] at h1
        rcases Nat.lt_or_ge i l.size with h' | h'
        · simp [h'] at h0 h1; rw [h0] at h1; cases h1
        · simp [Array.getElem?_eq_none h'] at h1
      have h2 := wpOp_putIf hoj (hfree j oj hoj hji hjun hnot) (fun cs b => hsel i oi cs b hi) (fun cs b => hsel j oj cs b hoj) hQ hy h1
      have hfree' : ∀ m om, ops[m]? = some om → m ≠ i → (l.setIfInBounds j true).getD m true = false →
          (∀ e ∈ om.after, Region.binds md e = true → e.on ≠ i) → oi.apart ops om = true := fun m om hm hmi hun hno => by
        refine hfree m om hm hmi ?_ hno
        by_cases hjm : j = m
        · subst hjm; exact hjun
        · rw [getD_set_ne' true hjm] at hun; exact hun
      have hkl' : (l.setIfInBounds j true).getD k true = false := by rw [getD_set_ne' true hjk]; exact hkl
      refine wpOp_mono (fun a' w' h3 => ?_) h2
      have hC' : C w' := h3.2.1 (by rw [getD_set_ne' true hjk, getD_set_ne' true hik]; exact hkl)
      refine ⟨fun _ => hC', ih (l.setIfInBounds j true) a' w' hfree' (ready_mono hr (Ne.symm hji)) hkl' hik h3.1 hC' ?_⟩
      rw [Array.setIfInBounds_comm _ _ hji]
      exact h3.2.2
theorem wpAnyK_take {i : Nat} {oi : Oper} {v : Value} {f : Nat} {l : Array Bool} {a : Act} {w : World} (hi : ops[i]? = some oi)
    (hs : Region.noSelect ops = true) (hf : Region.free md ops l i = true) (hr : (Region.ready md ops l).contains i = true) (hki : waitsB md ops k i = true) (hkl : (!l.getD k true && i != k) = true)
    (hQ : ∀ c a w, Q (.panic c) (a.put oi.dst v) w → Q (.panic c) a w) (hy : YieldsIf P ops C oi v a) (hC : C w)
    (h : wpAnyK P md ops Q k C f (l.setIfInBounds i true) (a.put oi.dst v) w) : wpAnyK P md ops Q k C (f + 1) l a w := by
  rw [Bool.and_eq_true, Bool.not_eq_true', bne_iff_ne] at hkl
  exact wpAnyK_first hi (Region.noSelect_spec hs) hQ hki f l a w (Region.free_spec hi hf) (by simpa using hr) hkl.1 hkl.2 hy hC h
/-- An operation that looks at no world may come up whenever it likes. -/
theorem wpAnyK_firstF {i : Nat} {oi : Oper} {v : Value} (hi : ops[i]? = some oi) (hsel : ∀ (j : Nat) (o : Oper) cs b, ops[j]? = some o → o.op ≠ .select cs b)
    (hQ : ∀ c a w, Q (.panic c) (a.put oi.dst v) w → Q (.panic c) a w) (hik : i ≠ k) :
    ∀ (f : Nat) (l : Array Bool) (a : Act) (w : World),
      (∀ j oj, ops[j]? = some oj → j ≠ i → l.getD j true = false → (∀ e ∈ oj.after, Region.binds md e = true → e.on ≠ i) → oi.apart ops oj = true) →
      i ∈ Region.ready md ops l → YieldsIf P ops (fun _ => True) oi v a → (l.getD k true = false → C w) →
      wpAnyK P md ops Q k C f (l.setIfInBounds i true) (a.put oi.dst v) w → wpAnyK P md ops Q k C (f + 1) l a w := by
  intro f
  induction f with
  | zero =>
    intro l a w _ hr hy hC H
    refine ⟨fun h => (by rw [h] at hr; cases hr), fun j hj => ?_⟩
    by_cases hji : j = i
    · subst hji; exact hy.wpOp hi trivial ⟨fun h => hC (by rw [getD_set_ne' true hik] at h; exact h), H⟩
    · have := ready_mono hj hji
      rw [H.1] at this
      cases this
  | succ f ih =>
    intro l a w hfree hr hy hC H
    refine ⟨fun h => (by rw [h] at hr; cases hr), fun j hj => ?_⟩
    by_cases hji : j = i
    · subst hji; exact hy.wpOp hi trivial ⟨fun h => hC (by rw [getD_set_ne' true hik] at h; exact h), H⟩
    · have h1 := H.2 j (ready_mono hj hji)
      obtain ⟨hjun, oj, hoj, hall⟩ := mem_ready.1 hj
      have hnot : ∀ e ∈ oj.after, Region.binds md e = true → e.on ≠ i := fun e he hb heq => by
        have h1 := hall e he hb
        have h0 := (mem_ready.1 hr).1
        rw [heq] at h1
        rcases Nat.lt_or_ge i l.size with h' | h'
        · simp [h'] at h0 h1; rw [h0] at h1; cases h1
        · simp [Array.getElem?_eq_none h'] at h1
      have h2 := wpOp_putIf hoj (hfree j oj hoj hji hjun hnot) (fun cs b => hsel i oi cs b hi) (fun cs b => hsel j oj cs b hoj) hQ hy h1
      have hfree' : ∀ m om, ops[m]? = some om → m ≠ i → (l.setIfInBounds j true).getD m true = false →
          (∀ e ∈ om.after, Region.binds md e = true → e.on ≠ i) → oi.apart ops om = true := fun m om hm hmi hun hno => by
        refine hfree m om hm hmi ?_ hno
        by_cases hjm : j = m
        · subst hjm; exact hjun
        · rw [getD_set_ne' true hjm] at hun; exact hun
      refine wpOp_mono (fun a' w' h3 => ?_) h2
      have hC' : (l.setIfInBounds j true).getD k true = false → C w' := fun h => h3.2.1 (by
        rw [Array.setIfInBounds_comm _ _ (Ne.symm hji), getD_set_ne' true hik]; exact h)
      refine ⟨hC', ih (l.setIfInBounds j true) a' w' hfree' (ready_mono hr (Ne.symm hji)) h3.1 hC' ?_⟩
      rw [Array.setIfInBounds_comm _ _ hji]
      exact h3.2.2
theorem wpAnyK_takeF {i : Nat} {oi : Oper} {v : Value} {f : Nat} {l : Array Bool} {a : Act} {w : World} (hi : ops[i]? = some oi)
    (hs : Region.noSelect ops = true) (hf : Region.free md ops l i = true) (hr : (Region.ready md ops l).contains i = true) (hik : (i != k) = true)
    (hQ : ∀ c a w, Q (.panic c) (a.put oi.dst v) w → Q (.panic c) a w) (hy : YieldsIf P ops (fun _ => True) oi v a) (hC : C w)
    (h : wpAnyK P md ops Q k C f (l.setIfInBounds i true) (a.put oi.dst v) w) : wpAnyK P md ops Q k C (f + 1) l a w :=
  wpAnyK_firstF hi (Region.noSelect_spec hs) hQ (bne_iff_ne.1 hik) f l a w (Region.free_spec hi hf) (by simpa using hr) hy (fun _ => hC) h
def AllReadyK (P : Program) (md : Region.Mode) (ops : Array Oper) (Q : Exit → Act → World → Prop) (k : Nat) (C : World → Prop) (f : Nat) (l : Array Bool) (a : Act) (w : World) (rs : List Nat) : Prop :=
  ∀ i ∈ rs, wpOp P ops Q i (fun a' w' => ((l.setIfInBounds i true).getD k true = false → C w') ∧ wpAnyK P md ops Q k C f (l.setIfInBounds i true) a' w') a w
theorem AllReadyK.nil {f : Nat} {l : Array Bool} {a : Act} {w : World} : AllReadyK P md ops Q k C f l a w [] := fun _ h => by cases h
/-- An operation other than k. -/
theorem AllReadyK.cons {f : Nat} {l : Array Bool} {a : Act} {w : World} {i : Nat} {o : Oper} {rs : List Nat} (ho : ops[i]? = some o)
    (h : ∀ K' : Act → World → Prop, Shut (∀ a w, C w → (C w → wpAnyK P md ops Q k C f (l.setIfInBounds i true) a w) → K' a w) → if Region.wanted o (yielded ops a.tmps) = true then Oper.wp P o a w K' Q else K' (a.put o.dst undef) w)
    (hs : AllReadyK P md ops Q k C f l a w rs) : AllReadyK P md ops Q k C f l a w (i :: rs) := fun j hj => by
  rcases List.mem_cons.1 hj with rfl | hj
  · exact wpOp_step ho (fun K' hK => h K' (fun a w hS hW => hK a w ⟨fun _ => hS, hW hS⟩))
  · exact hs j hj
/-- The operation k itself. -/
theorem AllReadyK.key {f : Nat} {l : Array Bool} {a : Act} {w : World} {i : Nat} {o : Oper} (hk : (l.setIfInBounds i true).getD k true = true) (ho : ops[i]? = some o)
    (h : ∀ K' : Act → World → Prop, Shut (∀ a w, True → (True → wpAnyK P md ops Q k C f (l.setIfInBounds i true) a w) → K' a w) → if Region.wanted o (yielded ops a.tmps) = true then Oper.wp P o a w K' Q else K' (a.put o.dst undef) w) : AllReadyK P md ops Q k C f l a w [i] := fun j hj => by
  rcases List.mem_cons.1 hj with rfl | hj
  · exact wpOp_step ho (fun K' hK => h K' (fun a w hS hW => hK a w ⟨(by rw [hk]; intro h; cases h), hW hS⟩))
  · cases hj
theorem wpAnyK_ready {rs : List Nat} {f : Nat} {l : Array Bool} {a : Act} {w : World} (hr : Region.ready md ops l = rs) (hne : rs ≠ [])
    (h : AllReadyK P md ops Q k C f l a w rs) : wpAnyK P md ops Q k C (f + 1) l a w :=
  ⟨fun h0 => absurd (hr ▸ h0) hne, hr ▸ h⟩
theorem wpAnyK_done {l : Array Bool} {a : Act} {w : World} (hr : Region.ready md ops l = []) (h : Q .normal a w) : ∀ f, wpAnyK P md ops Q k C f l a w
  | 0 => ⟨hr, h⟩
  | _ + 1 => ⟨fun _ => h, by rw [hr]; simp⟩
theorem wp_region_key (k : Nat) (C : World → Prop) {id : Nat} {a : Act} {w : World} (hm : P.follows .mixedOrders = true) (hC : C w.drew)
    (h : C w.drew → wpAnyK P .any ops Q k C ops.size (Array.replicate ops.size false) a w.drew) : (Code.region id ops true).wp P Q a w :=
  wp_region_any hm (wpAny_of_key _ _ _ _ (h hC))
end

end Go.Proofs.YtplkplegjoabgaaGreatDoor

/-
  The length of a proof.
-/
namespace Go.Proofs.YtplkplegjoabgaaGreatDoor
open Go.RowKit

theorem prove_le : ∀ (n : Nat) (l : List (List UInt8)) (i : Nat), l.length ≤ n → (proveS l i).length ≤ l.length
  | 0, l, i, h => by rw [proveS_one l i (by omega)]; simp
  | n + 1, l, i, h => by
    by_cases h1 : l.length ≤ 1
    · rw [proveS_one l i h1]; simp
    · have hb := splitS_bounds l.length (by omega)
      by_cases hk : i < splitS l.length
      · have := prove_le n (l.take (splitS l.length)) i (by rw [List.length_take]; omega)
        rw [proveS_left l i (by omega) hk]
        rw [List.length_take] at this
        simp
        omega
      · have := prove_le n (l.drop (splitS l.length)) (i - splitS l.length) (by rw [List.length_drop]; omega)
        rw [proveS_right l i (by omega) hk]
        rw [List.length_drop] at this
        simp
        omega

end Go.Proofs.YtplkplegjoabgaaGreatDoor

/-
  Trees of one-time keys: which heights are valid; the keys of a tree.
-/
namespace Go.Proofs.YtplkplegjoabgaaGreatDoor
open Go.RowKit

def okH (h : Int) : Prop := 0 ≤ h ∧ h ≤ 4
/-- The one-time public keys with the first n indices. -/
def leavesS (seed : List UInt8) (n : Nat) : List (List UInt8) := (List.range n).map fun (k : Nat) => publicS seed (k : Int)
theorem leavesS_length (seed : List UInt8) (n : Nat) : (leavesS seed n).length = n := by unfold leavesS; simp
theorem leavesS_step (seed : List UInt8) (n : Nat) : leavesS seed (n + 1) = leavesS seed n ++ [publicS seed (n : Int)] := by unfold leavesS; rw [List.range_succ, List.map_append]; rfl
theorem publicS_length (seed : List UInt8) (i : Int) : (publicS seed i).length = 16 := digestS_length _ _
theorem leavesS_get (seed : List UInt8) (n k : Nat) (h : k < n) : (leavesS seed n)[k]? = some (publicS seed (k : Int)) := by
  unfold leavesS
  rw [List.getElem?_map, List.getElem?_range h]
  rfl
theorem leavesS_16 (seed : List UInt8) (n : Nat) : D16 (leavesS seed n) := fun d hd => by
  unfold leavesS at hd
  obtain ⟨k, _, rfl⟩ := List.mem_map.1 hd
  exact publicS_length _ _

theorem valid_yes (h : Int) (w : World) (hh : okH h) : Calls Tryz.prog 88 #[.int .i64 h] w fun e w' => e = .returned (.bool true) ∧ w = w' := by
  obtain ⟨h1, h2⟩ := hh
  go_enter Tryz.func88, Tryz.ntmps88
  go_wp2
  go_ret
  exact ⟨rfl, rfl⟩
theorem valid_no (h : Int) (w : World) (hh : ¬ okH h) : Calls Tryz.prog 88 #[.int .i64 h] w fun e w' => e = .returned (.bool false) ∧ w = w' := by
  unfold okH at hh
  by_cases h1 : 0 ≤ h
  · have h2 : ¬ h ≤ 4 := by omega
    clear hh
    go_enter Tryz.func88, Tryz.ntmps88
    go_wp2
    go_ret
    exact ⟨rfl, rfl⟩
  · clear hh
    go_enter Tryz.func88, Tryz.ntmps88
    go_wp2
    go_ret
    exact ⟨rfl, rfl⟩
theorem pow_five {P : Nat → Prop} (h : Nat) (hh : h ≤ 4) (h0 : P 0) (h1 : P 1) (h2 : P 2) (h3 : P 3) (h4 : P 4) : P h := by
  match h, hh with
  | 0, _ => exact h0
  | 1, _ => exact h1
  | 2, _ => exact h2
  | 3, _ => exact h3
  | 4, _ => exact h4
/-- '1 << h'. -/
theorem shl_one (h : Nat) (hh : h ≤ 4) : wrap64 ((2 : Int) ^ h) = ((2 ^ h : Nat) : Int) :=
  pow_five (P := fun h => wrap64 ((2 : Int) ^ h) = ((2 ^ h : Nat) : Int)) h hh (by decide +kernel) (by decide +kernel) (by decide +kernel) (by decide +kernel) (by decide +kernel)

theorem shl_one2 (h : Nat) (hh : h ≤ 4) : IntKind.i64.wrap ((2 : Int) ^ h) = ((2 ^ h : Nat) : Int) :=
  pow_five (P := fun h => IntKind.i64.wrap ((2 : Int) ^ h) = ((2 ^ h : Nat) : Int)) h hh (by decide +kernel) (by decide +kernel) (by decide +kernel) (by decide +kernel) (by decide +kernel)
set_option maxRecDepth 100000 in
set_option maxHeartbeats 2000000 in
theorem keys_any (arr : Array Value) (h : Int) (w : World) :
    Calls Tryz.prog 121 #[.agg arr, .int .i64 h] w fun e w' => e = .returned (.func (.func 140) #[] #[.pointer (some ⟨w.heap.size + 1, 0, none⟩), .pointer (some ⟨w.heap.size, 0, none⟩)]) ∧
      (w.alloc (.cells arr 23)).alloc (.cells #[.int .i64 h] 3) = w' := by
  have hmf := mkfun
  go_enter Tryz.func121, Tryz.ntmps121
  go_wp2
  go_ret
  exact ⟨rfl, rfl⟩

theorem wpListIn_loadM {P : Program} {F : Fence} {n0 : Nat} {ops : Array Oper} {rest : List Oper} {o : Oper} {a : Act} {w : World} {Q : Exit → Act → World → Prop} (hgd : o.guard = none) {ty : TypeId} {x : Operand} (ho : o.op = .load ty x) {n : Nat} (W : Wide P ty n)
    {g off : Nat} (hx : a.eval x = .pointer (some ⟨g, off, none⟩)) {cs : List Value} (hB : w.rangeAt g off cs) (hn : cs.length = n) (h : wpListIn F n0 P ops Q rest (a.put o.dst (.agg cs.toArray)) w) : wpListIn F n0 P ops Q (o :: rest) a w :=
  wpListIn_plain hgd fun _ hK => by
    obtain ⟨d, hu, hd⟩ := W.und
    unfold Oper.wpIn
    refine ⟨by simp [Oper.about, ho], ?_⟩
    rw [Oper.semAt_plain F _ _ (by rw [ho]; intro c h; cases h)]
    unfold execOp
    have hr := run_loadVar_mid (P := P) w g off ty cs d hB hu hd (by rw [hn]; exact W.info)
    simp only [ho, hx, Instr.loadAt, Instr.sureAddr, Sem.run_bind, Sem.run_pure, Result.andThen_ok, hr]
    exact hK _ _ h
section
variable {P : Program} {F : Fence} {n0 : Nat}
theorem wpListIn_build1 {ops : Array Oper} {rest : List Oper} {o : Oper} {a : Act} {w : World} {Q : Exit → Act → World → Prop} (hgd : o.guard = none) {t e : TypeId} {size bytes : Nat} (T : SlTy P t e size bytes) (hsz : size ≤ 1000) {x : Operand} (ho : o.op = .buildSlice t 1 #[(0, x)]) {cs : Array Value} (hx : a.eval x = .agg cs) (hn : cs.size = size)
    (h : wpListIn F n0 P ops Q rest (a.put o.dst (.slice (some ⟨w.heap.size, 0, none⟩) 1 1)) (w.alloc (.cells cs e))) : wpListIn F n0 P ops Q (o :: rest) a w :=
  wpListIn_plain hgd fun _ hK => by
    obtain ⟨ht, ⟨i, z, hi, hz, hsize, _, hzs⟩, h0, _⟩ := T
    unfold Oper.wpIn
    refine ⟨by simp [Oper.about, ho], ?_⟩
    rw [Oper.semAt_plain F _ _ (by rw [ho]; intro c h; cases h)]
    unfold execOp
    have hfl : Instr.fill (fun i' => some (i' * i.size, i.size)) ((Array.range (1 * i.size)).map (z.cells[· % z.cells.size]!)) ((#[(0, x)] : Array (Nat × Operand)).map fun (i, x) => (i, a.eval x)).toList = some cs := by
      rw [hsize]
      have := fill_one ((Array.range (1 * size)).map (z.cells[· % z.cells.size]!)) cs size (by simp) hn
      simpa [hx] using this
    simp only [ho, Sem.run_bind, run_buildSlice w t e 1 _ cs i z ht hi hz (by rw [hsize]; omega) (by rw [hsize]; omega) hfl, Result.andThen_ok]
    exact hK _ _ h
theorem wpListIn_app {ops : Array Oper} {rest : List Oper} {o : Oper} {a : Act} {w : World} {Q : Exit → Act → World → Prop} (hgd : o.guard = none) {s x : Operand} {t : TypeId}
    (ho : o.op = .call { callee := .builtin .append, args := #[s, x], argTypes := #[t, t] })
    {B : Nat} {e : TypeId} {size bytes : Nat} (T : SlTy P t e size bytes) {v : Value} (hs : a.eval s = v) {n : Nat} {xs : List Value} (hown : w.ownsRow B e size v n xs)
    {u : Value} (hx : a.eval x = u) {m : Nat} {news : List Value} (hr : Reads w size u m news) (h1 : AllOne news) (hbytes : (n + m) * bytes ≤ 140737488355328) (hbase : B ≤ w.heap.size)
    (h : ∀ (A' : Option Addr) (c' : Nat) w', w'.ownsRow B e size (.slice A' (n + m) c') (n + m) (xs ++ news) → Chg (fun k => v.ownBlock = some k) w w' → wpListIn F n0 P ops Q rest (a.put o.dst (.slice A' (n + m) c')) w') : wpListIn F n0 P ops Q (o :: rest) a w :=
  wpListIn_plain hgd fun _ hK => by
    obtain ⟨v', w', hrun, h2, h3, _⟩ := run_app (P := P) (ty := o.type) T hown hr h1 hbytes hbase
    obtain ⟨A', c', rfl⟩ := own_slice h2
    unfold Oper.wpIn
    refine ⟨by simp [Oper.about, ho, resolve, Target.leads, Sem.run_pure], ?_⟩
    rw [Oper.semAt_plain F _ _ (by rw [ho]; intro c h; cases h)]
    simp [execOp, ho, resolve, invoke, builtin, hs, hx, hrun, Result.andThen]
    exact hK _ _ (h A' c' w' h2 h3)
end
attribute [local go_sem] Oper.semAt_some
set_option maxRecDepth 100000 in
set_option maxHeartbeats 4000000 in
theorem keys_stops (seed : List UInt8) (h n : Nat) (hn : n = 2 ^ h) (hh : h ≤ 4) (Bh Bs : Nat) (S : Nat → Prop) (w : World) (hv : seed.length = 16) (hM : ShaMem w) (hs1 : ¬ S 1) (hs2 : ¬ S 0) (_ : ¬ S Bh) (hs4 : ¬ S Bs)
    (h1 : w.cell? ⟨Bh, 0, none⟩ = some (.int .i64 (h : Int))) (h2 : Blk w Bs 23 (seed.map u8v).toArray) :
    SeqStopsK Fence.wide 2 Tryz.prog 140 #[.pointer (some ⟨Bh, 0, none⟩), .pointer (some ⟨Bs, 0, none⟩)] (fun x : Fin n => #[.agg ((publicS seed ((x.val : Nat) : Int)).map u8v).toArray]) (KeepC S) (fun ys => ys = List.finRange n) (fun _ => True) n w := by
  intro l J Jx W hW hJ hJx hY h0
  have hE := Ext.of_below hW
  have k1 := Ext.cellv hE h1
  have hn16 : n ≤ 16 := by subst hn; exact Nat.le_trans (Nat.pow_le_pow_right (by omega) hh) (by omega)
  have HI0 := hide (show ShaMem W ∧ W.rangeAt Bs 0 (seed.map u8v) from ⟨hM.ext hE, fun j v hj => Ext.cellv hE (by rw [Nat.zero_add, h2.cell]; simpa using hj)⟩)
  have HPb := hide (fun k (hk : k < n) W (hM : ShaMem W) => public_any seed ((k : Nat) : Int) W hM hv (by omega) (by omega))
  have HSL := hide (show (seed.map u8v).length = 16 from by simpa using hv)
  clear h1 h2 hM hE hW
  refine callsIn_wide.2 ?_
  have hsh : wrap64 ((2 : Int) ^ h) = (n : Int) := by rw [shl_one h hh, hn]
  clear hn hv
  go_enter Tryz.func140, Tryz.ntmps140
  go_wp2
  clear hsh
  go_loopw [7] (fun i wr => ∃ k : Nat, k ≤ n ∧ i = .int .i64 k ∧ Hid (J ((List.finRange n).take k) wr ∧ ShaMem wr ∧ wr.rangeAt Bs 0 (seed.map u8v))) (fun i _ => n - (intOf i).toNat)
  case atStart => exact ⟨0, Nat.zero_le _, rfl, hide ⟨h0, (unhide HI0).1, (unhide HI0).2⟩⟩
  case round =>
    obtain ⟨k, hk, rfl, HJ⟩ := hrel
    by_cases hlt : k < n
    · have HP := hide (unhide HPb k hlt wr (unhide HJ).2.1)
      have hltI : (k : Int) < (n : Int) := by omega
      have HY := hide (fun W (hE : Ext wr W) => hY ((List.finRange n).take k) ⟨k, hlt⟩ W (hJ _ _ W none (unhide HJ).1 (grown_of_ext hE) (fun r e => by cases e)) (by simp; omega))
      obtain ⟨arr, harr⟩ : ∃ x, (seed.map u8v).toArray = x := ⟨_, rfl⟩
      obtain ⟨pb, hpb⟩ : ∃ x, ((publicS seed ((k : Nat) : Int)).map u8v).toArray = x := ⟨_, rfl⟩
      rw [harr] at HP
      rw [hpb] at HP HY
      go_upto_region 3 with fail
      refine (wpIn_wide (n := 2)).1 ?_
      gi_wp2_with ((refine wpListIn_loadM (ty := 23) (x := .tmp 2) rfl rfl digest_wide rfl (unhide HJ).2.2 (unhide HSL) ?_; rw [harr]))
      refine ⟨trivial, ?_⟩
      refine (callsIn_wide.2 (unhide HP)).mono ?_
      rintro e w1 ⟨rfl, hE1⟩
      have H1 := hide hE1
      obtain ⟨fn, tmps, assign, body, hy, hR⟩ := unhide HY w1 hE1
      clear hE1
      try dsimp only at hy
      gi_wp2
      clear hy
      refine hR.mono ?_
      rintro e W3 (⟨rfl, hJ3, hk3⟩ | ⟨rfl, hJx3⟩)
      · have HJ4 := hide (show J ((List.finRange n).take (k + 1)) W3 ∧ ShaMem W3 ∧ W3.rangeAt Bs 0 (seed.map u8v) from
          ⟨by rw [fin_step n k hlt]; exact hJ3, ⟨fun j v hj => hk3 _ _ hs1 (((unhide HJ).2.1.ext (unhide H1)).k j v hj), fun j v hj => hk3 _ _ hs2 (((unhide HJ).2.1.ext (unhide H1)).h j v hj)⟩, fun j v hj => hk3 _ _ hs4 (Ext.cellv (unhide H1) ((unhide HJ).2.2 j v hj))⟩)
        clear hJ3 hk3
        gi_wp2
        go_wp2
        go_roundw
        case rel => exact ⟨k + 1, by omega, by go_num, HJ4⟩
        case measure => simp [intOf]; omega
      · gi_wp2
        go_wp2
        refine bodyPost_ret (results_none rfl _ _ _) rfl ?_
        exact ⟨⟨_, rfl⟩, .inr ⟨_, trivial, hJx3⟩⟩
    · obtain rfl : k = n := by omega
      go_wp2
      go_end0
      exact ⟨⟨_, rfl⟩, .inl ⟨_, rfl, by have := (unhide HJ).1; rwa [List.take_of_length_le (by simp)] at this⟩⟩

/-- Between two rounds: what is collected. -/
def LJ (seed : List UInt8) (B bo : Nat) {n : Nat} (pre : List (Fin n)) (W : World) : Prop := ∃ A c, Blk W bo 30 #[.slice A pre.length c] ∧ W.ownsRow B 23 16 (.slice A pre.length c) pre.length (dcells (pre.map fun x => publicS seed ((x.val : Nat) : Int)))
theorem LJ.keep {seed : List UInt8} {B bo n : Nat} {pre : List (Fin n)} {W W' : World} (h : LJ seed B bo pre W) (hk : KeepB W W') : LJ seed B bo pre W' := by
  obtain ⟨A, c, h1, h2⟩ := h
  exact ⟨A, c, hk.blk h1, hk.own' h2⟩
theorem fin_leaves (seed : List UInt8) (n : Nat) : (List.finRange n).map (fun x => publicS seed ((x.val : Nat) : Int)) = leavesS seed n := by
  unfold leavesS
  rw [← fin_map, List.map_map]
  rfl
set_option maxRecDepth 100000 in
set_option maxHeartbeats 8000000 in
theorem leaves_any (seed : List UInt8) (h n : Nat) (hn : n = 2 ^ h) (hh : h ≤ 4) (w : World) (hv : seed.length = 16) (hM : ShaMem w) :
    Calls Tryz.prog 90 #[.agg (seed.map u8v).toArray, .int .i64 (h : Int)] w fun e w' => ∃ A c, e = .returned (.slice A n c) ∧ GD w w.heap.size (.slice A n c) n (leavesS seed n) w' := by
  have hsl := hM.lt
  have hn16 : n ≤ 16 := by subst hn; exact Nat.le_trans (Nat.pow_le_pow_right (by omega) hh) (by omega)
  have HST := hide (fun W (hE : Ext w W) (h1 : W.cell? ⟨w.heap.size + 3, 0, none⟩ = some (.int .i64 (h : Int))) (h2 : Blk W (w.heap.size + 2) 23 (seed.map u8v).toArray) =>
    keys_stops seed h n hn hh (w.heap.size + 3) (w.heap.size + 2) (fun k => k = w.heap.size + 1 ∨ w.heap.size + 4 ≤ k) W hv (hM.ext hE) (by omega) (by omega) (by omega) (by omega) h1 h2)
  have HF := hide (fin_leaves seed n)
  have H16 := hide (leavesS_16 seed n)
  have HPL := hide (publicS_length seed)
  obtain ⟨arr, harr⟩ : ∃ x, (seed.map u8v).toArray = x := ⟨_, rfl⟩
  have HSZ := hide (show arr.size = 16 from by rw [← harr]; simpa using hv)
  rw [harr] at HST ⊢
  have HKy := hide (fun W => keys_any arr (h : Int) W)
  clear hM hsl hn hh harr hv
  refine (callsIn_wide (n := 3)).1 (callsIn_of_wp_marks Tryz.func90 rfl trivial ((wpIn_wide (n := 3)).2 ?_))
  simp only [Tryz.ntmps90, List.size_toArray, List.length_cons, List.length_nil, Nat.reduceAdd, Nat.reduceSub, Array.replicate_succ, Array.replicate_zero, List.push_toArray, List.append_toArray, List.nil_append, List.cons_append]
  go_wp2_with (first
    | (refine wpList_loadB (ty := 23) (t := 23) (x := .tmp 2) rfl rfl digest_wide rfl (cs := arr) ((Blk.new w _ _).alloc _) (unhide HSZ) ?_)
    | (go_at_call 121; refine (unhide HKy _).mono ?_; rintro e w1 ⟨rfl, rfl⟩))
  have HW := hide (show Ext w ((((w.alloc (.cells arr 23)).alloc (.cells #[.slice none 0 0] 30)).alloc (.cells arr 23)).alloc (.cells #[.int .i64 (h : Int)] 3)) ∧
      Blk ((((w.alloc (.cells arr 23)).alloc (.cells #[.slice none 0 0] 30)).alloc (.cells arr 23)).alloc (.cells #[.int .i64 (h : Int)] 3)) (w.heap.size + 1) 30 #[.slice none 0 0] ∧
      Blk ((((w.alloc (.cells arr 23)).alloc (.cells #[.slice none 0 0] 30)).alloc (.cells arr 23)).alloc (.cells #[.int .i64 (h : Int)] 3)) (w.heap.size + 2) 23 arr ∧
      ((((w.alloc (.cells arr 23)).alloc (.cells #[.slice none 0 0] 30)).alloc (.cells arr 23)).alloc (.cells #[.int .i64 (h : Int)] 3)).cell? ⟨w.heap.size + 3, 0, none⟩ = some (.int .i64 (h : Int)) ∧
      ((((w.alloc (.cells arr 23)).alloc (.cells #[.slice none 0 0] 30)).alloc (.cells arr 23)).alloc (.cells #[.int .i64 (h : Int)] 3)).heap.size = w.heap.size + 4 from
    ⟨((((Ext.refl w).alloc _).alloc _).alloc _).alloc _, ((Blk.new' _ _ _ (by simp)).alloc _).alloc _, (Blk.new' _ _ _ (by simp)).alloc _, new_cell _ _ _ (by simp) rfl, by simp⟩)
  generalize hW0 : ((((w.alloc (.cells arr 23)).alloc (.cells #[.slice none 0 0] 30)).alloc (.cells arr 23)).alloc (.cells #[.int .i64 (h : Int)] 3)) = W0 at *
  clear hW0
  refine wp_rangeH (gf := 140) (S := fun k => k = w.heap.size + 1 ∨ w.heap.size + 4 ≤ k) (all := List.finRange n) (N := n) (encs := fun x : Fin n => #[.agg ((publicS seed ((x.val : Nat) : Int)).map u8v).toArray]) rfl (call_enters Tryz.func140 (by kernel_rfl) rfl)
    (unhide HST W0 (unhide HW).1 (unhide HW).2.2.2.1 (unhide HW).2.2.1) (fun _ => rfl)
    (LJ seed (w.heap.size + 4) (w.heap.size + 1)) (fun _ _ _ h k => h.keep k) ⟨none, 0, (unhide HW).2.1, World.ownsRow_nil _ _ _ _⟩
    (fun x a' W => ∃ Bx, Blk W Bx 23 ((publicS seed ((x.val : Nat) : Int)).map u8v).toArray ∧ a' = { tmps := #[.agg arr, .int .i64 (h : Int), .pointer (some ⟨w.heap.size, 0, none⟩), undef, .slice none 0 0, .pointer (some ⟨w.heap.size + 1, 0, none⟩), .pointer (some ⟨Bx, 0, none⟩), .agg arr, .int .i64 (h : Int), .func (.func 140) #[] #[.pointer (some ⟨w.heap.size + 1 + 1 + 1, 0, none⟩), .pointer (some ⟨w.heap.size + 1 + 1, 0, none⟩)], .agg ((publicS seed ((x.val : Nat) : Int)).map u8v).toArray, undef, undef, undef, undef, undef], defers := [] })
    (fun x a' W W' h k => by obtain ⟨Bx, h1, h2⟩ := h; exact ⟨Bx, k.blk h1, h2⟩) ?assign ?body ?done
  case assign =>
    intro l pre x W K hc hj hK
    have HPx := hide (show ((publicS seed ((x.val : Nat) : Int)).map u8v).toArray.size = 16 from by simpa using unhide HPL _)
    obtain ⟨pb, hpb⟩ : ∃ y, ((publicS seed ((x.val : Nat) : Int)).map u8v).toArray = y := ⟨_, rfl⟩
    have HPb := hide (show pb.all (·.oneCell') = true from by rw [← hpb]; exact bytes_one _)
    rw [hpb] at hK HPx ⊢
    clear hpb
    gi_wp2_with (refine wpListIn_storeB (ty := 23) (t := 23) (x := .tmp 6) (y := .tmp 10) rfl rfl digest_wide rfl rfl (Blk.new W _ _) rfl (unhide HPx) (unhide HPb) ?_; intro w10 hb10 hc10 hz10; have H10 := hide (And.intro hb10 (made_ext1 hc10)); clear hb10 hc10 hz10)
    exact hK _ _ (unhide H10).2 ⟨_, (unhide H10).1, rfl⟩
  case body =>
    rintro l pre x a' W hc ⟨A, c, hb, ho⟩ ⟨Bx, hx, rfl⟩ hlen
    have HPx := hide (unhide HPL ((x.val : Nat) : Int))
    have HQ := hide (show dcells ((pre ++ [x]).map fun x => publicS seed ((x.val : Nat) : Int)) = dcells (pre.map fun x => publicS seed ((x.val : Nat) : Int)) ++ (publicS seed ((x.val : Nat) : Int)).map u8v from by rw [List.map_append, dcells_append]; congr 1; exact dcells_one _)
    generalize publicS seed ((x.val : Nat) : Int) = p at *
    have HB := hide (And.intro hb (And.intro ho (And.intro hx (And.intro hc (show w.heap.size + 4 ≤ W.heap.size from by have := hc.size; have := (unhide HW).2.2.2.2; omega)))))
    have cb : W.cell? ⟨w.heap.size + 1, 0, none⟩ = some (.slice A pre.length c) := by rw [hb.cell]; rfl
    have fb := hb.frozen 0
    have lb := hb.lt
    clear hb ho hx hc
    gi_wp2_with (first
      | (refine wpListIn_loadB (ty := 23) (t := 23) (x := .tmp 6) rfl rfl digest_wide rfl (unhide HB).2.2.1 (by simpa using unhide HPx) ?_)
      | (refine wpListIn_build1 (t := 30) (x := .tmp 12) rfl digs_row (by omega) rfl rfl (by simpa using unhide HPx) ?_)
      | (gi_at_builtin; refine wpListIn_app rfl rfl digs_row rfl (ownsRow_ext (unhide HB).2.1 ((Ext.refl W).alloc _)) rfl (Reads.newD _ _ _ (unhide HPx) rfl) (AllOne.u8 p) (by omega) (by have := (unhide HB).2.2.2.2; simp; omega) ?_; intro A' c' w4 ho hc4; have H4 := hide (And.intro ho hc4); have cb4 := Chg.cellv hc4 (old_cell W (.cells (p.map u8v).toArray 23) cb) (fun e => by have := ((unhide HB).2.1.lt _ e).1; simp at this); have fb4 := (((unhide HB).1.alloc (.cells (p.map u8v).toArray 23)).chg hc4 (fun e => by have := ((unhide HB).2.1.lt _ e).1; omega)).frozen 0; clear ho hc4))
    refine ⟨?_, ?_, A', c', ?_, ?_⟩
    · exact ((((Ext.refl W).alloc _).chg (S := fun k => k = w.heap.size + 1 ∨ w.heap.size + 4 ≤ k)).trans ((unhide H4).2.mono (fun k _ hk => .inr ((unhide HB).2.1.lt k hk).1))).setCell (p := ⟨w.heap.size + 1, 0, none⟩) (.inl (.inl rfl)) _
    · exact (((KeepsOthers.alloc W _).from _).trans (keeps_own (ownsRow_ext (unhide HB).2.1 ((Ext.refl W).alloc _)) (unhide H4).2)).trans ((KeepsOthers.setCell _ _ _).from _)
    · have := (((unhide HB).1.alloc (.cells (p.map u8v).toArray 23)).chg (unhide H4).2 (fun e => by have := ((unhide HB).2.1.lt _ e).1; omega)).set_ 0 (.slice A' (pre.length + 1) c')
      rw [List.length_append]
      exact this
    · rw [unhide HQ, List.length_append]
      refine ownsRow_chg (unhide H4).1 (Chg.setCell (Chg.refl (fun k => k = w.heap.size + 1) w4) (p := ⟨w.heap.size + 1, 0, none⟩) (.inl rfl) _) (fun k hk => ?_)
      have := ((unhide H4).1.lt k hk).1
      omega
  case done =>
    rintro D W hD hc ⟨A, c, hb, ho⟩ hK
    rw [unhide HF] at ho
    rw [List.length_finRange] at hb ho
    have cb : W.cell? ⟨w.heap.size + 1, 0, none⟩ = some (.slice A n c) := by rw [hb.cell]; rfl
    have HB := hide (And.intro ho (And.intro hc hK))
    have hDw : w.heap.size + 4 ≤ D := by have := (unhide HW).2.2.2.2; omega
    clear hb ho hc hK
    go_wp2
    refine leave_mark rfl (unhide HB).2.2 (results_tmp rfl _ _ _) ?_
    have hE : Ext w W := (unhide HW).1.trans' (unhide HB).2.1 (fun _ _ h => h) (fun i hi e => by omega)
    exact ⟨A, c, rfl, ownsRow_base (ownsRow_putObj (unhide HB).1 _ (unhide HB).2.2 rfl) (by omega), unhide H16, putObj_ext _ hE (by omega), Nat.le_refl _, by have := (putObj_ext (D := D) (.deferred none) hE (by omega)).size'; exact this⟩

end Go.Proofs.YtplkplegjoabgaaGreatDoor

/-
  The reference of one-time signatures: digit, Digits, raw.
-/
namespace Go.Proofs.YtplkplegjoabgaaGreatDoor
open Go.RowKit

set_option maxRecDepth 100000 in
set_option maxHeartbeats 2000000 in
theorem rdigit_any (m : List UInt8) (k : Nat) (w : World) (hm : m.length = 16) (hk : k < 64) :
    Calls Tryz.prog 114 #[.agg (m.map u8v).toArray, .int .i64 (k : Int)] w fun e w' => e = .returned (.int .i64 ((dig m k : Nat) : Int)) ∧ Ext w w' := by
  obtain ⟨arr, harr⟩ : ∃ r, (m.map u8v).toArray = r := ⟨_, rfl⟩
  have cm : ∀ t, (w.alloc (.cells arr t)).cell? ⟨w.heap.size, k / 4, none⟩ = some (.int .u8 ((m.getD (k / 4) 0).toNat : Int)) := fun t => by
    rw [(Blk.new w _ _).cell, ← harr, List.getElem?_toArray, List.getElem?_map, List.getD_eq_getElem?_getD, List.getElem?_eq_getElem (by omega)]
    rfl
  have HD : Hid (dig m k = (m.getD (k / 4) 0).toNat / 4 ^ (3 - k % 4) % 4) := hide rfl
  rw [harr]
  generalize m.getD (k / 4) 0 = x at *
  have hx := x.toNat_lt
  clear harr hm
  go_enter Tryz.func114, Tryz.ntmps114
  have cm1 := cm 23
  clear cm
  go_wp2_with fail
  go_loop [5, 6] (fun n i => ∃ j : Nat, k % 4 ≤ j ∧ j ≤ 3 ∧ i = .int .i64 j ∧ n = .int .i64 ((x.toNat / 4 ^ (j - k % 4) : Nat) : Int)) (fun _ i => 3 - (intOf i).toNat)
  case atStart => exact ⟨k % 4, Nat.le_refl _, by omega, int_eq (by omega), int_eq (by simp)⟩
  case round =>
    clear cm1
    obtain ⟨j, hj1, hj, rfl, rfl⟩ := hrel
    by_cases hlt : j < 3
    · have HS := hide (show x.toNat / 4 ^ (j + 1 - k % 4) = x.toNat / 4 ^ (j - k % 4) / 4 from by rw [show j + 1 - k % 4 = (j - k % 4) + 1 from by omega, Nat.pow_succ, Nat.div_div_eq_div_mul])
      have hy : x.toNat / 4 ^ (j - k % 4) ≤ x.toNat := Nat.div_le_self _ _
      generalize x.toNat / 4 ^ (j - k % 4) = y at *
      go_wp2
      go_round
      case rel => exact ⟨j + 1, by omega, by omega, by go_num, int_eq (by rw [unhide HS]; first | omega | (unfold wrap64; omega))⟩
      case measure => simp [intOf]; omega
    · obtain rfl : j = 3 := by omega
      generalize x.toNat / 4 ^ (3 - k % 4) = y at *
      go_wp2
      go_ret
      exact ⟨ret_int (by rw [unhide HD]; simp), (Ext.refl w).alloc _⟩

theorem icells_four (m : List UInt8) : icells (digC m) 68 = icells (dig m) 64 ++ [.int .i64 ((chk m : Int) / 64), .int .i64 ((chk m : Int) / 16 % 4), .int .i64 ((chk m : Int) / 4 % 4), .int .i64 ((chk m : Int) % 4)] := by
  have h := chk_le m
  have e64 : icells (digC m) 64 = icells (dig m) 64 := icells_congr fun j hj => by unfold digC; rw [if_pos hj]
  have e4 : digC m 64 = chk m / 64 % 4 := rfl
  have e5 : digC m 65 = chk m / 16 % 4 := rfl
  have e6 : digC m 66 = chk m / 4 % 4 := rfl
  have e7 : digC m 67 = chk m / 1 % 4 := rfl
  rw [icells_step, icells_step, icells_step, icells_step, e64, e4, e5, e6, e7]
  simp only [List.append_assoc, List.cons_append, List.nil_append]
  congr 2
  · congr 1; omega
  · simp

/-- A slice of numbers of the call's own, that grows. -/
structure GI (w0 : World) (B : Nat) (v : Value) (n : Nat) (l : List Value) (wr : World) : Prop where
  own : wr.ownsRow B 3 1 v n l
  ext : Ext w0 wr
  base : w0.heap.size ≤ B
  room : B ≤ wr.heap.size
theorem GI.nil {w0 wr : World} {B : Nat} (hE : Ext w0 wr) (hB : w0.heap.size ≤ B) (hR : B ≤ wr.heap.size) : GI w0 B (.slice none 0 0) 0 [] wr := ⟨World.ownsRow_nil _ _ _ _, hE, hB, hR⟩
theorem GI.to {w0 wr w1 : World} {B n : Nat} {v : Value} {l : List Value} (h : GI w0 B v n l wr) (hE : Ext wr w1) : GI w0 B v n l w1 := ⟨ownsRow_ext h.own hE, h.ext.trans hE, h.base, Nat.le_trans h.room hE.size'⟩
theorem GI.step {w0 wr w1 w2 : World} {B n n' : Nat} {v v' : Value} {l l' : List Value} (h : GI w0 B v n l wr) (hE : Ext wr w1) (hc : Chg (fun k => v.ownBlock = some k) w1 w2) (ho : w2.ownsRow B 3 1 v' n' l') : GI w0 B v' n' l' w2 :=
  ⟨ho, (h.ext.trans hE).trans' hc (fun _ _ h => h) (fun i hi e => by have := (h.own.lt i e).1; have := h.base; omega), h.base, Nat.le_trans h.room (Nat.le_trans hE.size' hc.size)⟩
theorem GI.blk {w0 wr w1 w2 : World} {B n : Nat} {v : Value} {l : List Value} (h : GI w0 B v n l wr) (hE : Ext wr w1) (hc : Chg (fun k => v.ownBlock = some k) w1 w2) {g : Nat} {t : TypeId} {cs : Array Value} (hb : Blk wr g t cs) (hg : g < B) : Blk w2 g t cs :=
  (hb.ext hE).chg hc (fun e => by have := (h.own.lt g e).1; omega)
theorem GI.reads {w0 wr : World} {B n : Nat} {v : Value} {l : List Value} (h : GI w0 B v n l wr) : Reads wr 1 v n l := Reads.of_own h.own
theorem int_row : SlTy Tryz.prog 148 3 1 8 := SlTy.mk' (z := .int .i64 0) (by kernel_rfl) (by kernel_rfl) rfl (by omega) (by omega)

set_option maxRecDepth 100000 in
set_option maxHeartbeats 4000000 in
theorem rdigits_any (m : List UInt8) (w : World) (hm : m.length = 16) :
    Calls Tryz.prog 81 #[.agg (m.map u8v).toArray] w fun e w' => ∃ A c, e = .returned (.slice A 68 c) ∧ Reads w' 1 (.slice A 68 c) 68 (icells (digC m) 68) ∧ Ext w w' := by
  have HD := hide (fun k (hk : k < 64) (W : World) => rdigit_any m k W hm hk)
  have H4 := hide (icells_four m)
  have hch := chk_le m
  have HL := hide (fun k => sumTo_le m k)
  have HC := hide (show sumTo m 64 = chk m from rfl)
  obtain ⟨arr, harr⟩ : ∃ r, (m.map u8v).toArray = r := ⟨_, rfl⟩
  rw [harr] at HD ⊢
  have hasz : arr.size = 16 := by rw [← harr]; simpa using hm
  clear harr hm
  go_enter Tryz.func81, Tryz.ntmps81
  go_wp2_with fail
  go_loopw [3, 4, 5] (fun b s i wr => ∃ (k : Nat) (A : Option Addr) (c : Nat), k ≤ 64 ∧ i = .int .i64 k ∧ s = .int .i64 ((sumTo m k : Nat) : Int) ∧ b = .slice A k c ∧ Hid (GI w (w.heap.size + 1) (.slice A k c) k (icells (dig m) k) wr ∧ Blk wr w.heap.size 23 arr)) (fun _ _ i _ => 64 - (intOf i).toNat)
  case atStart => exact ⟨0, none, 0, by omega, rfl, rfl, rfl, hide ⟨GI.nil ((Ext.refl w).alloc _) (by omega) (by simp), Blk.new w _ _⟩⟩
  case round =>
    obtain ⟨k, A, c, hk, rfl, rfl, rfl, HI⟩ := hrel
    by_cases hlt : k < 64
    · have HDk := hide (unhide HD k hlt)
      have HS := hide (icells_step (dig m) k)
      have HT := hide (show sumTo m (k + 1) = sumTo m k + (3 - dig m k) from rfl)
      have hd := dig_le m k
      have hs := unhide HL k
      generalize dig m k = d at *
      generalize sumTo m k = s at *
      have hkI : (k : Int) < 64 := by omega
      go_wp2_with (first
        | (refine wpList_loadB (ty := 23) (t := 23) (x := .tmp 1) rfl rfl digest_wide rfl (unhide HI).2 hasz ?_)
        | (go_at_call 114; refine (unhide HDk _).mono ?_; rintro e w2 ⟨rfl, hE2⟩; have H2 := hide hE2; clear hE2)
        | (at_builtin; refine wpList_app rfl rfl int_row rfl ((unhide HI).1.to ((unhide H2).alloc _)).own rfl (Reads.new1 _ _ _) (AllOne.one rfl) (by omega) ((unhide HI).1.to ((unhide H2).alloc _)).room ?_; intro A' c' w3 ho hc hv; have H3 := hide (And.intro ((unhide HI).1.step ((unhide H2).alloc _) hc (l' := icells (dig m) k ++ [.int .i64 (d : Int)]) ho) ((unhide HI).1.blk ((unhide H2).alloc _) hc (unhide HI).2 (by omega))); clear ho hc hv)
        | (refine wpList_loadB (ty := 23) (t := 23) (x := .tmp 1) rfl rfl digest_wide rfl (unhide H3).2 hasz ?_))
      go_roundw
      case rel => exact ⟨k + 1, A', c', by omega, by go_num, int_eq (by rw [unhide HT]; omega), rfl, hide ⟨by rw [unhide HS]; exact (unhide H3).1.to (unhide H2), (unhide H3).2.ext (unhide H2)⟩⟩
      case measure => simp [intOf]; omega
    · obtain rfl : k = 64 := by omega
      rw [unhide HC]
      generalize chk m = ch at *
      go_wp2_with (at_builtin; refine wpList_app rfl rfl int_row rfl ((unhide HI).1.to ((Ext.refl wr).alloc _)).own rfl (Reads.of_blk (Blk.new _ _ #[.int .i64 ((ch : Int) / 64), .int .i64 ((ch : Int) / 16 % 4), .int .i64 ((ch : Int) / 4 % 4), .int .i64 ((ch : Int) % 4)]) (i := 0) (n := 4) (c := 4) (by simp) (by omega) (by unfold maxLen; omega)) ?_ (by omega) ((unhide HI).1.to ((Ext.refl wr).alloc _)).room ?_; (focus (intro u hu; simp at hu; rcases hu with rfl | rfl | rfl | rfl <;> rfl)); intro A' c' w3 ho hc hv; have H3 := hide ((unhide HI).1.step ((Ext.refl wr).alloc _) hc (l' := icells (digC m) 68) (by rw [unhide H4]; exact ho)); clear ho hc hv)
      go_ret
      exact ⟨A', c', rfl, (unhide H3).reads, (unhide H3).ext⟩

set_option maxRecDepth 100000 in
set_option maxHeartbeats 2000000 in
theorem rraw_any (d : List UInt8) (w : World) (hd : d.length = 16) :
    Calls Tryz.prog 82 #[.agg (d.map u8v).toArray] w fun e w' => ∃ A c, e = .returned (.slice A d.length c) ∧ Reads w' 1 (.slice A d.length c) d.length (d.map u8v) ∧ Ext w w' := by
  obtain ⟨arr, harr⟩ : ∃ r, (d.map u8v).toArray = r := ⟨_, rfl⟩
  have HA := hide harr
  rw [harr]
  rw [hd]
  clear harr
  go_enter Tryz.func82, Tryz.ntmps82
  go_wp2_with fail
  go_loopw [3, 4] (fun b i wr => ∃ (k : Nat) (A : Option Addr) (c : Nat), k ≤ 16 ∧ i = .int .i64 k ∧ b = .slice A k c ∧ Hid (GB w (w.heap.size + 1) (.slice A k c) k (d.take k) wr ∧ Blk wr w.heap.size 23 arr)) (fun _ i _ => 16 - (intOf i).toNat)
  case atStart => exact ⟨0, none, 0, by omega, rfl, rfl, hide ⟨GB.nil ((Ext.refl w).alloc _) (by omega) (by simp), Blk.new w _ _⟩⟩
  case round =>
    obtain ⟨k, A, c, hk, rfl, rfl, HI⟩ := hrel
    by_cases hlt : k < 16
    · have hc : wr.cell? ⟨w.heap.size, k, none⟩ = some (u8v (d[k]'(by omega))) := by
        rw [(unhide HI).2.cell, ← unhide HA, List.getElem?_toArray, List.getElem?_map, List.getElem?_eq_getElem (by omega)]
        rfl
      have HS := hide (take_step d k (by omega))
      generalize d[k]'(by omega) = x at *
      unfold u8v at hc
      have hkI : (k : Int) < 16 := by omega
      go_wp2_with (at_builtin; refine wpList_app rfl rfl u8_row rfl ((unhide HI).1.to ((Ext.refl wr).alloc _)).own rfl (Reads.new1 _ _ _) (AllOne.one rfl) (by omega) ((unhide HI).1.to ((Ext.refl wr).alloc _)).room ?_; intro A' c' w3 ho hc3 hv; have H3 := hide (And.intro ho hc3); clear ho hc3 hv)
      go_roundw
      case rel => exact ⟨k + 1, A', c', by omega, by go_num, rfl, hide ⟨(unhide HI).1.step ((Ext.refl wr).alloc _) (unhide H3).2 (by rw [unhide HS, List.map_append]; exact (unhide H3).1), (unhide HI).1.blk ((Ext.refl wr).alloc _) (unhide H3).2 (unhide HI).2 (by omega)⟩⟩
      case measure => simp [intOf]; omega
    · obtain rfl : k = 16 := by omega
      have hX := (unhide HI).1.reads
      rw [List.take_of_length_le (by omega)] at hX
      have HX := hide hX
      clear hX
      go_wp2
      go_ret
      exact ⟨A, c, rfl, unhide HX, (unhide HI).1.ext⟩

end Go.Proofs.YtplkplegjoabgaaGreatDoor
