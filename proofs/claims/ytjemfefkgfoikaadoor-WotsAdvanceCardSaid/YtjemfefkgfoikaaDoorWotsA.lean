/-
  wots.advance, wots.start, the law's step.
-/
import Derived.Test.YtjemfefkgfoikaaDoorWotsG
import Derived.Test.YtjemfefkgfoikaaDoorDigs
import Derived.Deep.RegionLaw
import Derived.Deep.Cut
namespace Go.Proofs.YtjemfefkgfoikaaDoor
open Go.RowKit

theorem Parts.two {w : World} {pv a b : Value} {la lb : List UInt8} (h : Reads w 1 pv 2 [a, b]) (ha : Reads w 1 a la.length (la.map u8v)) (hb : Reads w 1 b lb.length (lb.map u8v)) : Parts w pv [la, lb] :=
  ⟨[a, b], rfl, h, fun i p hp => by
    match i, hp with
    | 0, hp => cases hp; exact ⟨_, rfl, ha⟩
    | 1, hp => cases hp; exact ⟨_, rfl, hb⟩
    | i + 2, hp => simp at hp⟩
theorem Parts.one {w : World} {pv a : Value} {la : List UInt8} (h : Reads w 1 pv 1 [a]) (ha : Reads w 1 a la.length (la.map u8v)) : Parts w pv [la] :=
  ⟨[a], rfl, h, fun i p hp => by
    match i, hp with
    | 0, hp => cases hp; exact ⟨_, rfl, ha⟩
    | i + 1, hp => simp at hp⟩
/-- The slice of a whole digest's block. -/
theorem Blk.digR {w : World} {g : Nat} {t : TypeId} {d : List UInt8} (h : Blk w g t (d.map u8v).toArray) (hd : d.length = 16) : Reads w 1 (.slice (some ⟨g, 0, none⟩) 16 16) d.length (d.map u8v) := by
  have := Reads.of_blk h (i := 0) (n := 16) (c := 16) (by simp; omega) (by omega) (by unfold maxLen; omega)
  simp only [List.drop_zero] at this
  rw [List.take_of_length_le (by simp; omega)] at this
  rw [hd]
  exact this
theorem Reads.new2 (w : World) (a b : Value) (e : TypeId) {g : Nat} (hg : g = w.heap.size) : Reads (w.alloc (.cells #[a, b] e)) 1 (.slice (some ⟨g, 0, none⟩) 2 2) 2 [a, b] := by
  subst hg
  exact Reads.of_blk (Blk.new w e #[a, b]) (i := 0) (n := 2) (c := 2) (by simp) (by omega) (by unfold maxLen; omega)

set_option maxRecDepth 100000 in
set_option maxHeartbeats 2000000 in
theorem lstep_any (k : Nat) (v : List UInt8) (w : World) (hM : ShaMem w) (hv : v.length = 16) (hk : k < 1000) :
    Calls Tryd.prog 25 #[.int .i64 (k : Int), .agg (v.map u8v).toArray] w fun e w' => e = .returned (.agg ((stepS k v).map u8v).toArray) ∧ Ext w w' := by
  have HM := hide hM
  have HW := hide (fun w => wint_any (k : Int) w (by omega) (by omega))
  have HD := hide (fun (W : World) (A : Option Addr) (c : Nat) (pv : Value) (hE : Ext w W) (h1 : Reads W 1 pv 2 [.slice A (wInt k).length c, .slice (some ⟨w.heap.size, 0, none⟩) 16 16]) (h2 : Reads W 1 (.slice A (wInt k).length c) (wInt k).length ((wInt k).map u8v)) (h3 : Blk W w.heap.size 23 (v.map u8v).toArray) =>
    digest_any 3 [wInt k, v] pv W (hM.ext hE) (Parts.two h1 h2 (h3.digR hv)) (by simp) (fun p hp => by have := wInt_length (k : Int); simp at hp; rcases hp with rfl | rfl <;> omega))
  obtain ⟨arr, harr⟩ : ∃ r, (v.map u8v).toArray = r := ⟨_, rfl⟩
  rw [harr] at HD ⊢
  obtain ⟨res, hres⟩ : ∃ r, stepS k v = r := ⟨_, rfl⟩
  have HR := hide (And.intro hres (show res.length = 16 from by rw [← hres]; exact digestS_length _ _))
  rw [hres]
  clear hM harr hres
  go_enter Tryd.func25, Tryd.ntmps25
  go_upto_region 1 with fail
  go_region_law (first
    | (go_simp; go_at_call 48; refine (unhide HW _).mono ?_; rintro e w3 ⟨A3, c3, rfl, ho3, hE3⟩; have H3 := hide (And.intro (Reads.of_own ho3) hE3); clear ho3 hE3)
    | (rename_i K hK; go_simp; go_at_call 26; refine (unhide HD _ A3 c3 _ ((((Ext.refl w).alloc _).alloc _).drew.trans (unhide H3).2 |>.alloc _) (Reads.new2 _ _ _ _ rfl) ((unhide H3).1.ext ((Ext.refl _).alloc _)) ((((Blk.new w _ _).alloc _).drew.ext (unhide H3).2).alloc _)).mono ?_
       rintro e w5 ⟨rfl, hE5⟩
       rw [show digestS 3 [wInt k, v] = res from (unhide HR).1]
       have H5 := hide (((((Ext.refl w).alloc _).alloc _).drew.trans (unhide H3).2 |>.alloc _).trans hE5)
       have HB := hide ((((Blk.new' (w.alloc (.cells arr 23)) 23 (Array.replicate 16 (.int .u8 0)) (g := w.heap.size + 1) (by simp)).drew.ext (unhide H3).2).alloc _).ext hE5)
       clear hE5
       dsimp only
       refine hK _ _ ?_
       clear hK K
       refine wpAny_ready (rs := [5]) (by kernel_rfl) (by simp) (AllReady.cons rfl (fun J hJ => ?_) AllReady.nil)
       refine step_storeB (ty := 23) (t := 23) (x := .tmp 4) (y := .tmp 9) rfl rfl digest_wide rfl rfl (unhide HB) rfl (by simpa using (unhide HR).2) (bytes_one _) ?_
       intro w6 hb6 hc6 hz6
       have H6 := hide (And.intro hb6 hc6)
       clear hb6 hc6 hz6
       refine hJ _ _ ?_
       clear hJ J))
  go_wp2
  refine bodyPost_ret (v := .agg (res.map u8v).toArray) (results_blk digest_wide rfl (unhide H6).1 (by simpa using (unhide HR).2) rfl) rfl ⟨rfl, ?_⟩
  exact (unhide H5).trans' (unhide H6).2 (fun _ _ h => h) (fun i hi e => by omega)

end Go.Proofs.YtjemfefkgfoikaaDoor
