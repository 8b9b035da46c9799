/-
  Several texts in one file: each has its own heading below.
-/
import Derived.Test.YtplkplegjoabgaaGreatDoorGzJ
import Derived.Test.YtplkplegjoabgaaGreatDoorGzH
import Derived.Test.YtplkplegjoabgaaGreatDoorGzI
import Derived.Deep.Cut


namespace Go.Proofs.YtplkplegjoabgaaGreatDoor
open Go.RowKit
def S4 (w : World) (cv : Value) (c : List (List UInt8)) (dv : Value) (m : List UInt8) (W : World) : Prop := Ext w W ∧ Digs W cv c ∧ Reads W 1 dv 68 (icells (digC m) 68) ∧ Blk W (w.heap.size + 1) 23 (Array.replicate 16 (.int .u8 0))
theorem S4.ext {w : World} {cv : Value} {c : List (List UInt8)} {dv : Value} {m : List UInt8} {W W' : World} (h : S4 w cv c dv m W) (hE : Ext W W') : S4 w cv c dv m W' := ⟨h.1.trans hE, h.2.1.ext hE, h.2.2.1.ext hE, h.2.2.2.ext hE⟩
theorem S4.chg {w : World} {cv : Value} {c : List (List UInt8)} {dv : Value} {m : List UInt8} {W W' : World} {S : Nat → Prop} {B : Nat} (h : S4 w cv c dv m W) (hc : Chg S W W') (hS : ∀ k, S k → B ≤ k) (hB : w.heap.size + 1 < B) (hd : ∀ k, dv.ownBlock = some k → k < B) (hcv : ∀ k, cv.ownBlock = some k → k < B) : S4 w cv c dv m W' :=
  ⟨h.1.trans' hc (fun _ _ h => h.elim) (fun i hi e => by have := hS i e; omega), h.2.1.chg hc (fun k hk e => by have := hS k e; have := hcv k hk; omega), h.2.2.1.chg hc (fun k _ hk e => by have := hS k e; have := hd k hk; omega), h.2.2.2.chg hc (fun e => by have := hS _ e; omega)⟩
set_option maxRecDepth 100000 in
set_option maxHeartbeats 4000000 in
theorem rrecover_no (m : List UInt8) (c : List (List UInt8)) (cv : Value) (w : World) (hc : ¬ c.length = 68) (hD : Digs w cv c) :
    Calls Tryz.prog 41 #[.agg (m.map u8v).toArray, cv] w fun e w' => e = .returned (.tuple #[.agg (z16.map u8v).toArray, .int .i64 9]) ∧ Ext w w' := by
  obtain ⟨A, c', rfl, _, _⟩ := hD.form
  obtain ⟨arr, harr⟩ : ∃ r, (m.map u8v).toArray = r := ⟨_, rfl⟩
  rw [harr]
  clear hD harr
  have hcI : ¬ (c.length : Int) = 68 := by omega
  generalize c.length = n at *
  go_enter Tryz.func41, Tryz.ntmps41
  go_wp2
  refine bodyPost_ret (v := .tuple #[.agg (z16.map u8v).toArray, .int .i64 9]) (results_two digest_wide rfl (Blk.new' _ _ _ (by simp)) rfl rfl rfl) rfl ⟨rfl, ?_⟩
  exact ((Ext.refl w).alloc _).alloc _
set_option maxRecDepth 100000 in
set_option maxHeartbeats 4000000 in
theorem rrecover_yes (m : List UInt8) (c : List (List UInt8)) (cv : Value) (w : World) (hm : m.length = 16) (hc : c.length = 68) (hD : Digs w cv c) :
    Calls Tryz.prog 41 #[.agg (m.map u8v).toArray, cv] w fun e w' => e = .returned (.tuple #[.agg ((recoverS m (chainAt c)).map u8v).toArray, .int .i64 0]) ∧ Ext w w' := by
  have hlt := hD.own_lt (by omega)
  obtain ⟨bc, oc, c', rfl, _, _, _, _⟩ := hD.at (k := 0) (by omega)
  have HDD := hide hD
  have HLT := hide hlt
  have HDg := hide (fun (W : World) => rdigits_any m W hm)
  have HA := hide (fun k (W : World) => radv_any k (3 - digC m k) (chainAt c k) W (chainAt_length hD.1 k))
  have HW := hide (fun k (W : World) => rraw_any (advS k (chainAt c k) (3 - digC m k)) W (advS_length k _ (chainAt_length hD.1 k) _))
  have HL := hide (fun k => advS_length k _ (chainAt_length hD.1 k) (3 - digC m k))
  have HCL := hide (fun k => chainAt_length hD.1 k)
  have HG := hide (fun k (hk : k < 68) => icells_get (digC m) hk)
  have H3' := hide (digC_le m)
  have HE := hide (endsS_step (fun k => advS k (chainAt c k) (3 - digC m k)))
  have HEL := hide (endsS_length (fun k => advS k (chainAt c k) (3 - digC m k)) (unhide HL) 68)
  have HP := hide (show digestS 4 [endsS (fun k => advS k (chainAt c k) (3 - digC m k)) 68] = recoverS m (chainAt c) ∧ (recoverS m (chainAt c)).length = 16 from ⟨rfl, digestS_length _ _⟩)
  have HAT := hide (fun k (W : World) (hk : k < 68) (h : Digs W (.slice (some ⟨bc, oc, none⟩) c.length c') c) => show W.rangeAt bc (oc + k * 16) ((chainAt c k).map u8v) from by
    obtain ⟨b2, o2, c2, e, _, _, _, hr⟩ := h.at (k := k) (by omega)
    cases e
    rw [chainAt_get (by omega)]
    exact hr)
  obtain ⟨F, hF⟩ : ∃ F, endsS (fun k => advS k (chainAt c k) (3 - digC m k)) = F := ⟨_, rfl⟩
  have hF0 : F 0 = [] := by rw [← hF]; rfl
  rw [hF] at HE HEL HP
  obtain ⟨arr, harr⟩ : ∃ r, (m.map u8v).toArray = r := ⟨_, rfl⟩
  rw [harr] at HDg ⊢
  have hasz : arr.size = 16 := by rw [← harr]; simpa using hm
  obtain ⟨res, hres⟩ : ∃ r, recoverS m (chainAt c) = r := ⟨_, rfl⟩
  rw [hres] at HP ⊢
  have HD := hide (fun (W : World) (A : Option Addr) (c : Nat) (pv : Value) (h1 : Reads W 1 pv 1 [.slice A (F 68).length c]) (h2 : Reads W 1 (.slice A (F 68).length c) (F 68).length ((F 68).map u8v)) =>
    rdigest_any 4 [F 68] pv W (Parts.one h1 h2) (by simp) (fun p hp => by have := unhide HEL; simp at hp; subst hp; omega))
  rw [hc] at HDD HLT HAT ⊢
  clear harr hres hF hm hD hlt
  go_enter Tryz.func41, Tryz.ntmps41
  go_wp2_with (refine wpList_loadB (ty := 23) (t := 23) (x := .tmp 2) rfl rfl digest_wide rfl ((Blk.new w _ _).alloc _) hasz ?_)
  refine (unhide HDg _).mono ?_
  rintro e w1 ⟨A0, c0, rfl, hr1, hE1⟩
  have hol := hr1.own_lt (by omega) (by omega)
  obtain ⟨b0, o0, cc, u, hv0, _⟩ := hr1.at1 (k := 0) (by omega)
  cases hv0
  have H1 := hide (show S4 w (.slice (some ⟨bc, oc, none⟩) 68 c') c (.slice (some ⟨b0, o0, none⟩) 68 c0) m w1 from ⟨(((Ext.refl w).alloc _).alloc _).trans hE1, (unhide HDD).ext ((((Ext.refl w).alloc _).alloc _).trans hE1), hr1, (Blk.new' (w.alloc (.cells arr 23)) 23 (Array.replicate 16 (.int .u8 0)) (g := w.heap.size + 1) (by simp)).ext hE1⟩)
  have HOL := hide hol
  clear hr1 hE1 hol
  go_wp2_with fail
  go_loopw [7, 8] (fun b i wr => ∃ (k : Nat) (A : Option Addr) (c1 : Nat), k ≤ 68 ∧ i = .int .i64 k ∧ b = .slice A (16 * k) c1 ∧ Hid (GB w w1.heap.size b (16 * k) (F k) wr ∧ S4 w (.slice (some ⟨bc, oc, none⟩) 68 c') c (.slice (some ⟨b0, o0, none⟩) 68 c0) m wr)) (fun _ i _ => 68 - (intOf i).toNat)
  case atStart => exact ⟨0, none, 0, by omega, rfl, rfl, hide ⟨by rw [hF0]; exact GB.nil (unhide H1).1 (unhide H1).1.size' (Nat.le_refl _), unhide H1⟩⟩
  case round =>
    obtain ⟨k, A, c1, hk, rfl, rfl, HI⟩ := hrel
    by_cases hlt : k < 68
    · have HF : Hid (∀ W, S4 w (.slice (some ⟨bc, oc, none⟩) 68 c') c (.slice (some ⟨b0, o0, none⟩) 68 c0) m W → W.cell? ⟨b0, o0 + k, none⟩ = some (.int .i64 ((digC m k : Nat) : Int))) := hide (fun W hW => hW.2.2.1.at_ (unhide HG k hlt))
      have HAT' := hide (fun (W : World) (h : S4 w (.slice (some ⟨bc, oc, none⟩) 68 c') c (.slice (some ⟨b0, o0, none⟩) 68 c0) m W) => unhide HAT k W hlt h.2.1)
      have HAk := hide (fun W => unhide HA k W (by omega) (by omega))
      have HWk := hide (unhide HW k)
      have HLk := hide (unhide HL k)
      have HCk := hide (show ((chainAt c k).map u8v).length = 16 from by rw [List.length_map]; exact unhide HCL k)
      have HEk := hide (unhide HE k)
      have h3 := unhide H3' k
      have e3 : IntKind.i64.wrap (3 - ((digC m k : Nat) : Int)) = ((3 - digC m k : Nat) : Int) := by rw [IntKind.wrap_i64]; omega
      generalize hd : advS k (chainAt c k) (3 - digC m k) = d at *
      generalize digC m k = dk at *
      generalize hst : (chainAt c k).map u8v = st at *
      generalize 3 - dk = sk at *
      have hkI : (k : Int) < 68 := by omega
      clear hd hst
      go_upto_region 8 with fail
      refine wp_region_held_drew (S := S4 w (.slice (some ⟨bc, oc, none⟩) 68 c') c (.slice (some ⟨b0, o0, none⟩) 68 c0) m) (by kernel_rfl) ((unhide HI).2.ext ((Ext.refl _).drew)) (fun hHeld => ?_)
      refine wpAnyH_take (i := 0) (oi := _) (v := ?_) rfl (by kernel_rfl) (by kernel_rfl) (by kernel_rfl) (fun _ _ _ h => h) (Or.inl ⟨by rfl, fun wz hSz => ?_⟩) (by assumption) ?_
      rotate_left
      · (first | (go_simp; done) | (go_simp; with_reducible rfl) | (obtain f1 := (unhide HF) wz hSz; clear hSz; first | (go_simp; done) | (go_simp; with_reducible rfl)))
      try simp only [Act.put, List.setIfInBounds_toArray, List.set_cons_zero, List.set_cons_succ, List.getElem_toArray, List.getElem_cons_zero]
      refine wpAnyH_take (i := 1) (oi := _) (v := ?_) rfl (by kernel_rfl) (by kernel_rfl) (by kernel_rfl) (fun _ _ _ h => h) (Or.inl ⟨by rfl, fun wz hSz => ?_⟩) (by assumption) ?_
      rotate_left
      · (first | (go_simp; done) | (go_simp; with_reducible rfl) | (obtain f1 := (unhide HF) wz hSz; clear hSz; first | (go_simp; done) | (go_simp; with_reducible rfl)))
      try simp only [Act.put, List.setIfInBounds_toArray, List.set_cons_zero, List.set_cons_succ, List.getElem_toArray, List.getElem_cons_succ, List.getElem_cons_zero]
      refine wpAnyH_take (i := 2) (oi := _) (v := ?_) rfl (by kernel_rfl) (by kernel_rfl) (by kernel_rfl) (fun _ _ _ h => h) (Or.inl ⟨by rfl, fun wz hSz => ?_⟩) (by assumption) ?_
      rotate_left
      · (first | (go_simp; done) | (go_simp; with_reducible rfl) | (obtain f1 := (unhide HF) wz hSz; clear hSz; first | (go_simp; done) | (go_simp; with_reducible rfl)))
      try simp only [Act.put, List.setIfInBounds_toArray, List.set_cons_zero, List.set_cons_succ, List.getElem_toArray, List.getElem_cons_succ, List.getElem_cons_zero]
      refine wpAnyH_take (i := 3) (oi := _) (v := ?_) rfl (by kernel_rfl) (by kernel_rfl) (by kernel_rfl) (fun _ _ _ h => h) (Or.inl ⟨by rfl, fun wz hSz => ?_⟩) (by assumption) ?_
      rotate_left
      · (first | (go_simp; done) | (go_simp; with_reducible rfl) | (obtain f1 := (unhide HF) wz hSz; clear hSz; first | (go_simp; done) | (go_simp; with_reducible rfl)))
      try simp only [Act.put, List.setIfInBounds_toArray, List.set_cons_zero, List.set_cons_succ, List.getElem_toArray, List.getElem_cons_succ, List.getElem_cons_zero]
      refine wpAnyH_take (i := 4) (oi := _) (v := ?_) rfl (by kernel_rfl) (by kernel_rfl) (by kernel_rfl) (fun _ _ _ h => h) (Or.inl ⟨by rfl, fun wz hSz => ?_⟩) (by assumption) ?_
      rotate_left
      · (first | (go_simp; done) | (go_simp; with_reducible rfl) | (obtain f1 := (unhide HF) wz hSz; clear hSz; first | (go_simp; done) | (go_simp; with_reducible rfl)))
      try simp only [Act.put, List.setIfInBounds_toArray, List.set_cons_zero, List.set_cons_succ, List.getElem_toArray, List.getElem_cons_succ, List.getElem_cons_zero]
      refine wpAnyH_take (i := 5) (oi := _) (v := _) rfl (by kernel_rfl) (by kernel_rfl) (by kernel_rfl) (fun _ _ _ h => h) (ylm digest_wide rfl (by rfl) rfl (unhide HCk) (fun w' hw => unhide HAT' w' hw)) (by assumption) ?_
      try simp only [Act.put, List.setIfInBounds_toArray, List.set_cons_zero, List.set_cons_succ, List.getElem_toArray, List.getElem_cons_succ, List.getElem_cons_zero]
      refine wpAnyH_take (i := 6) (oi := _) (v := ?_) rfl (by kernel_rfl) (by kernel_rfl) (by kernel_rfl) (fun _ _ _ h => h) (Or.inl ⟨by rfl, fun wz hSz => ?_⟩) (by assumption) ?_
      rotate_left
      · (first | (go_simp; done) | (go_simp; with_reducible rfl) | (obtain f1 := (unhide HF) wz hSz; clear hSz; first | (go_simp; done) | (go_simp; with_reducible rfl)))
      try simp only [Act.put, List.setIfInBounds_toArray, List.set_cons_zero, List.set_cons_succ, List.getElem_toArray, List.getElem_cons_succ, List.getElem_cons_zero]
      refine wpAnyH_take (i := 7) (oi := _) (v := ?_) rfl (by kernel_rfl) (by kernel_rfl) (by kernel_rfl) (fun _ _ _ h => h) (Or.inl ⟨by rfl, fun wz hSz => ?_⟩) (by assumption) ?_
      rotate_left
      · (first | (go_simp; done) | (go_simp; with_reducible rfl) | (obtain f1 := (unhide HF) wz hSz; clear hSz; first | (go_simp; done) | (go_simp; with_reducible rfl)))
      try simp only [Act.put, List.setIfInBounds_toArray, List.set_cons_zero, List.set_cons_succ, List.getElem_toArray, List.getElem_cons_succ, List.getElem_cons_zero]
      refine wpAnyH_take (i := 8) (oi := _) (v := ?_) rfl (by kernel_rfl) (by kernel_rfl) (by kernel_rfl) (fun _ _ _ h => h) (Or.inl ⟨by rfl, fun wz hSz => ?_⟩) (by assumption) ?_
      rotate_left
      · (first | (go_simp; done) | (go_simp; with_reducible rfl) | (obtain f1 := (unhide HF) wz hSz; clear hSz; first | (go_simp; done) | (go_simp; with_reducible rfl)))
      try simp only [Act.put, List.setIfInBounds_toArray, List.set_cons_zero, List.set_cons_succ, List.getElem_toArray, List.getElem_cons_succ, List.getElem_cons_zero]
      refine wpAnyH_take (i := 9) (oi := _) (v := ?_) rfl (by kernel_rfl) (by kernel_rfl) (by kernel_rfl) (fun _ _ _ h => h) (Or.inl ⟨by rfl, fun wz hSz => ?_⟩) (by assumption) ?_
      rotate_left
      · (first | (go_simp; done) | (go_simp; with_reducible rfl) | (obtain f1 := (unhide HF) wz hSz; clear hSz; first | (go_simp; done) | (go_simp; with_reducible rfl)))
      try simp only [Act.put, List.setIfInBounds_toArray, List.set_cons_zero, List.set_cons_succ, List.getElem_toArray, List.getElem_cons_succ, List.getElem_cons_zero]
      refine wpAnyH_take (i := 10) (oi := _) (v := ?_) rfl (by kernel_rfl) (by kernel_rfl) (by kernel_rfl) (fun _ _ _ h => h) (Or.inl ⟨by rfl, fun wz hSz => ?_⟩) (by assumption) ?_
      rotate_left
      · (first | (go_simp; done) | (go_simp; with_reducible rfl) | (obtain f1 := (unhide HF) wz hSz; clear hSz; first | (go_simp; done) | (go_simp; with_reducible rfl)))
      try simp only [Act.put, List.setIfInBounds_toArray, List.set_cons_zero, List.set_cons_succ, List.getElem_toArray, List.getElem_cons_succ, List.getElem_cons_zero]
      refine wpAnyH_ready (rs := [11]) (by kernel_rfl) (by simp) (AllReadyH.cons (o := _) rfl (fun K hK => ?_) AllReadyH.nil)
      try go_simp
      (refine (unhide HAk _).mono ?_; rintro e w2 ⟨rfl, hE2⟩; have hS := hHeld.ext hE2; have H2 := hide (((Ext.refl wr).drew).trans hE2); clear hHeld hE2)
      refine hK.out _ _ ?_ (fun hHeld => ?_)
      · exact hS
      clear hK K
      try simp only [Act.put, List.setIfInBounds_toArray, List.set_cons_zero, List.set_cons_succ, List.getElem_toArray, List.getElem_cons_succ, List.getElem_cons_zero]
      refine wpAnyH_ready (rs := [12]) (by kernel_rfl) (by simp) (AllReadyH.cons (o := _) rfl (fun K hK => ?_) AllReadyH.nil)
      try go_simp
      (refine (unhide HWk _).mono ?_; rintro e w4 ⟨A4, c4, rfl, ho4, hE4⟩; have hS := hHeld.ext hE4; have H4 := hide (And.intro ho4 ((unhide H2).trans hE4)); clear hHeld hE4 H2 ho4)
      refine hK.out _ _ ?_ (fun hHeld => ?_)
      · exact hS
      clear hK K
      try simp only [Act.put, List.setIfInBounds_toArray, List.set_cons_zero, List.set_cons_succ, List.getElem_toArray, List.getElem_cons_succ, List.getElem_cons_zero]
      refine wpAnyH_ready (rs := [13]) (by kernel_rfl) (by simp) (AllReadyH.cons (o := _) rfl (fun K hK => ?_) AllReadyH.nil)
      (refine step_app rfl rfl u8_row rfl ((unhide HI).1.to (unhide H4).2).own rfl (unhide H4).1 (AllOne.u8 d) (by have := unhide HLk; omega) ((unhide HI).1.to (unhide H4).2).room ?_; intro A' c5 w5 ho hc5 hv; have hS := hHeld.chg (B := w1.heap.size) hc5 (fun j hj => ((unhide HI).1.own.lt j hj).1) (unhide H1).2.2.2.lt (unhide HOL) (fun j hj => by have := unhide HLT j hj; have := (unhide H1).1.size'; omega); have H5 := hide ((unhide HI).1.step (unhide H4).2 hc5 (l' := F k ++ d) (by rw [List.map_append]; exact ho)); clear ho hc5 hv hHeld)
      refine hK.out _ _ ?_ (fun hHeld => ?_)
      · exact hS
      clear hK K
      try simp only [Act.put, List.setIfInBounds_toArray, List.set_cons_zero, List.set_cons_succ, List.getElem_toArray, List.getElem_cons_succ, List.getElem_cons_zero]
      refine wpAnyH_take (i := 14) (oi := _) (v := ?_) rfl (by kernel_rfl) (by kernel_rfl) (by kernel_rfl) (fun _ _ _ h => h) (Or.inl ⟨by rfl, fun wz hSz => ?_⟩) (by assumption) ?_
      rotate_left
      · (first | (go_simp; done) | (go_simp; with_reducible rfl) | (obtain f1 := (unhide HF) wz hSz; clear hSz; first | (go_simp; done) | (go_simp; with_reducible rfl)))
      try simp only [Act.put, List.setIfInBounds_toArray, List.set_cons_zero, List.set_cons_succ, List.getElem_toArray, List.getElem_cons_succ, List.getElem_cons_zero]
      refine wpAnyH_done (by kernel_rfl) ?_ _
      have H6 := hide hHeld
      clear hHeld
      go_wp2
      go_roundw
      case rel =>
        have e16 : 16 * k + d.length = 16 * (k + 1) := by have := unhide HLk; omega
        refine ⟨k + 1, A', c5, by omega, by go_num, by rw [e16], hide ⟨?_, unhide H6⟩⟩
        rw [unhide HEk, ← e16]
        exact unhide H5
      case measure => simp [intOf]; omega
    · obtain rfl : k = 68 := by omega
      have HX := hide (show GB w w1.heap.size (.slice A (F 68).length c1) (F 68).length (F 68) wr from by rw [unhide HEL]; exact (unhide HI).1)
      have HZ2 := hide (unhide HI).2.2.2.2
      have e68 : 16 * 68 = (F 68).length := (unhide HEL).symm
      rw [e68]
      clear HI e68
      go_wp2_with (first
        | (go_at_call 72; refine (unhide HD _ A c1 _ (Reads.new1 _ _ _) ((unhide HX).reads.ext ((Ext.refl _).alloc _))).mono ?_; rintro e w5 ⟨rfl, hE5⟩; rw [(unhide HP).1]; have H5 := hide (((Ext.refl wr).alloc _).trans hE5); clear hE5)
        | (refine wpList_storeB (ty := 23) (t := 23) (x := .tmp 4) (y := .tmp 35) rfl rfl digest_wide rfl rfl ((unhide HZ2).ext (unhide H5)) rfl (by simpa using (unhide HP).2) (bytes_one _) ?_; intro w7 hb7 hc7 hz7; have H7 := hide (And.intro hb7 hc7); clear hb7 hc7 hz7))
      refine bodyPost_ret (v := .tuple #[.agg (res.map u8v).toArray, .int .i64 0]) (results_two digest_wide rfl (unhide H7).1 (by simpa using (unhide HP).2) rfl rfl) rfl ⟨rfl, ?_⟩
      exact ((unhide HX).ext.trans (unhide H5)).trans' (unhide H7).2 (fun _ _ h => h) (fun i hi e => by omega)
end Go.Proofs.YtplkplegjoabgaaGreatDoor


namespace Go.Proofs.YtplkplegjoabgaaGreatDoor
open Go.RowKit
def z16' : List UInt8 := List.replicate 16 0
def combV (n i : Nat) (leaf : List UInt8) (p : List (List UInt8)) : Value := .tuple #[.agg ((combineF n n i leaf p).1.map u8v).toArray, .bool (combineF n n i leaf p).2]
theorem combineF_fuel : ∀ (f g n i : Nat) (leaf : List UInt8) (p : List (List UInt8)), n ≤ f → n ≤ g → combineF f n i leaf p = combineF g n i leaf p
  | 0, 0, _, _, _, _, _, _ => rfl
  | 0, g + 1, n, i, leaf, p, h, _ => by rw [combineF, combineF, if_pos (by omega)]
  | f + 1, 0, n, i, leaf, p, _, h => by rw [combineF, combineF, if_pos (by omega)]
  | f + 1, g + 1, n, i, leaf, p, h1, h2 => by
    rw [combineF, combineF]
    by_cases h : n ≤ 1
    · rw [if_pos h, if_pos h]
    · have hb := splitS_bounds n (by omega)
      rw [if_neg h, if_neg h, combineF_fuel f g (splitS n) i leaf _ (by omega) (by omega), combineF_fuel f g (n - splitS n) _ leaf _ (by omega) (by omega)]
theorem comb_one (n i : Nat) (leaf : List UInt8) (p : List (List UInt8)) (h : n ≤ 1) : combineF n n i leaf p = (leafS leaf, p.isEmpty) := by
  rcases n with _ | n
  · rfl
  · rw [combineF, if_pos h]
theorem comb_nil (n i : Nat) (leaf : List UInt8) (h : 1 < n) : combineF n n i leaf [] = (List.replicate 16 0, false) := by
  obtain ⟨m, rfl⟩ : ∃ m, n = m + 1 := ⟨n - 1, by omega⟩
  rw [combineF, if_neg (by omega)]
  rfl
theorem comb_left (n i : Nat) (leaf : List UInt8) (p : List (List UInt8)) (q : List UInt8) (h : 1 < n) (hi : i < splitS n) : combineF n n i leaf (p ++ [q]) = (nodeS (combineF (splitS n) (splitS n) i leaf p).1 q, (combineF (splitS n) (splitS n) i leaf p).2) := by
  have hb := splitS_bounds n h
  obtain ⟨m, rfl⟩ : ∃ m, n = m + 1 := ⟨n - 1, by omega⟩
  rw [combineF, if_neg (by omega), List.getLast?_concat, List.dropLast_concat]
  simp only [if_pos hi]
  rw [combineF_fuel m (splitS (m + 1)) _ i leaf p (by omega) (Nat.le_refl _)]
theorem comb_right (n i : Nat) (leaf : List UInt8) (p : List (List UInt8)) (q : List UInt8) (h : 1 < n) (hi : ¬ i < splitS n) : combineF n n i leaf (p ++ [q]) = (nodeS q (combineF (n - splitS n) (n - splitS n) (i - splitS n) leaf p).1, (combineF (n - splitS n) (n - splitS n) (i - splitS n) leaf p).2) := by
  have hb := splitS_bounds n h
  obtain ⟨m, rfl⟩ : ∃ m, n = m + 1 := ⟨n - 1, by omega⟩
  rw [combineF, if_neg (by omega), List.getLast?_concat, List.dropLast_concat]
  simp only [if_neg hi]
  rw [combineF_fuel m (m + 1 - splitS (m + 1)) _ _ leaf p (by omega) (Nat.le_refl _)]
theorem comb_length (f n i : Nat) (leaf : List UInt8) (p : List (List UInt8)) : (combineF f n i leaf p).1.length = 16 := by
  cases f with
  | zero => exact leafS_length _
  | succ f =>
    rw [combineF]
    split
    · exact leafS_length _
    · split
      · rfl
      · split
        · exact nodeS_length _ _
        · exact nodeS_length _ _
def SC (w : World) (la : Array Value) (W : World) : Prop := Ext w W ∧ Blk W w.heap.size 23 la ∧ Blk W (w.heap.size + 1) 23 (Array.replicate 16 (.int .u8 0))
theorem SC.ext {w W W' : World} {la : Array Value} (h : SC w la W) (hE : Ext W W') : SC w la W' := ⟨h.1.trans hE, h.2.1.ext hE, h.2.2.ext hE⟩
theorem SC.start (w : World) (la : Array Value) : SC w la ((w.alloc (.cells la 23)).alloc (.cells (Array.replicate 16 (.int .u8 0)) 23)) := ⟨((Ext.refl w).alloc _).alloc _, (Blk.new w _ _).alloc _, Blk.new' _ _ _ (by simp)⟩
def Cut8 (w : World) (la : Array Value) (g : Nat) (d : List UInt8) (W : World) : Prop := Blk W g 23 (d.map u8v).toArray ∧ SC w la W ∧ w.heap.size + 1 < g
theorem Digs.heads {w : World} {v : Value} {ds : List (List UInt8)} (h : Digs w v ds) (hn : 0 < ds.length) : ∃ b o c, v = .slice (some ⟨b, o, none⟩) ds.length c ∧ ds.length ≤ c ∧ c ≤ maxLen ∧ b < w.heap.size ∧ (∀ m, m ≤ ds.length → Digs w (.slice (some ⟨b, o, none⟩) m c) (ds.take m)) ∧ ∀ k (hk : k < ds.length), w.rangeAt b (o + k * 16) (ds[k].map u8v) := by
  obtain ⟨b, o, c, rfl, h1, h2, hb, _⟩ := h.at (k := 0) hn
  refine ⟨b, o, c, rfl, h1, h2, hb, fun m hm => ?_, fun k hk => ?_⟩
  · rcases Nat.eq_zero_or_pos m with rfl | h0
    · rw [List.take_zero]
      exact ⟨D16.nil, rfl, _, c, rfl, Nat.zero_le _, h2, fun h => absurd h (by simp)⟩
    · obtain ⟨b', o', c2, e, hD⟩ := h.sub 0 m c (by omega) h0 (by omega) h2
      cases e
      rw [take_eq, Nat.zero_mul, Nat.add_zero] at hD
      exact hD
  · obtain ⟨b', o', c', e, _, _, _, hr⟩ := h.at hk
    cases e
    exact hr
set_option maxRecDepth 100000 in
set_option maxHeartbeats 4000000 in
theorem comb_any (N : Nat) : ∀ (n i : Nat) (leaf : List UInt8) (p : List (List UInt8)) (pv : Value) (w : World), n ≤ N → i < n → n ≤ 1000 → leaf.length = 16 → Digs w pv p →
    Calls Tryz.prog 84 #[.int .i64 (n : Int), .int .i64 (i : Int), .agg (leaf.map u8v).toArray, pv] w fun e w' => e = .returned (combV n i leaf p) ∧ Ext w w' := by
  induction N with
  | zero => intro n i leaf p pv w h1 h2; omega
  | succ N ih =>
    intro n i leaf p pv w hN hi h5 hl hD
    obtain ⟨la, hla⟩ : ∃ x, (leaf.map u8v).toArray = x := ⟨_, rfl⟩
    have HSZ := hide (show la.size = 16 from by rw [← hla]; simpa using hl)
    by_cases h1 : n = 1
    · subst h1
      obtain ⟨A, c, rfl, _, _⟩ := hD.form
      have HLf := hide (fun W => rleaf_any leaf W hl)
      have HR := hide (show combV 1 i leaf p = .tuple #[.agg ((leafS leaf).map u8v).toArray, .bool p.isEmpty] ∧ (leafS leaf).length = 16 from ⟨by unfold combV; rw [comb_one 1 i leaf p (by omega)], leafS_length _⟩)
      obtain ⟨lf, hlf⟩ : ∃ x, leafS leaf = x := ⟨_, rfl⟩
      rw [hlf] at HLf HR
      rw [(unhide HR).1]
      rw [hla] at HLf ⊢
      have hb2 : ((p.length : Int) == 0) = p.isEmpty := by cases p <;> simp; omega
      have HB2 := hide hb2
      clear hD ih hla hlf hb2 hl hi
      by_cases hp : p.length = 0
      · obtain rfl : p = [] := List.eq_nil_of_length_eq_zero hp
        clear hp
        go_enter Tryz.func84, Tryz.ntmps84
        go_wp2_with (first
          | (refine wpList_loadB (ty := 23) (t := 23) (x := .tmp 6) rfl rfl digest_wide rfl (cs := la) ((Blk.new w _ _).alloc _) (unhide HSZ) ?_)
          | (go_at_call 73; refine (unhide HLf _).mono ?_; rintro e w5 ⟨rfl, hE5⟩; have H5 := hide (And.intro ((((Ext.refl w).alloc _).alloc _).trans hE5) ((Blk.new' (w.alloc (.cells la 23)) 23 (Array.replicate 16 (.int .u8 0)) (g := w.heap.size + 1) (by simp)).ext hE5)); clear hE5)
          | (refine wpList_storeB (ty := 23) (t := 23) (x := .tmp 8) (y := .tmp 19) rfl rfl digest_wide rfl rfl (unhide H5).2 rfl (by simpa using (unhide HR).2) (bytes_one _) ?_; intro w7 hb7 hc7 hz7; have H7 := hide (And.intro hb7 hc7); clear hb7 hc7 hz7))
        refine bodyPost_ret (v := .tuple #[.agg (lf.map u8v).toArray, _]) (results_two digest_wide rfl (unhide H7).1 (by simpa using (unhide HR).2) rfl rfl) rfl ⟨rfl, ?_⟩
        exact (unhide H5).1.trans' (unhide H7).2 (fun _ _ h => h) (fun i hi e => by omega)
      · have hpe : p.isEmpty = false := by cases p <;> simp_all
        rw [hpe]
        have hp0 : ((p.length : Int) == 0) = false := beq_eq_false_iff_ne.2 (by omega)
        have hp1 : ¬ (p.length : Int) = 0 := by omega
        clear hpe hp
        go_enter Tryz.func84, Tryz.ntmps84
        go_wp2_with (first
          | (refine wpList_loadB (ty := 23) (t := 23) (x := .tmp 6) rfl rfl digest_wide rfl (cs := la) ((Blk.new w _ _).alloc _) (unhide HSZ) ?_)
          | (go_at_call 73; refine (unhide HLf _).mono ?_; rintro e w5 ⟨rfl, hE5⟩; have H5 := hide (And.intro ((((Ext.refl w).alloc _).alloc _).trans hE5) ((Blk.new' (w.alloc (.cells la 23)) 23 (Array.replicate 16 (.int .u8 0)) (g := w.heap.size + 1) (by simp)).ext hE5)); clear hE5)
          | (refine wpList_storeB (ty := 23) (t := 23) (x := .tmp 8) (y := .tmp 19) rfl rfl digest_wide rfl rfl (unhide H5).2 rfl (by simpa using (unhide HR).2) (bytes_one _) ?_; intro w7 hb7 hc7 hz7; have H7 := hide (And.intro hb7 hc7); clear hb7 hc7 hz7))
        refine bodyPost_ret (v := .tuple #[.agg (lf.map u8v).toArray, _]) (results_two digest_wide rfl (unhide H7).1 (by simpa using (unhide HR).2) rfl rfl) rfl ⟨rfl, ?_⟩
        exact (unhide H5).1.trans' (unhide H7).2 (fun _ _ h => h) (fun i hi e => by omega)
    · have hb := splitS_bounds n (by omega)
      have hnI : ¬ (n : Int) = 1 := by omega
      rcases List.eq_nil_or_concat p with rfl | ⟨p, q, rfl⟩
      · obtain ⟨A, c, rfl, _, _⟩ := hD.form
        have HR := hide (show combV n i leaf [] = .tuple #[.agg (z16'.map u8v).toArray, .bool false] from by unfold combV; rw [comb_nil n i leaf (by omega)]; rfl)
        rw [unhide HR, hla]
        clear hD ih hla hb
        go_enter Tryz.func84, Tryz.ntmps84
        go_wp2
        refine bodyPost_ret (v := .tuple #[.agg (z16'.map u8v).toArray, .bool false]) (results_two digest_wide rfl (Blk.new' _ _ _ (by simp)) rfl rfl rfl) rfl ⟨rfl, ?_⟩
        exact ((Ext.refl w).alloc _).alloc _
      · rw [List.concat_eq_append] at hD ⊢
        obtain ⟨b, o, c, rfl, hc1, hc2, hbl, hT, hR⟩ := hD.heads (by simp)
        have hq := hR p.length (by simp)
        have ht := hT p.length (by simp)
        rw [List.getElem_concat_length rfl] at hq
        rw [List.take_left' rfl] at ht
        have hq16 : q.length = 16 := hD.1 q (by simp)
        have hpl : (p ++ [q]).length = p.length + 1 := by simp
        rw [hpl] at hc1 ⊢
        have hpI : ¬ ((p.length : Int) + 1 = 0) := by omega
        have hpI2 : (p.length : Int) < (p.length : Int) + 1 := by omega
        unfold maxLen at hc2
        have HSp := hide (fun W => rsplit_any n W (by omega) (by omega))
        have HQ := hide (show (q.map u8v).length = 16 ∧ w.rangeAt b (o + p.length * 16) (q.map u8v) from ⟨by simpa using hq16, hq⟩)
        have hpc : p.length ≤ c := by omega
        clear hT hR hq hD hpl
        by_cases hk : i < splitS n
        · have HC := hide (fun W (hE : Ext w W) => ih (splitS n) i leaf p (.slice (some ⟨b, o, none⟩) p.length c) W (by omega) hk (by omega) hl (ht.ext hE))
          have HR := hide (comb_left n i leaf p q (by omega) hk)
          have hld := comb_length (splitS n) (splitS n) i leaf p
          obtain ⟨d, hd⟩ : ∃ d, (combineF (splitS n) (splitS n) i leaf p).1 = d := ⟨_, rfl⟩
          obtain ⟨ok, hok⟩ : ∃ d, (combineF (splitS n) (splitS n) i leaf p).2 = d := ⟨_, rfl⟩
          have HCV := hide (show combV (splitS n) i leaf p = .tuple #[.agg (d.map u8v).toArray, .bool ok] from by unfold combV; rw [hd, hok])
          rw [hd] at hld
          have HN := hide (fun W => rnode_any d q W hld hq16)
          have HV := hide (show combV n i leaf (p ++ [q]) = .tuple #[.agg ((nodeS d q).map u8v).toArray, .bool ok] ∧ (nodeS d q).length = 16 from ⟨by unfold combV; rw [unhide HR, hd, hok], nodeS_length _ _⟩)
          have HLd := hide hld
          obtain ⟨nd, hnd⟩ : ∃ x, nodeS d q = x := ⟨_, rfl⟩
          rw [hnd] at HV HN
          rw [(unhide HV).1]
          rw [hla] at HC ⊢
          have hkI : (i : Int) < ((splitS n : Nat) : Int) := by omega
          generalize splitS n = k at *
          clear hla hl hld hd hok HR hq16 hnd ht ih
          go_enter Tryz.func84, Tryz.ntmps84
          go_upto_region 8 with (go_at_call 74; refine (unhide HSp _).mono ?_; rintro e wz ⟨rfl, rfl⟩)
          go_cut [12, 13] (fun s t wx => ∃ g, s = .pointer (some ⟨g, 0, none⟩) ∧ t = .bool ok ∧ Hid (Cut8 w la g d wx))
          case first =>
            refine wp_region_held_drew (S := SC w la) (by kernel_rfl) ((SC.start w la).ext (Ext.refl _).drew) (fun hHeld => ?_)
            refine wpAnyH_take (i := 0) (oi := _) (v := ?_) rfl (by kernel_rfl) (by kernel_rfl) (by kernel_rfl) (fun _ _ _ h => h) (Or.inl ⟨by rfl, fun wz hSz => ?_⟩) (by assumption) ?_
            rotate_left
            · (first | (go_simp; done) | (go_simp; with_reducible rfl))
            try simp only [Act.put, List.setIfInBounds_toArray, List.set_cons_zero, List.set_cons_succ, List.getElem_toArray, List.getElem_cons_zero]
            refine wpAnyH_take (i := 1) (oi := _) (v := ?_) rfl (by kernel_rfl) (by kernel_rfl) (by kernel_rfl) (fun _ _ _ h => h) (Or.inl ⟨by rfl, fun wz hSz => ?_⟩) (by assumption) ?_
            rotate_left
            · (first | (go_simp; done) | (go_simp; with_reducible rfl))
            try simp only [Act.put, List.setIfInBounds_toArray, List.set_cons_zero, List.set_cons_succ, List.getElem_toArray, List.getElem_cons_succ, List.getElem_cons_zero]
            refine wpAnyH_take (i := 2) (oi := _) (v := _) rfl (by kernel_rfl) (by kernel_rfl) (by kernel_rfl) (fun _ _ _ h => h) (ylb digest_wide rfl (by rfl) rfl (unhide HSZ) (fun w' hw => hw.2.1)) (by assumption) ?_
            try simp only [Act.put, List.setIfInBounds_toArray, List.set_cons_zero, List.set_cons_succ, List.getElem_toArray, List.getElem_cons_succ, List.getElem_cons_zero]
            refine wpAnyH_take (i := 3) (oi := _) (v := ?_) rfl (by kernel_rfl) (by kernel_rfl) (by kernel_rfl) (fun _ _ _ h => h) (Or.inl ⟨by rfl, fun wz hSz => ?_⟩) (by assumption) ?_
            rotate_left
            · (first | (go_simp; done) | (go_simp; with_reducible rfl))
            try simp only [Act.put, List.setIfInBounds_toArray, List.set_cons_zero, List.set_cons_succ, List.getElem_toArray, List.getElem_cons_succ, List.getElem_cons_zero]
            refine wpAnyH_take (i := 4) (oi := _) (v := ?_) rfl (by kernel_rfl) (by kernel_rfl) (by kernel_rfl) (fun _ _ _ h => h) (Or.inl ⟨by rfl, fun wz hSz => ?_⟩) (by assumption) ?_
            rotate_left
            · (first | (go_simp; done) | (go_simp; with_reducible rfl))
            try simp only [Act.put, List.setIfInBounds_toArray, List.set_cons_zero, List.set_cons_succ, List.getElem_toArray, List.getElem_cons_succ, List.getElem_cons_zero]
            refine wpAnyH_take (i := 5) (oi := _) (v := ?_) rfl (by kernel_rfl) (by kernel_rfl) (by kernel_rfl) (fun _ _ _ h => h) (Or.inl ⟨by rfl, fun wz hSz => ?_⟩) (by assumption) ?_
            rotate_left
            · (first | (go_simp; done) | (go_simp; with_reducible rfl))
            try simp only [Act.put, List.setIfInBounds_toArray, List.set_cons_zero, List.set_cons_succ, List.getElem_toArray, List.getElem_cons_succ, List.getElem_cons_zero]
            refine wpAnyH_ready (rs := [6, 10]) (by kernel_rfl) (by simp) (AllReadyH.cons (o := _) rfl (fun K hK => ?_) (AllReadyH.cons (o := _) rfl (fun K hK => ?_) AllReadyH.nil))
            · try go_simp
              refine (unhide HC _ hHeld.1).mono ?_
              rintro e w3 ⟨rfl, hE3⟩
              rw [unhide HCV]
              have hS := hHeld.ext hE3
              clear hHeld hE3
              refine hK.out _ _ ?_ (fun hHeld => ?_)
              · exact hS
              clear hK K
              try simp only [Act.put, List.setIfInBounds_toArray, List.set_cons_zero, List.set_cons_succ, List.getElem_toArray, List.getElem_cons_succ, List.getElem_cons_zero]
              refine wpAnyH_take (i := 7) (oi := _) (v := ?_) rfl (by kernel_rfl) (by kernel_rfl) (by kernel_rfl) (fun _ _ _ h => h) (Or.inl ⟨by rfl, fun wz hSz => ?_⟩) (by assumption) ?_
              rotate_left
              · (first | (go_simp; done) | (go_simp; with_reducible rfl))
              try simp only [Act.put, List.setIfInBounds_toArray, List.set_cons_zero, List.set_cons_succ, List.getElem_toArray, List.getElem_cons_succ, List.getElem_cons_zero]
              refine wpAnyH_take (i := 8) (oi := _) (v := ?_) rfl (by kernel_rfl) (by kernel_rfl) (by kernel_rfl) (fun _ _ _ h => h) (Or.inl ⟨by rfl, fun wz hSz => ?_⟩) (by assumption) ?_
              rotate_left
              · (first | (go_simp; done) | (go_simp; with_reducible rfl))
              try simp only [Act.put, List.setIfInBounds_toArray, List.set_cons_zero, List.set_cons_succ, List.getElem_toArray, List.getElem_cons_succ, List.getElem_cons_zero]
              refine wpAnyH_take (i := 9) (oi := _) (v := ?_) rfl (by kernel_rfl) (by kernel_rfl) (by kernel_rfl) (fun _ _ _ h => h) (Or.inl ⟨by rfl, fun wz hSz => ?_⟩) (by assumption) ?_
              rotate_left
              · (first | (go_simp; done) | (go_simp; with_reducible rfl))
              try simp only [Act.put, List.setIfInBounds_toArray, List.set_cons_zero, List.set_cons_succ, List.getElem_toArray, List.getElem_cons_succ, List.getElem_cons_zero]
              have HS3 := hide hHeld
              refine wpAnyH_ready (rs := [10]) (by kernel_rfl) (by simp) (AllReadyH.cons (o := _) rfl (fun K hK => ?_) AllReadyH.nil)
              try go_simp
              (have hS := SC.ext hHeld ((Ext.refl _).alloc (.cells (Array.replicate 16 (.int .u8 0)) 23)); clear hHeld)
              refine hK.out _ _ ?_ (fun hHeld => ?_)
              · exact hS
              clear hK K
              try simp only [Act.put, List.setIfInBounds_toArray, List.set_cons_zero, List.set_cons_succ, List.getElem_toArray, List.getElem_cons_succ, List.getElem_cons_zero]
              refine wpAnyH_ready (rs := [11]) (by kernel_rfl) (by simp) (AllReadyH.cons (o := _) rfl (fun K hK => ?_) AllReadyH.nil)
              (refine step_storeB (ty := 23) (t := 23) (x := .tmp 12) (y := .tmp 43) rfl rfl digest_wide rfl rfl (Blk.new w3 _ _) rfl (by simpa using unhide HLd) (bytes_one _) ?_; intro w7 hb7 hc7 hz7; have hS : SC w la w7 := (unhide HS3).ext (made_ext1 hc7); have H7 := hide (show Cut8 w la w3.heap.size d w7 from ⟨hb7, hS, (unhide HS3).2.2.lt⟩); clear hb7 hc7 hz7 hHeld)
              refine hK.out _ _ ?_ (fun hHeld => ?_)
              · exact hS
              clear hK K
              try simp only [Act.put, List.getElem_toArray, List.getElem_cons_succ, List.getElem_cons_zero]
              refine wpAnyH_take (i := 12) (oi := _) (v := ?_) rfl (by kernel_rfl) (by kernel_rfl) (by kernel_rfl) (fun _ _ _ h => h) (Or.inl ⟨by rfl, fun wz hSz => ?_⟩) (by assumption) ?_
              rotate_left
              · (first | (go_simp; done) | (go_simp; with_reducible rfl))
              try simp only [Act.put, List.setIfInBounds_toArray, List.set_cons_zero, List.set_cons_succ, List.getElem_toArray, List.getElem_cons_succ, List.getElem_cons_zero]
              refine wpAnyH_done (by kernel_rfl) ?_ _
              go_wp2_with fail
              go_meet
              exact ⟨_, rfl, rfl, H7⟩
            · go_simp
              clear hHeld
              refine hK.out _ _ ?_ (fun hHeld => ?_)
              · exact ((SC.start w la).ext ((Ext.refl _).alloc _)).ext (Ext.refl _).drew
              clear hK K
              try simp only [Act.put, List.setIfInBounds_toArray, List.set_cons_zero, List.set_cons_succ, List.getElem_toArray, List.getElem_cons_succ, List.getElem_cons_zero]
              have HB := hide (show SC w la ((w.alloc (.cells la 23)).alloc (.cells (Array.replicate 16 (.int .u8 0)) 23)) ∧ Blk ((((w.alloc (.cells la 23)).alloc (.cells (Array.replicate 16 (.int .u8 0)) 23)).alloc (.cells (Array.replicate 16 (.int .u8 0)) 23)).drew) (w.heap.size + 1 + 1) 23 (Array.replicate 16 (.int .u8 0)) from ⟨SC.start w la, (Blk.new' _ _ _ (by simp)).drew⟩)
              refine wpAnyH_ready (rs := [6]) (by kernel_rfl) (by simp) (AllReadyH.cons (o := _) rfl (fun K hK => ?_) AllReadyH.nil)
              try go_simp
              (refine (unhide HC _ hHeld.1).mono ?_; rintro e w3 ⟨rfl, hE3⟩; rw [unhide HCV]; have hS := hHeld.ext hE3; have H3 := hide (And.intro ((unhide HB).2.ext hE3) ((((Ext.refl _).alloc _).drew).trans hE3)); clear hHeld hE3)
              refine hK.out _ _ ?_ (fun hHeld => ?_)
              · exact hS
              clear hK K
              try simp only [Act.put, List.setIfInBounds_toArray, List.set_cons_zero, List.set_cons_succ, List.getElem_toArray, List.getElem_cons_succ, List.getElem_cons_zero]
              refine wpAnyH_take (i := 7) (oi := _) (v := ?_) rfl (by kernel_rfl) (by kernel_rfl) (by kernel_rfl) (fun _ _ _ h => h) (Or.inl ⟨by rfl, fun wz hSz => ?_⟩) (by assumption) ?_
              rotate_left
              · (first | (go_simp; done) | (go_simp; with_reducible rfl))
              try simp only [Act.put, List.setIfInBounds_toArray, List.set_cons_zero, List.set_cons_succ, List.getElem_toArray, List.getElem_cons_succ, List.getElem_cons_zero]
              refine wpAnyH_take (i := 8) (oi := _) (v := ?_) rfl (by kernel_rfl) (by kernel_rfl) (by kernel_rfl) (fun _ _ _ h => h) (Or.inl ⟨by rfl, fun wz hSz => ?_⟩) (by assumption) ?_
              rotate_left
              · (first | (go_simp; done) | (go_simp; with_reducible rfl))
              try simp only [Act.put, List.setIfInBounds_toArray, List.set_cons_zero, List.set_cons_succ, List.getElem_toArray, List.getElem_cons_succ, List.getElem_cons_zero]
              refine wpAnyH_take (i := 9) (oi := _) (v := ?_) rfl (by kernel_rfl) (by kernel_rfl) (by kernel_rfl) (fun _ _ _ h => h) (Or.inl ⟨by rfl, fun wz hSz => ?_⟩) (by assumption) ?_
              rotate_left
              · (first | (go_simp; done) | (go_simp; with_reducible rfl))
              try simp only [Act.put, List.setIfInBounds_toArray, List.set_cons_zero, List.set_cons_succ, List.getElem_toArray, List.getElem_cons_succ, List.getElem_cons_zero]
              refine wpAnyH_ready (rs := [11]) (by kernel_rfl) (by simp) (AllReadyH.cons (o := _) rfl (fun K hK => ?_) AllReadyH.nil)
              (refine step_storeB (ty := 23) (t := 23) (x := .tmp 12) (y := .tmp 43) rfl rfl digest_wide rfl rfl (unhide H3).1 rfl (by simpa using unhide HLd) (bytes_one _) ?_; intro w7 hb7 hc7 hz7; have hS : SC w la w7 := (unhide HB).1.ext (Chg.trans' (unhide H3).2 hc7 (fun _ _ h => h) (fun i hi e => by simp at hi; omega)); have H7 := hide (show Cut8 w la (w.heap.size + 1 + 1) d w7 from ⟨hb7, hS, by omega⟩); clear hb7 hc7 hz7 hHeld)
              refine hK.out _ _ ?_ (fun hHeld => ?_)
              · exact hS
              clear hK K
              try simp only [Act.put, List.getElem_toArray, List.getElem_cons_succ, List.getElem_cons_zero]
              refine wpAnyH_take (i := 12) (oi := _) (v := ?_) rfl (by kernel_rfl) (by kernel_rfl) (by kernel_rfl) (fun _ _ _ h => h) (Or.inl ⟨by rfl, fun wz hSz => ?_⟩) (by assumption) ?_
              rotate_left
              · (first | (go_simp; done) | (go_simp; with_reducible rfl))
              try simp only [Act.put, List.setIfInBounds_toArray, List.set_cons_zero, List.set_cons_succ, List.getElem_toArray, List.getElem_cons_succ, List.getElem_cons_zero]
              refine wpAnyH_done (by kernel_rfl) ?_ _
              go_wp2_with fail
              go_meet
              exact ⟨_, rfl, rfl, H7⟩
          case rest =>
            obtain ⟨g, rfl, rfl, HC8⟩ := hcut
            go_upto_region 9 with fail
            refine wp_region_key 7 (Ext wc) (by kernel_rfl) ((Ext.refl _).drew) (fun hHeld => ?_)
            refine wpAnyK_take (i := 0) (oi := _) (v := _) rfl (by kernel_rfl) (by kernel_rfl) (by kernel_rfl) (by kernel_rfl) (by kernel_rfl) (fun _ _ _ h => h) (ylb digest_wide rfl (by rfl) rfl (by simpa using unhide HLd) (fun w' hw => (unhide HC8).1.ext hw)) (by assumption) ?_
            try simp only [Act.put, List.setIfInBounds_toArray, List.set_cons_zero, List.set_cons_succ, List.getElem_toArray, List.getElem_cons_zero]
            refine wpAnyK_takeF (i := 1) (oi := _) (v := ?_) rfl (by kernel_rfl) (by kernel_rfl) (by kernel_rfl) (by kernel_rfl) (fun _ _ _ h => h) (Or.inl ⟨by rfl, fun wz _ => ?_⟩) (by assumption) ?_
            rotate_left
            · (first | (go_simp; done) | (go_simp; with_reducible rfl))
            try simp only [Act.put, List.setIfInBounds_toArray, List.set_cons_zero, List.set_cons_succ, List.getElem_toArray, List.getElem_cons_succ, List.getElem_cons_zero]
            refine wpAnyK_takeF (i := 2) (oi := _) (v := ?_) rfl (by kernel_rfl) (by kernel_rfl) (by kernel_rfl) (by kernel_rfl) (fun _ _ _ h => h) (Or.inl ⟨by rfl, fun wz _ => ?_⟩) (by assumption) ?_
            rotate_left
            · (first | (go_simp; done) | (go_simp; with_reducible rfl))
            try simp only [Act.put, List.setIfInBounds_toArray, List.set_cons_zero, List.set_cons_succ, List.getElem_toArray, List.getElem_cons_succ, List.getElem_cons_zero]
            refine wpAnyK_takeF (i := 3) (oi := _) (v := ?_) rfl (by kernel_rfl) (by kernel_rfl) (by kernel_rfl) (by kernel_rfl) (fun _ _ _ h => h) (Or.inl ⟨by rfl, fun wz _ => ?_⟩) (by assumption) ?_
            rotate_left
            · (first | (go_simp; done) | (go_simp; with_reducible rfl))
            try simp only [Act.put, List.setIfInBounds_toArray, List.set_cons_zero, List.set_cons_succ, List.getElem_toArray, List.getElem_cons_succ, List.getElem_cons_zero]
            refine wpAnyK_take (i := 4) (oi := _) (v := _) rfl (by kernel_rfl) (by kernel_rfl) (by kernel_rfl) (by kernel_rfl) (by kernel_rfl) (fun _ _ _ h => h) (ylm digest_wide rfl (by rfl) rfl (unhide HQ).1 (fun w' hw => rangeAt_ext (unhide HQ).2 ((unhide HC8).2.1.1.trans hw))) (by assumption) ?_
            try simp only [Act.put, List.setIfInBounds_toArray, List.set_cons_zero, List.set_cons_succ, List.getElem_toArray, List.getElem_cons_succ, List.getElem_cons_zero]
            refine wpAnyK_takeF (i := 6) (oi := _) (v := ?_) rfl (by kernel_rfl) (by kernel_rfl) (by kernel_rfl) (by kernel_rfl) (fun _ _ _ h => h) (Or.inl ⟨by rfl, fun wz _ => ?_⟩) (by assumption) ?_
            rotate_left
            · (first | (go_simp; done) | (go_simp; with_reducible rfl))
            try simp only [Act.put, List.setIfInBounds_toArray, List.set_cons_zero, List.set_cons_succ, List.getElem_toArray, List.getElem_cons_succ, List.getElem_cons_zero]
            refine wpAnyK_ready (rs := [5]) (by kernel_rfl) (by simp) (AllReadyK.cons (o := _) rfl (fun K hK => ?_) AllReadyK.nil)
            try go_simp
            (refine (unhide HN _).mono ?_; rintro e w9 ⟨rfl, hE9⟩; have hS := hHeld.trans hE9; have H9 := hide hS; clear hHeld hE9)
            refine hK.out _ _ ?_ (fun hHeld => ?_)
            · exact hS
            clear hK K
            try simp only [Act.put, List.setIfInBounds_toArray, List.set_cons_zero, List.set_cons_succ, List.getElem_toArray, List.getElem_cons_succ, List.getElem_cons_zero]
            refine wpAnyK_ready (rs := [7]) (by kernel_rfl) (by simp) (AllReadyK.key (o := _) (by kernel_rfl) rfl (fun K hK => ?_))
            (refine step_storeB (ty := 23) (t := 23) (x := .tmp 8) (y := .tmp 50) rfl rfl digest_wide rfl rfl ((unhide HC8).2.1.2.2.ext (unhide H9)) rfl (by simpa using (unhide HV).2) (bytes_one _) ?_; intro w7 hb7 hc7 hz7; have H7 := hide (And.intro hb7 (((unhide HC8).2.1.1.trans (unhide H9)).trans' hc7 (fun _ _ h => h) (fun i hi e => by omega))); clear hb7 hc7 hz7 hHeld)
            refine hK.out _ _ trivial (fun _ => ?_)
            clear hK K
            try simp only [Act.put, List.getElem_toArray, List.getElem_cons_succ, List.getElem_cons_zero]
            refine wpAnyK_ready (rs := [8]) (by kernel_rfl) (by simp) (AllReadyK.key (o := _) (by kernel_rfl) rfl (fun K hK => ?_))
            go_simp
            refine hK.out _ _ trivial (fun _ => ?_)
            clear hK K
            try simp only [Act.put, List.setIfInBounds_toArray, List.set_cons_zero, List.set_cons_succ, List.getElem_toArray, List.getElem_cons_succ, List.getElem_cons_zero]
            refine wpAnyK_done (by kernel_rfl) ?_ _
            go_wp2
            refine bodyPost_ret (v := .tuple #[.agg (nd.map u8v).toArray, .bool ok]) (results_two digest_wide rfl (unhide H7).1 (by simpa using (unhide HV).2) rfl rfl) rfl ⟨rfl, ?_⟩
            exact (unhide H7).2
        · have HC := hide (fun W (hE : Ext w W) (x y : Int) (hx : x = ((n - splitS n : Nat) : Int)) (hy : y = ((i - splitS n : Nat) : Int)) => (by subst hx hy; exact ih (n - splitS n) (i - splitS n) leaf p (.slice (some ⟨b, o, none⟩) p.length c) W (by omega) (by omega) (by omega) hl (ht.ext hE) : Calls Tryz.prog 84 #[.int .i64 x, .int .i64 y, .agg (leaf.map u8v).toArray, .slice (some ⟨b, o, none⟩) p.length c] W fun e w' => e = .returned (combV (n - splitS n) (i - splitS n) leaf p) ∧ Ext W w'))
          have HR := hide (comb_right n i leaf p q (by omega) hk)
          have hld := comb_length (n - splitS n) (n - splitS n) (i - splitS n) leaf p
          obtain ⟨d, hd⟩ : ∃ d, (combineF (n - splitS n) (n - splitS n) (i - splitS n) leaf p).1 = d := ⟨_, rfl⟩
          obtain ⟨ok, hok⟩ : ∃ d, (combineF (n - splitS n) (n - splitS n) (i - splitS n) leaf p).2 = d := ⟨_, rfl⟩
          have HCV := hide (show combV (n - splitS n) (i - splitS n) leaf p = .tuple #[.agg (d.map u8v).toArray, .bool ok] from by unfold combV; rw [hd, hok])
          rw [hd] at hld
          have HN := hide (fun W => rnode_any q d W hq16 hld)
          have HV := hide (show combV n i leaf (p ++ [q]) = .tuple #[.agg ((nodeS q d).map u8v).toArray, .bool ok] ∧ (nodeS q d).length = 16 from ⟨by unfold combV; rw [unhide HR, hd, hok], nodeS_length _ _⟩)
          have HLd := hide hld
          obtain ⟨nd, hnd⟩ : ∃ x, nodeS q d = x := ⟨_, rfl⟩
          rw [hnd] at HV HN
          rw [(unhide HV).1]
          rw [hla] at HC ⊢
          have hkI : ¬ (i : Int) < ((splitS n : Nat) : Int) := by omega
          generalize splitS n = k at *
          clear hla hl hld hd hok HR hq16 hnd ht ih
          go_enter Tryz.func84, Tryz.ntmps84
          go_upto_region 10 with (go_at_call 74; refine (unhide HSp _).mono ?_; rintro e wz ⟨rfl, rfl⟩)
          go_cut [14, 15] (fun s t wx => ∃ g, s = .pointer (some ⟨g, 0, none⟩) ∧ t = .bool ok ∧ Hid (Cut8 w la g d wx))
          case first =>
            refine wp_region_held_drew (S := SC w la) (by kernel_rfl) ((SC.start w la).ext (Ext.refl _).drew) (fun hHeld => ?_)
            refine wpAnyH_take (i := 0) (oi := _) (v := ?_) rfl (by kernel_rfl) (by kernel_rfl) (by kernel_rfl) (fun _ _ _ h => h) (Or.inl ⟨by rfl, fun wz hSz => ?_⟩) (by assumption) ?_
            rotate_left
            · (first | (go_simp; done) | (go_simp; with_reducible rfl))
            try simp only [Act.put, List.setIfInBounds_toArray, List.set_cons_zero, List.set_cons_succ, List.getElem_toArray, List.getElem_cons_zero]
            refine wpAnyH_take (i := 1) (oi := _) (v := ?_) rfl (by kernel_rfl) (by kernel_rfl) (by kernel_rfl) (fun _ _ _ h => h) (Or.inl ⟨by rfl, fun wz hSz => ?_⟩) (by assumption) ?_
            rotate_left
            · (first | (go_simp; done) | (go_simp; with_reducible rfl))
            try simp only [Act.put, List.setIfInBounds_toArray, List.set_cons_zero, List.set_cons_succ, List.getElem_toArray, List.getElem_cons_succ, List.getElem_cons_zero]
            refine wpAnyH_take (i := 2) (oi := _) (v := ?_) rfl (by kernel_rfl) (by kernel_rfl) (by kernel_rfl) (fun _ _ _ h => h) (Or.inl ⟨by rfl, fun wz hSz => ?_⟩) (by assumption) ?_
            rotate_left
            · (first | (go_simp; done) | (go_simp; with_reducible rfl))
            try simp only [Act.put, List.setIfInBounds_toArray, List.set_cons_zero, List.set_cons_succ, List.getElem_toArray, List.getElem_cons_succ, List.getElem_cons_zero]
            refine wpAnyH_take (i := 3) (oi := _) (v := ?_) rfl (by kernel_rfl) (by kernel_rfl) (by kernel_rfl) (fun _ _ _ h => h) (Or.inl ⟨by rfl, fun wz hSz => ?_⟩) (by assumption) ?_
            rotate_left
            · (first | (go_simp; done) | (go_simp; with_reducible rfl))
            try simp only [Act.put, List.setIfInBounds_toArray, List.set_cons_zero, List.set_cons_succ, List.getElem_toArray, List.getElem_cons_succ, List.getElem_cons_zero]
            refine wpAnyH_take (i := 4) (oi := _) (v := ?_) rfl (by kernel_rfl) (by kernel_rfl) (by kernel_rfl) (fun _ _ _ h => h) (Or.inl ⟨by rfl, fun wz hSz => ?_⟩) (by assumption) ?_
            rotate_left
            · (first | (go_simp; done) | (go_simp; with_reducible rfl))
            try simp only [Act.put, List.setIfInBounds_toArray, List.set_cons_zero, List.set_cons_succ, List.getElem_toArray, List.getElem_cons_succ, List.getElem_cons_zero]
            refine wpAnyH_take (i := 5) (oi := _) (v := ?_) rfl (by kernel_rfl) (by kernel_rfl) (by kernel_rfl) (fun _ _ _ h => h) (Or.inl ⟨by rfl, fun wz hSz => ?_⟩) (by assumption) ?_
            rotate_left
            · (first | (go_simp; done) | (go_simp; with_reducible rfl))
            try simp only [Act.put, List.setIfInBounds_toArray, List.set_cons_zero, List.set_cons_succ, List.getElem_toArray, List.getElem_cons_succ, List.getElem_cons_zero]
            refine wpAnyH_take (i := 6) (oi := _) (v := _) rfl (by kernel_rfl) (by kernel_rfl) (by kernel_rfl) (fun _ _ _ h => h) (ylb digest_wide rfl (by rfl) rfl (unhide HSZ) (fun w' hw => hw.2.1)) (by assumption) ?_
            try simp only [Act.put, List.setIfInBounds_toArray, List.set_cons_zero, List.set_cons_succ, List.getElem_toArray, List.getElem_cons_succ, List.getElem_cons_zero]
            refine wpAnyH_take (i := 7) (oi := _) (v := ?_) rfl (by kernel_rfl) (by kernel_rfl) (by kernel_rfl) (fun _ _ _ h => h) (Or.inl ⟨by rfl, fun wz hSz => ?_⟩) (by assumption) ?_
            rotate_left
            · (first | (go_simp; done) | (go_simp; with_reducible rfl))
            try simp only [Act.put, List.setIfInBounds_toArray, List.set_cons_zero, List.set_cons_succ, List.getElem_toArray, List.getElem_cons_succ, List.getElem_cons_zero]
            refine wpAnyH_take (i := 8) (oi := _) (v := ?_) rfl (by kernel_rfl) (by kernel_rfl) (by kernel_rfl) (fun _ _ _ h => h) (Or.inl ⟨by rfl, fun wz hSz => ?_⟩) (by assumption) ?_
            rotate_left
            · (first | (go_simp; done) | (go_simp; with_reducible rfl))
            try simp only [Act.put, List.setIfInBounds_toArray, List.set_cons_zero, List.set_cons_succ, List.getElem_toArray, List.getElem_cons_succ, List.getElem_cons_zero]
            refine wpAnyH_take (i := 9) (oi := _) (v := ?_) rfl (by kernel_rfl) (by kernel_rfl) (by kernel_rfl) (fun _ _ _ h => h) (Or.inl ⟨by rfl, fun wz hSz => ?_⟩) (by assumption) ?_
            rotate_left
            · (first | (go_simp; done) | (go_simp; with_reducible rfl))
            try simp only [Act.put, List.setIfInBounds_toArray, List.set_cons_zero, List.set_cons_succ, List.getElem_toArray, List.getElem_cons_succ, List.getElem_cons_zero]
            refine wpAnyH_ready (rs := [10, 14]) (by kernel_rfl) (by simp) (AllReadyH.cons (o := _) rfl (fun K hK => ?_) (AllReadyH.cons (o := _) rfl (fun K hK => ?_) AllReadyH.nil))
            · try go_simp
              refine (unhide HC _ hHeld.1 _ _ ?_ ?_).mono ?_; (focus (rw [IntKind.wrap_i64]; omega)); (focus (rw [IntKind.wrap_i64]; omega))
              rintro e w3 ⟨rfl, hE3⟩
              rw [unhide HCV]
              have hS := hHeld.ext hE3
              clear hHeld hE3
              refine hK.out _ _ ?_ (fun hHeld => ?_)
              · exact hS
              clear hK K
              try simp only [Act.put, List.setIfInBounds_toArray, List.set_cons_zero, List.set_cons_succ, List.getElem_toArray, List.getElem_cons_succ, List.getElem_cons_zero]
              refine wpAnyH_take (i := 11) (oi := _) (v := ?_) rfl (by kernel_rfl) (by kernel_rfl) (by kernel_rfl) (fun _ _ _ h => h) (Or.inl ⟨by rfl, fun wz hSz => ?_⟩) (by assumption) ?_
              rotate_left
              · (first | (go_simp; done) | (go_simp; with_reducible rfl))
              try simp only [Act.put, List.setIfInBounds_toArray, List.set_cons_zero, List.set_cons_succ, List.getElem_toArray, List.getElem_cons_succ, List.getElem_cons_zero]
              refine wpAnyH_take (i := 12) (oi := _) (v := ?_) rfl (by kernel_rfl) (by kernel_rfl) (by kernel_rfl) (fun _ _ _ h => h) (Or.inl ⟨by rfl, fun wz hSz => ?_⟩) (by assumption) ?_
              rotate_left
              · (first | (go_simp; done) | (go_simp; with_reducible rfl))
              try simp only [Act.put, List.setIfInBounds_toArray, List.set_cons_zero, List.set_cons_succ, List.getElem_toArray, List.getElem_cons_succ, List.getElem_cons_zero]
              refine wpAnyH_take (i := 13) (oi := _) (v := ?_) rfl (by kernel_rfl) (by kernel_rfl) (by kernel_rfl) (fun _ _ _ h => h) (Or.inl ⟨by rfl, fun wz hSz => ?_⟩) (by assumption) ?_
              rotate_left
              · (first | (go_simp; done) | (go_simp; with_reducible rfl))
              try simp only [Act.put, List.setIfInBounds_toArray, List.set_cons_zero, List.set_cons_succ, List.getElem_toArray, List.getElem_cons_succ, List.getElem_cons_zero]
              have HS3 := hide hHeld
              refine wpAnyH_ready (rs := [14]) (by kernel_rfl) (by simp) (AllReadyH.cons (o := _) rfl (fun K hK => ?_) AllReadyH.nil)
              try go_simp
              (have hS := SC.ext hHeld ((Ext.refl _).alloc (.cells (Array.replicate 16 (.int .u8 0)) 23)); clear hHeld)
              refine hK.out _ _ ?_ (fun hHeld => ?_)
              · exact hS
              clear hK K
              try simp only [Act.put, List.setIfInBounds_toArray, List.set_cons_zero, List.set_cons_succ, List.getElem_toArray, List.getElem_cons_succ, List.getElem_cons_zero]
              refine wpAnyH_ready (rs := [15]) (by kernel_rfl) (by simp) (AllReadyH.cons (o := _) rfl (fun K hK => ?_) AllReadyH.nil)
              (refine step_storeB (ty := 23) (t := 23) (x := .tmp 14) (y := .tmp 64) rfl rfl digest_wide rfl rfl (Blk.new w3 _ _) rfl (by simpa using unhide HLd) (bytes_one _) ?_; intro w7 hb7 hc7 hz7; have hS : SC w la w7 := (unhide HS3).ext (made_ext1 hc7); have H7 := hide (show Cut8 w la w3.heap.size d w7 from ⟨hb7, hS, (unhide HS3).2.2.lt⟩); clear hb7 hc7 hz7 hHeld)
              refine hK.out _ _ ?_ (fun hHeld => ?_)
              · exact hS
              clear hK K
              try simp only [Act.put, List.getElem_toArray, List.getElem_cons_succ, List.getElem_cons_zero]
              refine wpAnyH_take (i := 16) (oi := _) (v := ?_) rfl (by kernel_rfl) (by kernel_rfl) (by kernel_rfl) (fun _ _ _ h => h) (Or.inl ⟨by rfl, fun wz hSz => ?_⟩) (by assumption) ?_
              rotate_left
              · (first | (go_simp; done) | (go_simp; with_reducible rfl))
              try simp only [Act.put, List.setIfInBounds_toArray, List.set_cons_zero, List.set_cons_succ, List.getElem_toArray, List.getElem_cons_succ, List.getElem_cons_zero]
              refine wpAnyH_done (by kernel_rfl) ?_ _
              go_wp2_with fail
              go_meet
              exact ⟨_, rfl, rfl, H7⟩
            · go_simp
              clear hHeld
              refine hK.out _ _ ?_ (fun hHeld => ?_)
              · exact ((SC.start w la).ext ((Ext.refl _).alloc _)).ext (Ext.refl _).drew
              clear hK K
              try simp only [Act.put, List.setIfInBounds_toArray, List.set_cons_zero, List.set_cons_succ, List.getElem_toArray, List.getElem_cons_succ, List.getElem_cons_zero]
              have HB := hide (show SC w la ((w.alloc (.cells la 23)).alloc (.cells (Array.replicate 16 (.int .u8 0)) 23)) ∧ Blk ((((w.alloc (.cells la 23)).alloc (.cells (Array.replicate 16 (.int .u8 0)) 23)).alloc (.cells (Array.replicate 16 (.int .u8 0)) 23)).drew) (w.heap.size + 1 + 1) 23 (Array.replicate 16 (.int .u8 0)) from ⟨SC.start w la, (Blk.new' _ _ _ (by simp)).drew⟩)
              refine wpAnyH_ready (rs := [10]) (by kernel_rfl) (by simp) (AllReadyH.cons (o := _) rfl (fun K hK => ?_) AllReadyH.nil)
              try go_simp
              (refine (unhide HC _ hHeld.1 _ _ ?_ ?_).mono ?_; (focus (rw [IntKind.wrap_i64]; omega)); (focus (rw [IntKind.wrap_i64]; omega)); rintro e w3 ⟨rfl, hE3⟩; rw [unhide HCV]; have hS := hHeld.ext hE3; have H3 := hide (And.intro ((unhide HB).2.ext hE3) ((((Ext.refl _).alloc _).drew).trans hE3)); clear hHeld hE3)
              refine hK.out _ _ ?_ (fun hHeld => ?_)
              · exact hS
              clear hK K
              try simp only [Act.put, List.setIfInBounds_toArray, List.set_cons_zero, List.set_cons_succ, List.getElem_toArray, List.getElem_cons_succ, List.getElem_cons_zero]
              refine wpAnyH_take (i := 11) (oi := _) (v := ?_) rfl (by kernel_rfl) (by kernel_rfl) (by kernel_rfl) (fun _ _ _ h => h) (Or.inl ⟨by rfl, fun wz hSz => ?_⟩) (by assumption) ?_
              rotate_left
              · (first | (go_simp; done) | (go_simp; with_reducible rfl))
              try simp only [Act.put, List.setIfInBounds_toArray, List.set_cons_zero, List.set_cons_succ, List.getElem_toArray, List.getElem_cons_succ, List.getElem_cons_zero]
              refine wpAnyH_take (i := 12) (oi := _) (v := ?_) rfl (by kernel_rfl) (by kernel_rfl) (by kernel_rfl) (fun _ _ _ h => h) (Or.inl ⟨by rfl, fun wz hSz => ?_⟩) (by assumption) ?_
              rotate_left
              · (first | (go_simp; done) | (go_simp; with_reducible rfl))
              try simp only [Act.put, List.setIfInBounds_toArray, List.set_cons_zero, List.set_cons_succ, List.getElem_toArray, List.getElem_cons_succ, List.getElem_cons_zero]
              refine wpAnyH_take (i := 13) (oi := _) (v := ?_) rfl (by kernel_rfl) (by kernel_rfl) (by kernel_rfl) (fun _ _ _ h => h) (Or.inl ⟨by rfl, fun wz hSz => ?_⟩) (by assumption) ?_
              rotate_left
              · (first | (go_simp; done) | (go_simp; with_reducible rfl))
              try simp only [Act.put, List.setIfInBounds_toArray, List.set_cons_zero, List.set_cons_succ, List.getElem_toArray, List.getElem_cons_succ, List.getElem_cons_zero]
              refine wpAnyH_ready (rs := [15]) (by kernel_rfl) (by simp) (AllReadyH.cons (o := _) rfl (fun K hK => ?_) AllReadyH.nil)
              (refine step_storeB (ty := 23) (t := 23) (x := .tmp 14) (y := .tmp 64) rfl rfl digest_wide rfl rfl (unhide H3).1 rfl (by simpa using unhide HLd) (bytes_one _) ?_; intro w7 hb7 hc7 hz7; have hS : SC w la w7 := (unhide HB).1.ext (Chg.trans' (unhide H3).2 hc7 (fun _ _ h => h) (fun i hi e => by simp at hi; omega)); have H7 := hide (show Cut8 w la (w.heap.size + 1 + 1) d w7 from ⟨hb7, hS, by omega⟩); clear hb7 hc7 hz7 hHeld)
              refine hK.out _ _ ?_ (fun hHeld => ?_)
              · exact hS
              clear hK K
              try simp only [Act.put, List.getElem_toArray, List.getElem_cons_succ, List.getElem_cons_zero]
              refine wpAnyH_take (i := 16) (oi := _) (v := ?_) rfl (by kernel_rfl) (by kernel_rfl) (by kernel_rfl) (fun _ _ _ h => h) (Or.inl ⟨by rfl, fun wz hSz => ?_⟩) (by assumption) ?_
              rotate_left
              · (first | (go_simp; done) | (go_simp; with_reducible rfl))
              try simp only [Act.put, List.setIfInBounds_toArray, List.set_cons_zero, List.set_cons_succ, List.getElem_toArray, List.getElem_cons_succ, List.getElem_cons_zero]
              refine wpAnyH_done (by kernel_rfl) ?_ _
              go_wp2_with fail
              go_meet
              exact ⟨_, rfl, rfl, H7⟩
          case rest =>
            obtain ⟨g, rfl, rfl, HC8⟩ := hcut
            go_upto_region 11 with fail
            refine wp_region_key 7 (Ext wc) (by kernel_rfl) ((Ext.refl _).drew) (fun hHeld => ?_)
            refine wpAnyK_takeF (i := 0) (oi := _) (v := ?_) rfl (by kernel_rfl) (by kernel_rfl) (by kernel_rfl) (by kernel_rfl) (fun _ _ _ h => h) (Or.inl ⟨by rfl, fun wz _ => ?_⟩) (by assumption) ?_
            rotate_left
            · (first | (go_simp; done) | (go_simp; with_reducible rfl))
            try simp only [Act.put, List.setIfInBounds_toArray, List.set_cons_zero, List.set_cons_succ, List.getElem_toArray, List.getElem_cons_zero]
            refine wpAnyK_takeF (i := 1) (oi := _) (v := ?_) rfl (by kernel_rfl) (by kernel_rfl) (by kernel_rfl) (by kernel_rfl) (fun _ _ _ h => h) (Or.inl ⟨by rfl, fun wz _ => ?_⟩) (by assumption) ?_
            rotate_left
            · (first | (go_simp; done) | (go_simp; with_reducible rfl))
            try simp only [Act.put, List.setIfInBounds_toArray, List.set_cons_zero, List.set_cons_succ, List.getElem_toArray, List.getElem_cons_succ, List.getElem_cons_zero]
            refine wpAnyK_takeF (i := 2) (oi := _) (v := ?_) rfl (by kernel_rfl) (by kernel_rfl) (by kernel_rfl) (by kernel_rfl) (fun _ _ _ h => h) (Or.inl ⟨by rfl, fun wz _ => ?_⟩) (by assumption) ?_
            rotate_left
            · (first | (go_simp; done) | (go_simp; with_reducible rfl))
            try simp only [Act.put, List.setIfInBounds_toArray, List.set_cons_zero, List.set_cons_succ, List.getElem_toArray, List.getElem_cons_succ, List.getElem_cons_zero]
            refine wpAnyK_take (i := 3) (oi := _) (v := _) rfl (by kernel_rfl) (by kernel_rfl) (by kernel_rfl) (by kernel_rfl) (by kernel_rfl) (fun _ _ _ h => h) (ylm digest_wide rfl (by rfl) rfl (unhide HQ).1 (fun w' hw => rangeAt_ext (unhide HQ).2 ((unhide HC8).2.1.1.trans hw))) (by assumption) ?_
            try simp only [Act.put, List.setIfInBounds_toArray, List.set_cons_zero, List.set_cons_succ, List.getElem_toArray, List.getElem_cons_succ, List.getElem_cons_zero]
            refine wpAnyK_take (i := 4) (oi := _) (v := _) rfl (by kernel_rfl) (by kernel_rfl) (by kernel_rfl) (by kernel_rfl) (by kernel_rfl) (fun _ _ _ h => h) (ylb digest_wide rfl (by rfl) rfl (by simpa using unhide HLd) (fun w' hw => (unhide HC8).1.ext hw)) (by assumption) ?_
            try simp only [Act.put, List.setIfInBounds_toArray, List.set_cons_zero, List.set_cons_succ, List.getElem_toArray, List.getElem_cons_succ, List.getElem_cons_zero]
            refine wpAnyK_takeF (i := 6) (oi := _) (v := ?_) rfl (by kernel_rfl) (by kernel_rfl) (by kernel_rfl) (by kernel_rfl) (fun _ _ _ h => h) (Or.inl ⟨by rfl, fun wz _ => ?_⟩) (by assumption) ?_
            rotate_left
            · (first | (go_simp; done) | (go_simp; with_reducible rfl))
            try simp only [Act.put, List.setIfInBounds_toArray, List.set_cons_zero, List.set_cons_succ, List.getElem_toArray, List.getElem_cons_succ, List.getElem_cons_zero]
            refine wpAnyK_ready (rs := [5]) (by kernel_rfl) (by simp) (AllReadyK.cons (o := _) rfl (fun K hK => ?_) AllReadyK.nil)
            try go_simp
            (refine (unhide HN _).mono ?_; rintro e w9 ⟨rfl, hE9⟩; have hS := hHeld.trans hE9; have H9 := hide hS; clear hHeld hE9)
            refine hK.out _ _ ?_ (fun hHeld => ?_)
            · exact hS
            clear hK K
            try simp only [Act.put, List.setIfInBounds_toArray, List.set_cons_zero, List.set_cons_succ, List.getElem_toArray, List.getElem_cons_succ, List.getElem_cons_zero]
            refine wpAnyK_ready (rs := [7]) (by kernel_rfl) (by simp) (AllReadyK.key (o := _) (by kernel_rfl) rfl (fun K hK => ?_))
            (refine step_storeB (ty := 23) (t := 23) (x := .tmp 8) (y := .tmp 71) rfl rfl digest_wide rfl rfl ((unhide HC8).2.1.2.2.ext (unhide H9)) rfl (by simpa using (unhide HV).2) (bytes_one _) ?_; intro w7 hb7 hc7 hz7; have H7 := hide (And.intro hb7 (((unhide HC8).2.1.1.trans (unhide H9)).trans' hc7 (fun _ _ h => h) (fun i hi e => by omega))); clear hb7 hc7 hz7 hHeld)
            refine hK.out _ _ trivial (fun _ => ?_)
            clear hK K
            try simp only [Act.put, List.getElem_toArray, List.getElem_cons_succ, List.getElem_cons_zero]
            refine wpAnyK_ready (rs := [8]) (by kernel_rfl) (by simp) (AllReadyK.key (o := _) (by kernel_rfl) rfl (fun K hK => ?_))
            go_simp
            refine hK.out _ _ trivial (fun _ => ?_)
            clear hK K
            try simp only [Act.put, List.setIfInBounds_toArray, List.set_cons_zero, List.set_cons_succ, List.getElem_toArray, List.getElem_cons_succ, List.getElem_cons_zero]
            refine wpAnyK_done (by kernel_rfl) ?_ _
            go_wp2
            refine bodyPost_ret (v := .tuple #[.agg (nd.map u8v).toArray, .bool ok]) (results_two digest_wide rfl (unhide H7).1 (by simpa using (unhide HV).2) rfl rfl) rfl ⟨rfl, ?_⟩
            exact (unhide H7).2
end Go.Proofs.YtplkplegjoabgaaGreatDoor


namespace Go.Proofs.YtplkplegjoabgaaGreatDoor
open Go.RowKit
theorem wpList_loadBG {P : Program} {ops : Array Oper} {rest : List Oper} {o : Oper} {a : Act} {w : World} {Q : Exit → Act → World → Prop} (hgd : Region.wanted o (yielded ops a.tmps) = true) {ty : TypeId} {x : Operand} (ho : o.op = .load ty x) {n : Nat} (W : Wide P ty n)
    {g : Nat} (hx : a.eval x = .pointer (some ⟨g, 0, none⟩)) {t : TypeId} {cs : Array Value} (hB : Blk w g t cs) (hn : cs.size = n) (h : wpList P ops Q rest (a.put o.dst (.agg cs)) w) : wpList P ops Q (o :: rest) a w :=
  Go.BigFrame.wpList_want hgd fun _ hK => wp_loadB ho W hx hB hn (hK _ _ h)
set_option maxRecDepth 100000 in
set_option maxHeartbeats 4000000 in
theorem rmverify_in (root leaf : List UInt8) (n i : Nat) (ps : List (List UInt8)) (pv : Value) (w : World) (hr : root.length = 16) (hl : leaf.length = 16) (hn : n ≤ 1000) (hD : Digs w pv ps) (h : i < n) :
    Calls Tryz.prog 42 #[.agg (root.map u8v).toArray, .int .i64 (n : Int), .int .i64 (i : Int), .agg (leaf.map u8v).toArray, pv] w fun e w' => e = .returned (.bool (verifyS root n i leaf ps)) ∧ Ext w w' := by
  obtain ⟨A, c, rfl, _, _⟩ := hD.form
  have HC := hide (fun W (hE : Ext w W) => comb_any n n i leaf ps _ W (Nat.le_refl _) h hn hl (hD.ext hE))
  have hld := comb_length n n i leaf ps
  have HV := hide (combine_verify root n i leaf ps h)
  obtain ⟨d, hd⟩ : ∃ d, (combineF n n i leaf ps).1 = d := ⟨_, rfl⟩
  obtain ⟨ok, hok⟩ : ∃ d, (combineF n n i leaf ps).2 = d := ⟨_, rfl⟩
  have HCV := hide (show combV n i leaf ps = .tuple #[.agg (d.map u8v).toArray, .bool ok] from by unfold combV; rw [hd, hok])
  rw [hd] at hld
  rw [hd, hok] at HV
  obtain ⟨res, hres⟩ : ∃ b, verifyS root n i leaf ps = b := ⟨_, rfl⟩
  rw [hres] at HV ⊢
  have heq := fun W => eq16 hld hr W
  obtain ⟨ra, hra⟩ : ∃ x, (root.map u8v).toArray = x := ⟨_, rfl⟩
  obtain ⟨la, hla⟩ : ∃ x, (leaf.map u8v).toArray = x := ⟨_, rfl⟩
  obtain ⟨da, hda⟩ : ∃ x, (d.map u8v).toArray = x := ⟨_, rfl⟩
  rw [hda, hra] at heq
  rw [hla] at HC
  rw [hda] at HCV
  rw [hra, hla]
  have HSZ := hide (show ra.size = 16 ∧ la.size = 16 ∧ da.size = 16 ∧ da.all (·.oneCell') = true from by rw [← hra, ← hla, ← hda]; exact ⟨by simpa using hr, by simpa using hl, by simpa using hld, bytes_one _⟩)
  have hi0 : ¬ (i : Int) < 0 := by omega
  have hin : ¬ (n : Int) ≤ (i : Int) := by omega
  obtain ⟨q, hq⟩ : ∃ q, decide (d = root) = q := ⟨_, rfl⟩
  rw [hq] at heq HV
  generalize ps.length = m at *
  clear hD hres hra hla hda hd hok hq h hr hl hld
  go_enter Tryz.func42, Tryz.ntmps42
  cases ok
  · obtain rfl : res = false := by have := unhide HV; simpa using this.symm
    go_wp2_with (first
      | (refine wpList_loadB (ty := 23) (t := 23) (x := .tmp 8) rfl rfl digest_wide rfl (cs := la) (Blk.new' _ _ _ (by simp)) (unhide HSZ).2.1 ?_)
      | (go_at_call 84; refine (unhide HC _ (((Ext.refl w).alloc _).alloc _)).mono ?_; rintro e w5 ⟨rfl, hE5⟩; rw [unhide HCV]; have H5 := hide (And.intro ((((Ext.refl w).alloc _).alloc _).trans hE5) (((Blk.new w 23 ra).alloc _).ext hE5)); clear hE5)
      | (refine wpList_storeB (ty := 23) (t := 23) (x := .tmp 11) (y := .tmp 26) rfl rfl digest_wide rfl rfl (Blk.new w5 _ _) rfl (unhide HSZ).2.2.1 (unhide HSZ).2.2.2 ?_; intro w7 hb7 hc7 hz7; have H7 := hide (And.intro hb7 (made_ext1 hc7)); clear hb7 hc7 hz7)
      | (refine wpList_loadBG (by rfl) (ty := 23) (x := .tmp 11) rfl digest_wide rfl (unhide H7).1 (unhide HSZ).2.2.1 ?_)
      | (refine wpList_loadBG (by rfl) (ty := 23) (x := .tmp 5) rfl digest_wide rfl ((unhide H5).2.ext (unhide H7).2) (unhide HSZ).1 ?_))
    go_ret
    exact ⟨rfl, (unhide H5).1.trans (unhide H7).2⟩
  · obtain rfl : res = q := by have := unhide HV; simpa using this.symm
    go_wp2_with (first
      | (refine wpList_loadB (ty := 23) (t := 23) (x := .tmp 8) rfl rfl digest_wide rfl (cs := la) (Blk.new' _ _ _ (by simp)) (unhide HSZ).2.1 ?_)
      | (go_at_call 84; refine (unhide HC _ (((Ext.refl w).alloc _).alloc _)).mono ?_; rintro e w5 ⟨rfl, hE5⟩; rw [unhide HCV]; have H5 := hide (And.intro ((((Ext.refl w).alloc _).alloc _).trans hE5) (((Blk.new w 23 ra).alloc _).ext hE5)); clear hE5)
      | (refine wpList_storeB (ty := 23) (t := 23) (x := .tmp 11) (y := .tmp 26) rfl rfl digest_wide rfl rfl (Blk.new w5 _ _) rfl (unhide HSZ).2.2.1 (unhide HSZ).2.2.2 ?_; intro w7 hb7 hc7 hz7; have H7 := hide (And.intro hb7 (made_ext1 hc7)); clear hb7 hc7 hz7)
      | (refine wpList_loadBG (by rfl) (ty := 23) (x := .tmp 11) rfl digest_wide rfl (unhide H7).1 (unhide HSZ).2.2.1 ?_)
      | (refine wpList_loadBG (by rfl) (ty := 23) (x := .tmp 5) rfl digest_wide rfl ((unhide H5).2.ext (unhide H7).2) (unhide HSZ).1 ?_))
    go_ret
    exact ⟨rfl, (unhide H5).1.trans (unhide H7).2⟩
end Go.Proofs.YtplkplegjoabgaaGreatDoor
