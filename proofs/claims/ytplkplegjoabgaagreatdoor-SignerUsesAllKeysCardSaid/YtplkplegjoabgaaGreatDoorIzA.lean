import Derived.Test.YtplkplegjoabgaaGreatDoorHzA
import Derived.Test.YtplkplegjoabgaaGreatDoorHzB
import Derived.Test.YtplkplegjoabgaaGreatDoorHzC
import Derived.Test.YtplkplegjoabgaaGreatDoorHzD
import Derived.Test.YtplkplegjoabgaaGreatDoorHzE
import Derived.Test.YtplkplegjoabgaaGreatDoorHzF
import Derived.Test.YtplkplegjoabgaaGreatDoorHzG
import Derived.Test.YtplkplegjoabgaaGreatDoorHzH
import Derived.Test.YtplkplegjoabgaaGreatDoorHzI
import Derived.Test.YtplkplegjoabgaaGreatDoorHzJ
import Derived.Test.YtplkplegjoabgaaGreatDoorHzK
import Derived.Test.YtplkplegjoabgaaGreatDoorHzL
import Derived.Test.YtplkplegjoabgaaGreatDoorHzM
import Derived.Test.YtplkplegjoabgaaGreatDoorHzN
import Derived.Test.YtplkplegjoabgaaGreatDoorHzO
namespace Go.Proofs.YtplkplegjoabgaaGreatDoor.Pv
open Go.RowKit
theorem rv_of_dig {C : Ctx} {bs : List UInt8} {k : Nat} (h : bs.length = k) : RV C (.w (.agg [.bs k bs])) (.agg (bs.map u8v).toArray) :=
  .w (.agg (by simpa [u8w_v] using RL.cons (R.bs (C := C) h) RL.nil))
section
variable {A : Amb} {s : St} {a : Act} {w : World} {env : Env} {F : Option Bool → PV → Wr → Prop}
end
end Go.Proofs.YtplkplegjoabgaaGreatDoor.Pv

namespace Go.Proofs.YtplkplegjoabgaaGreatDoor
open Go.ChangeShapes Go.WideShapes Go.ChangeAt Go.RowKit Go.Joins Go.Deep
section
variable {H : Type} {enc : TypeId × Value → H} {P : Program} {w : World} {base : Nat} {spare : Nat → Bool} {held : Bool}
theorem okWide_array {r : Reach} {b0 : Nat} {t e : TypeId} {n : Nat} {v : Value} (ht : P.underlying t = some (.array n e)) (h : Value.okWide P w r b0 t v) : ∃ cs, v = .agg cs ∧ cs.size = P.cellsOf t := by
  simp only [Value.okWide, ht] at h
  obtain ⟨cs, h1, h2, _⟩ := h
  exact ⟨cs, h1, h2⟩
end
set_option maxRecDepth 100000 in
theorem open_digest {H : Type} {enc : TypeId × Value → H} {v : Value} {d : DataW H} {p : List MemPlace} {W : World} {base : Nat} (hv : Value.okWide Tryz.prog W .any base 23 v)
    (h : DataW.Trod enc Tryz.prog W 0 (fun _ => true) true 23 v d p) : ∃ l : List UInt8, l.length = 16 ∧ v = .agg (l.map u8v).toArray := by
  obtain ⟨cs, rfl, _⟩ := okWide_array Tryz.underlying23 hv
  obtain ⟨m, h⟩ := h
  obtain ⟨l, h1, h2⟩ := trod_bytesArr Tryz.underlying23 Tryz.underlying5 (by kernel_rfl) (by kernel_rfl) h
  refine ⟨l, h1, ?_⟩
  have : cs.toList = l.map u8v := h2
  rw [← this, Array.toArray_toList]
end Go.Proofs.YtplkplegjoabgaaGreatDoor

namespace Go.Proofs.YtplkplegjoabgaaGreatDoor.Pv
open Go.ChangeShapes Go.WideShapes Go.ChangeAt Go.RowKit Go.Joins Go.Deep
section
variable {H : Type} {enc : TypeId × Value → H} {w : World} {base : Nat} {spare : Nat → Bool} {held : Bool}
end
section
variable {H : Type} {enc : TypeId × Value → H} {w : World} {base : Nat} {spare : Nat → Bool} {held : Bool}
end
section
variable {H : Type} {enc : TypeId × Value → H} {v : Value} {d : DataW H} {p : List MemPlace} {W : World} {base : Nat}
theorem rv_digest {C : Ctx} {l : List UInt8} (h : l.length = 16) : RV C (.w (.agg [.bs 16 l])) (.agg (l.map u8v).toArray) := rv_of_dig h
end
end Go.Proofs.YtplkplegjoabgaaGreatDoor.Pv

namespace Go.Proofs.YtplkplegjoabgaaGreatDoor
open Go.RowKit
theorem ret_sl {n m : Nat} {A : Option Addr} {c : Nat} {x : Value} (h : n = m) : Ending.returned (.tuple #[.slice A n c, x]) = .returned (.tuple #[.slice A m c, x]) := by rw [h]
set_option maxRecDepth 100000 in
set_option maxHeartbeats 4000000 in
theorem rprove_any (N : Nat) : ∀ (l : List (List UInt8)) (i : Nat) (v : Value) (w : World), l.length ≤ N → i < l.length → l.length ≤ 1000 → Digs w v l →
    Calls Tryz.prog 44 #[v, .int .i64 (i : Int)] w fun e w' => ∃ A c, e = .returned (.tuple #[.slice A (proveS l i).length c, .int .i64 0]) ∧ GD w w.heap.size (.slice A (proveS l i).length c) (proveS l i).length (proveS l i) w' := by
  induction N with
  | zero => intro l i v w h1 h2; omega
  | succ N ih =>
    intro l i v w hN hi h5 hD
    have hi1 : ¬ (i : Int) < 0 := by omega
    have hi2 : ¬ (l.length : Int) ≤ (i : Int) := by omega
    have hi3 : (i : Int) < (l.length : Int) := by omega
    by_cases h1 : l.length = 1
    · obtain ⟨A, c, rfl, _, _⟩ := hD.form
      have HP := hide (proveS_one l i (by omega))
      rw [h1] at hi2 hi3 ⊢
      obtain ⟨p, hp⟩ : ∃ p, proveS l i = p := ⟨_, rfl⟩
      rw [hp] at HP ⊢
      obtain rfl : p = [] := unhide HP
      clear hD ih hp HP h1
      go_enter Tryz.func44, Tryz.ntmps44
      go_wp2_with fail
      go_ret2
      exact ⟨none, 0, rfl, GD.nil (Ext.refl _) (Nat.le_refl _) (Nat.le_refl _)⟩
    · have hb := splitS_bounds l.length (by omega)
      have HSp := hide (fun W => rsplit_any l.length W (by omega) (by omega))
      obtain ⟨b, o, c, rfl, hc1, hc2, hbl, hL, hRt⟩ := hD.parts (by omega) hb.1 hb.2
      have hll : (l.take (splitS l.length)).length = splitS l.length := by rw [List.length_take]; omega
      have hrl : (l.drop (splitS l.length)).length = l.length - splitS l.length := by rw [List.length_drop]
      have HDL := hide (hL c (by omega) (by omega))
      have HDR := hide (hRt (c - splitS l.length) (by omega) (by omega))
      have hnI : ¬ (l.length : Int) = 1 := by omega
      have hk1 : splitS l.length ≤ l.length := by omega
      have hk2 : splitS l.length ≤ c := by omega
      have hk3 : ¬ l.length = splitS l.length := by omega
      have hk4 : ¬ c = splitS l.length := by omega
      unfold maxLen at hc2
      by_cases hk : i < splitS l.length
      · have HQ := hide (proveS_left l i (by omega) hk)
        have HPL := hide (prove_le l.length (l.take (splitS l.length)) i (by omega))
        have hple : (proveS (l.take (splitS l.length)) i).length ≤ 1000 := by have := unhide HPL; omega
        have HW := hide (fun W (hE : Ext w W) => ih (l.take (splitS l.length)) i (.slice (some ⟨b, o, none⟩) (splitS l.length) c) W (by omega) (by omega) (by omega) ((unhide HDL).ext hE))
        obtain ⟨ro, hro⟩ : ∃ r, rootS (l.drop (splitS l.length)) = r := ⟨_, rfl⟩
        have HRt := hide (fun W (hE : Ext w W) => rroot_any (l.drop (splitS l.length)).length (l.drop (splitS l.length)) (.slice (some ⟨b, o + splitS l.length * 16, none⟩) (l.length - splitS l.length) (c - splitS l.length)) W (Nat.le_refl _) (by omega) ((unhide HDR).ext hE))
        rw [hro] at HRt HQ
        have HL16 := hide (show ro.length = 16 from by rw [← hro]; exact rootS_length _)
        have hkI : (i : Int) < ((splitS l.length : Nat) : Int) := by omega
        obtain ⟨q, hq⟩ : ∃ q, proveS l i = q := ⟨_, rfl⟩
        obtain ⟨q1, hq1⟩ : ∃ q, proveS (l.take (splitS l.length)) i = q := ⟨_, rfl⟩
        rw [hq, hq1] at HQ
        rw [hq1] at HW hple
        rw [hq]
        have HLQ := hide (show q.length = q1.length + 1 from by rw [unhide HQ, List.length_append]; rfl)
        clear hD ih hL hRt hro hq hq1
        go_enter Tryz.func44, Tryz.ntmps44
        go_wp2_with (first
          | (go_at_call 74; refine (unhide HSp _).mono ?_; rintro e wz ⟨rfl, rfl⟩)
          | (go_at_call 44; refine (unhide HW _ (Ext.refl _)).mono ?_; rintro e w1 ⟨A1, c1, rfl, hG⟩; have H1 := hide hG; clear hG)
          | (go_at_call 37; refine (unhide HRt _ (unhide H1).ext).mono ?_; rintro e w3 ⟨rfl, hE3⟩; have H3 := hide hE3; clear hE3)
          | (refine wpList_build1 (t := 30) (x := .tmp 40) rfl digs_row (by omega) rfl rfl (by simpa using unhide HL16) ?_)
          | (at_builtin; refine wpList_app rfl rfl digs_row rfl ((unhide H1).to ((unhide H3).alloc _)).own rfl (Reads.newD _ _ _ (unhide HL16) rfl) (AllOne.u8 ro) (by omega) ((unhide H1).to ((unhide H3).alloc _)).room ?_; intro A' c' w4 ho hc4 hv; have H4 := hide ((unhide H1).step (unhide HL16) ((unhide H3).alloc _) hc4 ho); clear ho hc4 hv))
        go_ret2
        exact ⟨A', c', ret_sl (unhide HLQ).symm, by rw [unhide HLQ, unhide HQ]; exact unhide H4⟩
      · have HQ := hide (proveS_right l i (by omega) hk)
        have HPL := hide (prove_le l.length (l.drop (splitS l.length)) (i - splitS l.length) (by omega))
        have hple : (proveS (l.drop (splitS l.length)) (i - splitS l.length)).length ≤ 1000 := by have := unhide HPL; omega
        have HW := hide (fun W (hE : Ext w W) => ih (l.drop (splitS l.length)) (i - splitS l.length) (.slice (some ⟨b, o + splitS l.length * 16, none⟩) (l.length - splitS l.length) (c - splitS l.length)) W (by omega) (by omega) (by omega) ((unhide HDR).ext hE))
        obtain ⟨ro, hro⟩ : ∃ r, rootS (l.take (splitS l.length)) = r := ⟨_, rfl⟩
        have HRt := hide (fun W (hE : Ext w W) => rroot_any (l.take (splitS l.length)).length (l.take (splitS l.length)) (.slice (some ⟨b, o, none⟩) (splitS l.length) c) W (Nat.le_refl _) (by omega) ((unhide HDL).ext hE))
        rw [hro] at HRt HQ
        have HL16 := hide (show ro.length = 16 from by rw [← hro]; exact rootS_length _)
        have hkI : ¬ (i : Int) < ((splitS l.length : Nat) : Int) := by omega
        have eki : ((i - splitS l.length : Nat) : Int) = (i : Int) - ((splitS l.length : Nat) : Int) := by omega
        rw [eki] at HW
        obtain ⟨q, hq⟩ : ∃ q, proveS l i = q := ⟨_, rfl⟩
        obtain ⟨q1, hq1⟩ : ∃ q, proveS (l.drop (splitS l.length)) (i - splitS l.length) = q := ⟨_, rfl⟩
        rw [hq, hq1] at HQ
        rw [hq1] at HW hple
        rw [hq]
        have HLQ := hide (show q.length = q1.length + 1 from by rw [unhide HQ, List.length_append]; rfl)
        clear hD ih hL hRt hro hq hq1 eki
        go_enter Tryz.func44, Tryz.ntmps44
        go_wp2_with (first
          | (go_at_call 74; refine (unhide HSp _).mono ?_; rintro e wz ⟨rfl, rfl⟩)
          | (go_at_call 44; refine (unhide HW _ (Ext.refl _)).mono ?_; rintro e w1 ⟨A1, c1, rfl, hG⟩; have H1 := hide hG; clear hG)
          | (go_at_call 37; refine (unhide HRt _ (unhide H1).ext).mono ?_; rintro e w3 ⟨rfl, hE3⟩; have H3 := hide hE3; clear hE3)
          | (refine wpList_build1 (t := 30) (x := .tmp 57) rfl digs_row (by omega) rfl rfl (by simpa using unhide HL16) ?_)
          | (at_builtin; refine wpList_app rfl rfl digs_row rfl ((unhide H1).to ((unhide H3).alloc _)).own rfl (Reads.newD _ _ _ (unhide HL16) rfl) (AllOne.u8 ro) (by omega) ((unhide H1).to ((unhide H3).alloc _)).room ?_; intro A' c' w4 ho hc4 hv; have H4 := hide ((unhide H1).step (unhide HL16) ((unhide H3).alloc _) hc4 ho); clear ho hc4 hv))
        go_ret2
        exact ⟨A', c', ret_sl (unhide HLQ).symm, by rw [unhide HLQ, unhide HQ]; exact unhide H4⟩
end Go.Proofs.YtplkplegjoabgaaGreatDoor

namespace Go.Proofs.YtplkplegjoabgaaGreatDoor
open Go.RowKit
set_option maxRecDepth 100000 in
set_option maxHeartbeats 4000000 in
theorem rsign_any (seed : List UInt8) (index : Int) (m : List UInt8) (w : World) (hv : seed.length = 16) (hm : m.length = 16) (h1 : -9223372036854775808 ≤ index) (h2 : index < 9223372036854775808) :
    Calls Tryz.prog 45 #[.agg (seed.map u8v).toArray, .int .i64 index, .agg (m.map u8v).toArray] w fun e w' => ∃ A c, e = .returned (.slice A 68 c) ∧ GD w w.heap.size (.slice A 68 c) 68 (signS seed index m 68) w' := by
  have HDg := hide (fun (W : World) => rdigits_any m W hm)
  have HS := hide (fun k (hk : k < 68) (W : World) => rstart_any k seed index W hv (by omega) h1 h2)
  have HA := hide (fun k (hk : k < 68) (W : World) => radv_any k (digC m k) (startS seed index k) W (startS_length _ _ _) (by omega) (by have := digC_le m k; omega))
  have HL := hide (signAt_length seed index m)
  have HT := hide (signS_step seed index m)
  have HG := hide (fun k (hk : k < 68) => icells_get (digC m) hk)
  have HQ := hide (fun k => show advS k (startS seed index k) (digC m k) = signAt seed index m k from rfl)
  obtain ⟨arr, harr⟩ : ∃ r, (seed.map u8v).toArray = r := ⟨_, rfl⟩
  obtain ⟨marr, hmarr⟩ : ∃ r, (m.map u8v).toArray = r := ⟨_, rfl⟩
  rw [harr] at HS ⊢
  rw [hmarr] at HDg ⊢
  have hasz : arr.size = 16 := by rw [← harr]; simp; omega
  have hmsz : marr.size = 16 := by rw [← hmarr]; simp; omega
  clear harr hmarr hv hm
  go_enter Tryz.func45, Tryz.ntmps45
  go_wp2_with (refine wpList_loadB (ty := 23) (t := 23) (x := .tmp 5) rfl rfl digest_wide rfl (Blk.new' _ _ _ (by simp)) hmsz ?_)
  refine (unhide HDg _).mono ?_
  rintro e w1 ⟨A0, c0, rfl, hr1, hE1⟩
  have H1 := hide (show S3 w arr (.slice A0 68 c0) m w1 from ⟨(((Ext.refl w).alloc _).alloc _).trans hE1, ((Blk.new w 23 arr).alloc _).ext hE1, hr1⟩)
  have hol := hr1.own_lt (by omega) (by omega)
  obtain ⟨b0, o0, cc, u, hv0, _⟩ := hr1.at1 (k := 0) (by omega)
  cases hv0
  have HOL := hide hol
  clear hr1 hE1 hol
  go_wp2_with fail
  go_loopw [8, 9] (fun b i wr => ∃ (k : Nat) (A : Option Addr) (c : Nat), k ≤ 68 ∧ i = .int .i64 k ∧ b = .slice A k c ∧ Hid (GD w w1.heap.size (.slice A k c) k (signS seed index m k) wr ∧ S3 w arr (.slice (some ⟨b0, o0, none⟩) 68 c0) m wr)) (fun _ i _ => 68 - (intOf i).toNat)
  case atStart => exact ⟨0, none, 0, by omega, rfl, rfl, hide ⟨GD.nil (unhide H1).1 (unhide H1).1.size' (Nat.le_refl _), unhide H1⟩⟩
  case round =>
    obtain ⟨k, A, c, hk, rfl, rfl, HI⟩ := hrel
    by_cases hlt : k < 68
    · have HF : Hid (∀ W, S3 w arr (.slice (some ⟨b0, o0, none⟩) 68 c0) m W → W.cell? ⟨b0, o0 + k, none⟩ = some (.int .i64 ((digC m k : Nat) : Int))) := hide (fun W hW => hW.2.2.at_ (unhide HG k hlt))
      have HSk := hide (unhide HS k hlt)
      have HAk := hide (unhide HA k hlt)
      have HLk := hide (unhide HL k)
      have HTk := hide (unhide HT k)
      rw [unhide HQ k] at HAk
      generalize digC m k = dk at *
      generalize hst : ((startS seed index k).map u8v).toArray = st at *
      generalize signAt seed index m k = d at *
      have hkI : (k : Int) < 68 := by omega
      go_upto_region 6 with fail
      refine wp_region_held_drew (S := S3 w arr (.slice (some ⟨b0, o0, none⟩) 68 c0) m) (by kernel_rfl) ((unhide HI).2.ext ((Ext.refl _).drew)) (fun hHeld => ?_)
      refine wpAnyH_take (i := 0) (oi := _) (v := ?_) rfl (by kernel_rfl) (by kernel_rfl) (by kernel_rfl) (fun _ _ _ h => h) (Or.inl ⟨by rfl, fun wz hSz => ?_⟩) (by assumption) ?_
      rotate_left
      · (first | (go_simp; done) | (go_simp; with_reducible rfl) | (obtain f1 := (unhide HF) wz hSz; clear hSz; first | (go_simp; done) | (go_simp; with_reducible rfl)))
      try simp only [Act.put, List.setIfInBounds_toArray, List.set_cons_zero, List.set_cons_succ, List.getElem_toArray, List.getElem_cons_zero]
      refine wpAnyH_take (i := 1) (oi := _) (v := ?_) rfl (by kernel_rfl) (by kernel_rfl) (by kernel_rfl) (fun _ _ _ h => h) (Or.inl ⟨by rfl, fun wz hSz => ?_⟩) (by assumption) ?_
      rotate_left
      · (first | (go_simp; done) | (go_simp; with_reducible rfl) | (obtain f1 := (unhide HF) wz hSz; clear hSz; first | (go_simp; done) | (go_simp; with_reducible rfl)))
      try simp only [Act.put, List.setIfInBounds_toArray, List.set_cons_zero, List.set_cons_succ, List.getElem_toArray, List.getElem_cons_succ, List.getElem_cons_zero]
      refine wpAnyH_take (i := 2) (oi := _) (v := _) rfl (by kernel_rfl) (by kernel_rfl) (by kernel_rfl) (fun _ _ _ h => h) (ylb digest_wide rfl (by rfl) rfl hasz (fun w' hw => hw.2.1)) (by assumption) ?_
      try simp only [Act.put, List.setIfInBounds_toArray, List.set_cons_zero, List.set_cons_succ, List.getElem_toArray, List.getElem_cons_succ, List.getElem_cons_zero]
      refine wpAnyH_take (i := 3) (oi := _) (v := ?_) rfl (by kernel_rfl) (by kernel_rfl) (by kernel_rfl) (fun _ _ _ h => h) (Or.inl ⟨by rfl, fun wz hSz => ?_⟩) (by assumption) ?_
      rotate_left
      · (first | (go_simp; done) | (go_simp; with_reducible rfl) | (obtain f1 := (unhide HF) wz hSz; clear hSz; first | (go_simp; done) | (go_simp; with_reducible rfl)))
      try simp only [Act.put, List.setIfInBounds_toArray, List.set_cons_zero, List.set_cons_succ, List.getElem_toArray, List.getElem_cons_succ, List.getElem_cons_zero]
      refine wpAnyH_take (i := 4) (oi := _) (v := ?_) rfl (by kernel_rfl) (by kernel_rfl) (by kernel_rfl) (fun _ _ _ h => h) (Or.inl ⟨by rfl, fun wz hSz => ?_⟩) (by assumption) ?_
      rotate_left
      · (first | (go_simp; done) | (go_simp; with_reducible rfl) | (obtain f1 := (unhide HF) wz hSz; clear hSz; first | (go_simp; done) | (go_simp; with_reducible rfl)))
      try simp only [Act.put, List.setIfInBounds_toArray, List.set_cons_zero, List.set_cons_succ, List.getElem_toArray, List.getElem_cons_succ, List.getElem_cons_zero]
      refine wpAnyH_take (i := 6) (oi := _) (v := ?_) rfl (by kernel_rfl) (by kernel_rfl) (by kernel_rfl) (fun _ _ _ h => h) (Or.inl ⟨by rfl, fun wz hSz => ?_⟩) (by assumption) ?_
      rotate_left
      · (first | (go_simp; done) | (go_simp; with_reducible rfl) | (obtain f1 := (unhide HF) wz hSz; clear hSz; first | (go_simp; done) | (go_simp; with_reducible rfl)))
      try simp only [Act.put, List.setIfInBounds_toArray, List.set_cons_zero, List.set_cons_succ, List.getElem_toArray, List.getElem_cons_succ, List.getElem_cons_zero]
      refine wpAnyH_take (i := 7) (oi := _) (v := ?_) rfl (by kernel_rfl) (by kernel_rfl) (by kernel_rfl) (fun _ _ _ h => h) (Or.inl ⟨by rfl, fun wz hSz => ?_⟩) (by assumption) ?_
      rotate_left
      · (first | (go_simp; done) | (go_simp; with_reducible rfl) | (obtain f1 := (unhide HF) wz hSz; clear hSz; first | (go_simp; done) | (go_simp; with_reducible rfl)))
      try simp only [Act.put, List.setIfInBounds_toArray, List.set_cons_zero, List.set_cons_succ, List.getElem_toArray, List.getElem_cons_succ, List.getElem_cons_zero]
      refine wpAnyH_take (i := 8) (oi := _) (v := ?_) rfl (by kernel_rfl) (by kernel_rfl) (by kernel_rfl) (fun _ _ _ h => h) (Or.inl ⟨by rfl, fun wz hSz => ?_⟩) (by assumption) ?_
      rotate_left
      · (first | (go_simp; done) | (go_simp; with_reducible rfl) | (obtain f1 := (unhide HF) wz hSz; clear hSz; first | (go_simp; done) | (go_simp; with_reducible rfl)))
      try simp only [Act.put, List.setIfInBounds_toArray, List.set_cons_zero, List.set_cons_succ, List.getElem_toArray, List.getElem_cons_succ, List.getElem_cons_zero]
      refine wpAnyH_take (i := 9) (oi := _) (v := ?_) rfl (by kernel_rfl) (by kernel_rfl) (by kernel_rfl) (fun _ _ _ h => h) (Or.inl ⟨by rfl, fun wz hSz => ?_⟩) (by assumption) ?_
      rotate_left
      · (first | (go_simp; done) | (go_simp; with_reducible rfl) | (obtain f1 := (unhide HF) wz hSz; clear hSz; first | (go_simp; done) | (go_simp; with_reducible rfl)))
      try simp only [Act.put, List.setIfInBounds_toArray, List.set_cons_zero, List.set_cons_succ, List.getElem_toArray, List.getElem_cons_succ, List.getElem_cons_zero]
      refine wpAnyH_ready (rs := [5]) (by kernel_rfl) (by simp) (AllReadyH.cons (o := _) rfl (fun K hK => ?_) AllReadyH.nil)
      try go_simp
      (refine (unhide HSk _).mono ?_; rintro e w2 ⟨rfl, hE2⟩; have hS := hHeld.ext hE2; have H2 := hide (((Ext.refl wr).drew).trans hE2); clear hHeld hE2)
      refine hK.out _ _ ?_ (fun hHeld => ?_)
      · exact hS
      clear hK K
      try simp only [Act.put, List.setIfInBounds_toArray, List.set_cons_zero, List.set_cons_succ, List.getElem_toArray, List.getElem_cons_succ, List.getElem_cons_zero]
      refine wpAnyH_ready (rs := [10]) (by kernel_rfl) (by simp) (AllReadyH.cons (o := _) rfl (fun K hK => ?_) AllReadyH.nil)
      try go_simp
      (refine (unhide HAk _).mono ?_; rintro e w3 ⟨rfl, hE3⟩; have hS := hHeld.ext hE3; have H3 := hide ((unhide H2).trans hE3); clear hHeld hE3 H2)
      refine hK.out _ _ ?_ (fun hHeld => ?_)
      · exact hS
      clear hK K
      try simp only [Act.put, List.setIfInBounds_toArray, List.set_cons_zero, List.set_cons_succ, List.getElem_toArray, List.getElem_cons_succ, List.getElem_cons_zero]
      refine wpAnyH_ready (rs := [11]) (by kernel_rfl) (by simp) (AllReadyH.cons (o := _) rfl (fun K hK => ?_) AllReadyH.nil)
      (rw [if_pos (by rfl)]; refine wp_build1 (t := 30) (x := .tmp 26) digs_row (by omega) rfl rfl (by simpa using unhide HLk) ?_; have hS := hHeld.ext ((Ext.refl w3).alloc (.cells (d.map u8v).toArray 23)); clear hHeld)
      refine hK.out _ _ ?_ (fun hHeld => ?_)
      · exact hS
      clear hK K
      try simp only [Act.put, List.setIfInBounds_toArray, List.set_cons_zero, List.set_cons_succ, List.getElem_toArray, List.getElem_cons_succ, List.getElem_cons_zero]
      refine wpAnyH_ready (rs := [12]) (by kernel_rfl) (by simp) (AllReadyH.cons (o := _) rfl (fun K hK => ?_) AllReadyH.nil)
      (refine step_app rfl rfl digs_row rfl ((unhide HI).1.to ((unhide H3).alloc _)).own rfl (Reads.newD _ _ _ (unhide HLk) rfl) (AllOne.u8 d) (by omega) ((unhide HI).1.to ((unhide H3).alloc _)).room ?_; intro A' c' w4 ho hc4 hv; have hS := hHeld.chg (B := w1.heap.size) hc4 (fun j hj => ((unhide HI).1.own.lt j hj).1) (unhide H1).2.1.lt (unhide HOL); have H4 := hide ((unhide HI).1.step (unhide HLk) ((unhide H3).alloc _) hc4 ho); clear ho hc4 hv hHeld)
      refine hK.out _ _ ?_ (fun hHeld => ?_)
      · exact hS
      clear hK K
      try simp only [Act.put, List.setIfInBounds_toArray, List.set_cons_zero, List.set_cons_succ, List.getElem_toArray, List.getElem_cons_succ, List.getElem_cons_zero]
      refine wpAnyH_take (i := 13) (oi := _) (v := ?_) rfl (by kernel_rfl) (by kernel_rfl) (by kernel_rfl) (fun _ _ _ h => h) (Or.inl ⟨by rfl, fun wz hSz => ?_⟩) (by assumption) ?_
      rotate_left
      · (first | (go_simp; done) | (go_simp; with_reducible rfl) | (obtain f1 := (unhide HF) wz hSz; clear hSz; first | (go_simp; done) | (go_simp; with_reducible rfl)))
      try simp only [Act.put, List.setIfInBounds_toArray, List.set_cons_zero, List.set_cons_succ, List.getElem_toArray, List.getElem_cons_succ, List.getElem_cons_zero]
      refine wpAnyH_done (by kernel_rfl) ?_ _
      have H5 := hide hHeld
      clear hHeld
      go_wp2
      go_roundw
      case rel => exact ⟨k + 1, A', c', by omega, by go_num, rfl, hide ⟨by rw [unhide HTk]; exact unhide H4, unhide H5⟩⟩
      case measure => simp [intOf]; omega
    · obtain rfl : k = 68 := by omega
      go_wp2
      go_ret
      exact ⟨A, c, rfl, ⟨ownsRow_base (unhide HI).1.own (unhide H1).1.size', (unhide HI).1.all, (unhide HI).1.ext, Nat.le_refl _, (unhide HI).1.ext.size'⟩⟩
end Go.Proofs.YtplkplegjoabgaaGreatDoor

namespace Go.Proofs.YtplkplegjoabgaaGreatDoor
open Go.RowKit
def ManyPost (w : World) (e : Ending) (w' : World) : Prop := ∃ n : Nat, 1 ≤ n ∧ e = .returned (.int .i64 (n : Int)) ∧ w = w'
theorem many_ok (h : Int) (ho : okH h) (w : World) : Calls Tryz.prog 19 #[.int .i64 h] w (ManyPost w) := by
  obtain ⟨k, rfl, hk⟩ := okH_cases h ho
  exact (many_yes k _ rfl hk w).mono fun e w' ⟨h1, h2⟩ => ⟨2 ^ k, Nat.one_le_two_pow, h1, h2⟩
set_option maxRecDepth 100000 in
set_option maxHeartbeats 4000000 in
theorem rtsign_arg (seed msg : List UInt8) (h index : Int) (w : World) (hh : ¬ okH h ∨ index < 0) :
    Calls Tryz.prog 20 #[.agg (seed.map u8v).toArray, .int .i64 h, .int .i64 index, .agg (msg.map u8v).toArray] w fun e w' => e = .returned (.tuple #[.agg #[.int .i64 0, .slice none 0 0, .slice none 0 0], .int .i64 1]) ∧ Ext w w' := by
  obtain ⟨arr, harr⟩ : ∃ x, (seed.map u8v).toArray = x := ⟨_, rfl⟩
  obtain ⟨mrr, hmrr⟩ : ∃ x, (msg.map u8v).toArray = x := ⟨_, rfl⟩
  rw [harr, hmrr]
  clear harr hmrr
  by_cases ho : okH h
  · have hi : index < 0 := by rcases hh with h | h; exact absurd ho h; exact h
    have HV := hide (fun W => many_ok h ho W)
    clear hh ho
    go_enter Tryz.func20, Tryz.ntmps20
    go_wp2_with (go_at_call 19; refine (unhide HV _).mono ?_; rintro e wz ⟨n, hn1, rfl, rfl⟩; have hnI : ¬ (n : Int) = 0 := by omega)
    refine bodyPost_ret (v := .tuple #[.agg #[.int .i64 0, .slice none 0 0, .slice none 0 0], .int .i64 1]) (results_two sig_wide rfl (Blk.new' _ _ _ (by simp)) rfl rfl rfl) rfl ⟨rfl, ?_⟩
    exact (((Ext.refl w).alloc _).alloc _).alloc _
  · have HV := hide (fun W => many_no h W ho)
    clear hh ho
    go_enter Tryz.func20, Tryz.ntmps20
    go_wp2_with (go_at_call 19; refine (unhide HV _).mono ?_; rintro e wz ⟨rfl, rfl⟩)
    refine bodyPost_ret (v := .tuple #[.agg #[.int .i64 0, .slice none 0 0, .slice none 0 0], .int .i64 1]) (results_two sig_wide rfl (Blk.new' _ _ _ (by simp)) rfl rfl rfl) rfl ⟨rfl, ?_⟩
    exact (((Ext.refl w).alloc _).alloc _).alloc _
set_option maxRecDepth 100000 in
set_option maxHeartbeats 4000000 in
theorem rtsign_out (seed msg : List UInt8) (h n : Nat) (hn : n = 2 ^ h) (hh : h ≤ 4) (index : Int) (w : World) (h0 : (n : Int) ≤ index) :
    Calls Tryz.prog 20 #[.agg (seed.map u8v).toArray, .int .i64 (h : Int), .int .i64 index, .agg (msg.map u8v).toArray] w fun e w' => e = .returned (.tuple #[.agg #[.int .i64 0, .slice none 0 0, .slice none 0 0], .int .i64 17]) ∧ Ext w w' := by
  have HV := hide (fun W => (fun W => many_yes h n hn hh W) W)
  have hsh : wrap64 ((2 : Int) ^ h) = (n : Int) := by rw [shl_one h hh, hn]
  have hn1 : 1 ≤ n := by subst hn; exact Nat.one_le_two_pow
  have hnI : ¬ (n : Int) = 0 := by omega
  have hnB : ((n : Int) == 0) = false := beq_eq_false_iff_ne.2 (by omega)
  have hi0 : ¬ index < 0 := by omega
  obtain ⟨arr, harr⟩ : ∃ x, (seed.map u8v).toArray = x := ⟨_, rfl⟩
  obtain ⟨mrr, hmrr⟩ : ∃ x, (msg.map u8v).toArray = x := ⟨_, rfl⟩
  rw [harr, hmrr]
  clear harr hmrr hn
  go_enter Tryz.func20, Tryz.ntmps20
  go_wp2_with (go_at_call 19; refine (unhide HV _).mono ?_; rintro e wz ⟨rfl, rfl⟩)
  refine bodyPost_ret (v := .tuple #[.agg #[.int .i64 0, .slice none 0 0, .slice none 0 0], .int .i64 17]) (results_two sig_wide rfl (Blk.new' _ _ _ (by simp)) rfl rfl rfl) rfl ⟨rfl, ?_⟩
  exact (((Ext.refl w).alloc _).alloc _).alloc _
end Go.Proofs.YtplkplegjoabgaaGreatDoor

namespace Go.Proofs.YtplkplegjoabgaaGreatDoor
open Go.RowKit
set_option maxRecDepth 100000 in
set_option maxHeartbeats 4000000 in
theorem rtsign_yes (seed msg : List UInt8) (h n : Nat) (hn : n = 2 ^ h) (hh : h ≤ 4) (i : Nat) (hi : i < n) (w : World) (hv : seed.length = 16) (hm : msg.length = 16)  :
    Calls Tryz.prog 20 #[.agg (seed.map u8v).toArray, .int .i64 (h : Int), .int .i64 (i : Int), .agg (msg.map u8v).toArray] w (SignPost w (i : Int) (signS seed (i : Int) msg 68) (proveS (leavesS seed n) i)) := by
  have hn16 : n ≤ 16 := by subst hn; exact pow_le16 h h (Nat.le_refl _) hh
  have hsh : wrap64 ((2 : Int) ^ h) = (n : Int) := by rw [shl_one h hh, hn]
  have HV := hide (fun W => (fun W => many_yes h n hn hh W) W)
  have HK := hide (fun W (hE : Ext w W) => rkeys_any seed h n hn hh W hv )
  have HP := hide (fun (A : Option Addr) (c : Nat) W (hE : Ext w W) (hD : Digs W (.slice A n c) (leavesS seed n)) => rprove_any n (leavesS seed n) i (.slice A n c) W (by rw [leavesS_length]; omega) (by rw [leavesS_length]; omega) (by rw [leavesS_length]; omega) hD)
  have HS := hide (fun W (hE : Ext w W) => rsign_any seed (i : Int) msg W  hv hm (by omega) (by omega))
  have hnI : ¬ (n : Int) = 0 := by omega
  have hnB : ((n : Int) == 0) = false := beq_eq_false_iff_ne.2 (by omega)
  have hi0 : ¬ (i : Int) < 0 := by omega
  have hi1 : ¬ (n : Int) ≤ (i : Int) := by omega
  have hi2 : (i : Int) < (n : Int) := by omega
  obtain ⟨chain, hchain⟩ : ∃ x, signS seed (i : Int) msg 68 = x := ⟨_, rfl⟩
  obtain ⟨path, hpath⟩ : ∃ x, proveS (leavesS seed n) i = x := ⟨_, rfl⟩
  rw [hchain] at HS ⊢
  rw [hpath] at HP ⊢
  obtain ⟨arr, harr⟩ : ∃ x, (seed.map u8v).toArray = x := ⟨_, rfl⟩
  obtain ⟨mrr, hmrr⟩ : ∃ x, (msg.map u8v).toArray = x := ⟨_, rfl⟩
  have HSZ := hide (show arr.size = 16 ∧ mrr.size = 16 from by rw [← harr, ← hmrr]; exact ⟨by simpa using hv, by simpa using hm⟩)
  rw [harr] at HK HS ⊢
  rw [hmrr] at HS ⊢
  have HZ := hide (show Ext w (((w.alloc (.cells arr 23)).alloc (.cells mrr 23)).alloc (.cells #[.int .i64 0, .slice none 0 0, .slice none 0 0] 32)) ∧ Blk (((w.alloc (.cells arr 23)).alloc (.cells mrr 23)).alloc (.cells #[.int .i64 0, .slice none 0 0, .slice none 0 0] 32)) w.heap.size 23 arr ∧
    Blk (((w.alloc (.cells arr 23)).alloc (.cells mrr 23)).alloc (.cells #[.int .i64 0, .slice none 0 0, .slice none 0 0] 32)) (w.heap.size + 1) 23 mrr ∧ Blk (((w.alloc (.cells arr 23)).alloc (.cells mrr 23)).alloc (.cells #[.int .i64 0, .slice none 0 0, .slice none 0 0] 32)) (w.heap.size + 1 + 1) 32 #[.int .i64 0, .slice none 0 0, .slice none 0 0]
    from ⟨(((Ext.refl w).alloc _).alloc _).alloc _, ((Blk.new w _ _).alloc _).alloc _, (Blk.new' _ _ _ (by simp)).alloc _, Blk.new' _ _ _ (by simp)⟩)
  clear hn hv hm harr hmrr hchain hpath hi
  go_enter Tryz.func20, Tryz.ntmps20
  go_upto_region 5 with (go_at_call 19; refine (unhide HV _).mono ?_; rintro e wz ⟨rfl, rfl⟩)
  generalize hW0 : (((w.alloc (.cells arr 23)).alloc (.cells mrr 23)).alloc (.cells #[.int .i64 0, .slice none 0 0, .slice none 0 0] 32)) = W0 at *
  clear hW0 hsh
  go_wp2_with (first
    | (refine wpList_loadB (ty := 23) (t := 23) (x := .tmp 4) rfl rfl digest_wide rfl (cs := arr) (unhide HZ).2.1 (unhide HSZ).1 ?_)
    | (go_at_call 38; refine (unhide HK _ (unhide HZ).1).mono ?_; rintro e w1 ⟨A1, c1, rfl, hG⟩; have H1 := hide (And.intro hG.digs hG.ext); clear hG)
    | (go_at_call 44; refine (unhide HP A1 c1 _ ((unhide HZ).1.trans (unhide H1).2) (unhide H1).1).mono ?_; rintro e w2 ⟨A2, c2, rfl, hG⟩; have HO2 := hide (fun k (hk : (Value.slice A2 path.length c2).ownBlock = some k) => show w.heap.size + 1 + 1 < k from by have := (hG.own.lt k hk).1; have := (unhide HZ).2.2.2.lt; have := (unhide H1).2.size'; omega); have H2 := hide (And.intro hG.digs ((unhide H1).2.trans hG.ext)); clear hG)
    | (refine wpList_loadB (ty := 23) (t := 23) (x := .tmp 4) rfl rfl digest_wide rfl (cs := arr) ((unhide HZ).2.1.ext (unhide H2).2) (unhide HSZ).1 ?_)
    | (refine wpList_loadB (ty := 23) (t := 23) (x := .tmp 7) rfl rfl digest_wide rfl (cs := mrr) ((unhide HZ).2.2.1.ext (unhide H2).2) (unhide HSZ).2 ?_)
    | (go_at_call 45; refine (unhide HS _ ((unhide HZ).1.trans (unhide H2).2)).mono ?_; rintro e w3 ⟨A3, c3, rfl, hG⟩; have HO3 := hide (fun k (hk : (Value.slice A3 68 c3).ownBlock = some k) => show w.heap.size + 1 + 1 < k from by have := (hG.own.lt k hk).1; have := (unhide HZ).2.2.2.lt; have := (unhide H2).2.size'; omega); have H3 := hide (And.intro hG.digs (And.intro ((unhide H2).1.ext hG.ext) ((unhide H2).2.trans hG.ext))); obtain ⟨q0, q1, q2, qf, ql⟩ := ((unhide HZ).2.2.2.ext (unhide H3).2.2).cells3; clear hG))
  refine bodyPost_ret (v := .tuple #[.agg #[.int .i64 (i : Int), .slice A3 68 c3, .slice A2 path.length c2], .int .i64 0]) (results_two sig_wide rfl ((((unhide HZ).2.2.2.ext (unhide H3).2.2).set_ 0 _).set_ 1 _ |>.set_ 2 _) rfl rfl rfl) rfl ?_
  have hc : Chg (fun k => k = w.heap.size + 1 + 1) w3 (((w3.setCell ⟨w.heap.size + 1 + 1, 0, none⟩ (.int .i64 (i : Int))).setCell ⟨w.heap.size + 1 + 1, 1, none⟩ (.slice A3 68 c3)).setCell ⟨w.heap.size + 1 + 1, 2, none⟩ (.slice A2 path.length c2)) := (((Chg.refl (fun k => k = w.heap.size + 1 + 1) w3).setCell (p := ⟨w.heap.size + 1 + 1, 0, none⟩) (.inl rfl) _).setCell (p := ⟨w.heap.size + 1 + 1, 1, none⟩) (.inl rfl) _).setCell (p := ⟨w.heap.size + 1 + 1, 2, none⟩) (.inl rfl) _
  refine ⟨_, rfl, ⟨_, _, rfl, ?_, ?_⟩, ((unhide HZ).1.trans (unhide H3).2.2).trans' hc (fun _ _ h => h) (fun i hi e => by omega), ⟨_, _, _, rfl, fun k hk => by have := unhide HO3 k hk; omega, fun k hk => by have := unhide HO2 k hk; omega⟩⟩
  · exact (unhide H3).1.chg hc (fun k hk e => by have := unhide HO3 k hk; omega)
  · exact (unhide H3).2.1.chg hc (fun k hk e => by have := unhide HO2 k hk; omega)
end Go.Proofs.YtplkplegjoabgaaGreatDoor

namespace Go.Proofs.YtplkplegjoabgaaGreatDoor.Pv
open Go.RowKit
set_option maxRecDepth 100000 in
theorem rtsign_spec : SpecOk Tryz.prog ShaMem 20 (funSpec true signG) := by
  refine funSpec_ok (call_enters Tryz.func20 (by kernel_rfl) rfl) (fun xs p r hg hp w ok0 vs hI hv => ?_)
  unfold signG at hg
  split at hg
  · rename_i sd h i m
    cases hg
    match vs, hv with
    | [v1, v2, v3, v4], ⟨k1, k2, k3, k4, _⟩ =>
      obtain ⟨l1, rfl⟩ := rv_dig16 k1
      obtain rfl := k2.lit_inv
      obtain rfl := k3.lit_inv
      obtain ⟨l4, rfl⟩ := rv_dig16 k4
      by_cases ho : okH h
      · obtain ⟨k, rfl, hk⟩ := okH_cases h ho
        by_cases hi : i < 0
        · have e : sgnT sd (k : Int) i m = (⟨0, [], []⟩, 1) := by
            unfold sgnT
            rw [if_pos (.inr hi)]
          rw [e]
          refine (rtsign_arg sd m _ i w (.inr hi)).mono ?_
          rintro e w' ⟨rfl, hE⟩
          exact ⟨_, rfl, hE, rv_pair sigPC_nil⟩
        · obtain ⟨j, rfl⟩ : ∃ j : Nat, i = (j : Int) := ⟨i.toNat, by omega⟩
          by_cases hj : j < 2 ^ k
          · have e : sgnT sd (k : Int) (j : Int) m = (⟨(j : Int), signS sd (j : Int) m 68, proveS (leavesS sd (2 ^ k)) j⟩, 0) := by
              unfold sgnT
              rw [if_neg (by omega)]
              simp only [Int.toNat_natCast]
              rw [if_pos hj]
            rw [e]
            refine (rtsign_yes sd m k _ rfl hk j hj w l1 l4).mono ?_
            rintro e w' ⟨v, rfl, ⟨cv, pv, rfl, d1, d2⟩, hE, ⟨i', cv', pv', q, n1, n2⟩⟩
            cases q
            exact ⟨_, rfl, hE, rv_pair (sigPC_rl d1 d2 (fun b hb => .inr (n1 b hb)) (fun b hb => .inr (n2 b hb)))⟩
          · have e : sgnT sd (k : Int) (j : Int) m = (⟨0, [], []⟩, 17) := by
              unfold sgnT
              rw [if_neg (by omega)]
              simp only [Int.toNat_natCast]
              rw [if_neg hj]
            rw [e]
            refine (rtsign_out sd m k _ rfl hk j w (by omega)).mono ?_
            rintro e w' ⟨rfl, hE⟩
            exact ⟨_, rfl, hE, rv_pair sigPC_nil⟩
      · have e : sgnT sd h i m = (⟨0, [], []⟩, 1) := by
          unfold sgnT
          rw [if_pos (.inl ho)]
        rw [e]
        refine (rtsign_arg sd m h i w (.inl ho)).mono ?_
        rintro e w' ⟨rfl, hE⟩
        exact ⟨_, rfl, hE, rv_pair sigPC_nil⟩
  · cases hg
end Go.Proofs.YtplkplegjoabgaaGreatDoor.Pv

namespace Go.Proofs.YtplkplegjoabgaaGreatDoor.Pv
open Go.ChangeShapes Go.WideShapes Go.ChangeAt Go.RowKit Go.Joins Go.Deep
set_option maxRecDepth 100000 in
theorem open_u8b {H : Type} {enc : TypeId × Value → H} {v : Value} {d : DataW H} {p : List MemPlace} {W : World} {base : Nat} (hv : Value.okWide Tryz.prog W .any base 5 v) (h : DataW.Trod enc Tryz.prog W 0 (fun _ => true) true 5 v d p) : ∃ n : Nat, n ≤ 255 ∧ v = .int .u8 (n : Int) := by
  obtain ⟨z, rfl, _, _, hz⟩ := open_int Tryz.underlying5 hv h
  have hb : 0 ≤ z ∧ z ≤ 255 := by
    simp [Lit.wf, IntKind.min, IntKind.max, IntKind.signed, IntKind.bits] at hz
    omega
  obtain ⟨n, rfl⟩ : ∃ n : Nat, z = (n : Int) := ⟨z.toNat, by omega⟩
  exact ⟨n, by omega, rfl⟩
end Go.Proofs.YtplkplegjoabgaaGreatDoor.Pv

namespace Go.Proofs.YtplkplegjoabgaaGreatDoor.Pv
open Go.RowKit
def mnSt (h k : Nat) : St := ⟨[(0, none, pvI h), (3, none, pvI ((2 ^ k : Nat) : Int)), (4, none, pvI k)], []⟩
set_option maxRecDepth 100000 in
theorem many_fun (h : Nat) (hh : h ≤ 4) : FunOk Tryz.prog ShaMem 19 true [pvI h] (pvI ((2 ^ h : Nat) : Int)) := by
  have M := noM (I := ShaMem)
  refine funOk_of Tryz.func19 rfl rfl sha_ext (fun A hS hn hI => ?_)
  refine tri_reg M hI hn (outs := ?_) (s' := ?_) ?_ ?_ ?_ ?_
  rotate_left 2
  · rfl
  · kernel_rfl
  · simp
  refine tri_seq ?_
  refine tri_reg M hI hn (outs := ?_) (s' := ?_) ?_ ?_ ?_ ?_
  rotate_left 2
  · rfl
  · kernel_rfl
  · simp
  refine tri_cond (b := ?_) ?_ (fun hc => ?_) (fun hc => ?_)
  rotate_left 1
  · rfl
  · have hc2 : (bif decide ((h : Int) < 0) then true else decide ((h : Int) > 4)) = true := hc
    rw [decide_eq_false (by omega), decide_eq_false (by omega)] at hc2
    cases hc2
  refine tri_skip ?_
  change Tri _ _ _ _ _
  refine tri_reg M hI hn (outs := ?_) (s' := ?_) ?_ ?_ ?_ ?_
  rotate_left 2
  · rfl
  · kernel_rfl
  · simp
  refine tri_seq ?_
  refine tri_reg M hI hn (outs := ?_) (s' := ?_) ?_ ?_ ?_ ?_
  rotate_left 2
  · rfl
  · kernel_rfl
  · simp
  refine tri_block ?_
  refine tri_conv (s' := mnSt h 0) (fun a w hg => (hg.reset (kT := [0, 3, 4]) (kO := []) (by rfl) (by simp)).same ?_ ?_) ?_
  · exact rest9 rfl
  · exact .nil
  refine tri_loop h (fun k t => t = mnSt h k) 0 rfl (by omega) (fun k t hJ hk => ?_)
  subst hJ
  refine tri_seq ?_
  refine tri_reg M hI hn (outs := ?_) (s' := ?_) ?_ ?_ ?_ ?_
  rotate_left 2
  · rfl
  · kernel_rfl
  · simp
  refine tri_cond (b := ?_) ?_ (fun hc => ?_) (fun hc => ?_)
  rotate_left 1
  · rfl
  · have hk2 : k < h := by simpa using hc
    refine tri_skip ?_
    change Tri _ _ _ _ _
    refine tri_seq ?_
    refine tri_block ?_
    refine tri_region M hI hn (outs := ?_) (s' := ?_) ?_ ?_ ?_ ?_
    rotate_left 2
    · rfl
    · kernel_rfl
    · simp
    change Tri _ _ _ _ _
    refine tri_region M hI hn (outs := ?_) (s' := ?_) ?_ ?_ ?_ ?_
    rotate_left 2
    · rfl
    · kernel_rfl
    · simp
    intro a w hg
    refine ⟨k + 1, _, by omega, by omega, rfl, (hg.reset (kT := [0, 3, 4]) (kO := []) (by rfl) (by simp)).same ?_ ?_⟩
    · have h16 : 2 ^ k ≤ 2 ^ 4 := Nat.pow_le_pow_right (by omega) (by omega)
      refine .cons rfl (.cons ?_ (.cons (by rw [wrap_nat k (by omega)]) .nil))
      rw [show IntKind.i64.wrap (2 * ((2 ^ k : Nat) : Int)) = ((2 ^ (k + 1) : Nat) : Int) from by rw [IntKind.wrap_i64, Nat.pow_succ]; omega]
    · exact .nil
  · have hkk : k = h := by
      have : ¬ k < h := by simpa using hc
      omega
    subst hkk
    refine tri_exit ?_
    change Tri _ _ _ _ _
    refine tri_reg M hI hn (outs := ?_) (s' := ?_) ?_ ?_ ?_ ?_
    rotate_left 2
    · rfl
    · kernel_rfl
    · simp
    refine tri_ret (fun a w hg => ⟨.inr rfl, _, ?_, hg⟩)
    refine retTo_cold (out := ?_) ?_ ?_ ?_ ?_ ?_
    rotate_left 1
    · rfl
    · simp
    · rfl
    · rfl
    rfl
def manyG : List PV → Option (Prop × PV)
  | [.w (.one (.lit (.int .i64 h)))] => some (0 ≤ h ∧ h ≤ 4, pvI ((2 ^ h.toNat : Nat) : Int))
  | _ => none
theorem many_spec : SpecOk Tryz.prog ShaMem 19 (funSpec true manyG) := by
  refine funSpec_ok (call_enters Tryz.func19 (by kernel_rfl) rfl) (fun xs p r hg hp => ?_)
  unfold manyG at hg
  split at hg
  · rename_i h
    cases hg
    obtain ⟨k, rfl⟩ : ∃ k : Nat, h = (k : Int) := ⟨h.toNat, by omega⟩
    rw [Int.toNat_natCast]
    exact many_fun k (by omega)
  · cases hg
def fuPC (b : List (List Int)) : List PC := [.sl 1 b.length (bankF b)]
def fu9St (b : List (List Int)) (k : Nat) : St := ⟨[(2, none, pv1 (.pt 0 0 0)), (3, none, pv1 (.pt 1 0 0)), (5, none, pvI k)], [(0, none, 0, .box 48 (fuPC b)), (1, none, 0, .box 48 (fuPC b))]⟩
def fu9S2 (b : List (List Int)) (k j : Nat) : St := ⟨(6, none, pvI j) :: (fu9St b k).t, (fu9St b k).o⟩
set_option maxRecDepth 100000 in
theorem fuses9_fun (b : List (List Int)) (hb : b.length ≤ 1000) (hb2 : ∀ l ∈ b, l.length ≤ 100000) : FunOk Tryz.prog ShaMem 47 true [.w (.agg (fuPC b)), .w (.agg (fuPC b))] (pvB true) := by
  have M := noM (I := ShaMem)
  refine funOk_of Tryz.func47 rfl rfl sha_ext (fun A hS hn hI => ?_)
  refine tri_reg M hI hn (outs := ?_) (s' := ?_) ?_ ?_ ?_ ?_
  rotate_left 2
  · rfl
  · kernel_rfl
  · simp
  refine tri_seq ?_
  refine tri_reg M hI hn (outs := ?_) (s' := ?_) ?_ ?_ ?_ ?_
  rotate_left 2
  · rfl
  · kernel_rfl
  · simp
  refine tri_cond (b := ?_) ?_ (fun hc => ?_) (fun hc => ?_)
  rotate_left 1
  · rfl
  · have hc2 : ((b.length : Int) != (b.length : Int)) = true := hc
    simp at hc2
  refine tri_skip ?_
  change Tri _ _ _ _ _
  refine tri_seq ?_
  refine tri_reg M hI hn (outs := ?_) (s' := ?_) ?_ ?_ ?_ ?_
  rotate_left 2
  · rfl
  · kernel_rfl
  · simp
  refine tri_block ?_
  refine tri_conv (s' := fu9St b 0) (fun a w hg => (hg.reset (kT := [2, 3, 5]) (kO := [0, 1]) (by rfl) (by simp)).same ?_ ?_) ?_
  · exact rest9 rfl
  · exact restW rfl
  refine tri_loop b.length (fun k t => t = fu9St b k) 0 rfl (by omega) (fun k t hJ hk => ?_)
  subst hJ
  refine tri_seq ?_
  refine tri_reg M hI hn (outs := ?_) (s' := ?_) ?_ ?_ ?_ ?_
  rotate_left 2
  · rfl
  · kernel_rfl
  · simp
  refine tri_cond (b := ?_) ?_ (fun hc => ?_) (fun hc => ?_)
  rotate_left 1
  · rfl
  · have hk2 : k < b.length := by simpa using hc
    refine tri_skip ?_
    change Tri _ _ _ _ _
    refine tri_seq ?_
    refine tri_block ?_
    refine tri_seq ?_
    have hlk : (b.getD k []).length ≤ 100000 := by
      rw [List.getD_eq_getElem?_getD, List.getElem?_eq_getElem hk2]
      exact hb2 _ (List.getElem_mem hk2)
    refine tri_reg M hI hn (outs := ?_) (s' := ?_) ?_ ?_ ?_ ?_
    rotate_left 2
    · rfl
    · kernel_rfl
    · simp
      exact hk2
    refine tri_cond (b := ?_) ?_ (fun hc => ?_) (fun hc => ?_)
    rotate_left 1
    · rfl
    · have hc2 : (((b.getD (k : Int).toNat []).length : Int) != ((b.getD (k : Int).toNat []).length : Int)) = true := hc
      simp at hc2
    refine tri_skip ?_
    change Tri _ _ _ _ _
    refine tri_reg M hI hn (outs := ?_) (s' := ?_) ?_ ?_ ?_ ?_
    rotate_left 2
    · rfl
    · kernel_rfl
    · simp
    refine tri_block ?_
    refine tri_conv (s' := fu9S2 b k 0) (fun a w hg => (hg.reset (kT := [6, 2, 3, 5]) (kO := [0, 1]) (by rfl) (by simp)).same ?_ ?_) ?_
    · exact rest9 rfl
    · exact restW rfl
    refine tri_loop (b.getD k []).length (fun j t => t = fu9S2 b k j) 0 rfl (by omega) (fun j t hJ hj => ?_)
    subst hJ
    refine tri_seq ?_
    refine tri_reg M hI hn (outs := ?_) (s' := ?_) ?_ ?_ ?_ ?_
    rotate_left 2
    · rfl
    · kernel_rfl
    · simp
      exact hk2
    refine tri_cond (b := ?_) ?_ (fun hc => ?_) (fun hc => ?_)
    rotate_left 1
    · rfl
    · have hj2 : j < (b.getD k []).length := by simpa using hc
      refine tri_skip ?_
      change Tri _ _ _ _ _
      refine tri_seq ?_
      refine tri_block ?_
      refine tri_reg M hI hn (outs := ?_) (s' := ?_) ?_ ?_ ?_ ?_
      rotate_left 2
      · rfl
      · kernel_rfl
      · simp
        rw [List.getD_eq_getElem?_getD] at hj2
        exact ⟨hk2, hj2, hk2, hj2⟩
      refine tri_cond (b := ?_) ?_ (fun hc => ?_) (fun hc => ?_)
      rotate_left 1
      · rfl
      · have hc2 : ((b.getD (k : Int).toNat []).getD (j : Int).toNat 0 != (b.getD (k : Int).toNat []).getD (j : Int).toNat 0) = true := hc
        simp at hc2
      refine tri_skip ?_
      change Tri _ _ _ _ _
      refine tri_region M hI hn (outs := ?_) (s' := ?_) ?_ ?_ ?_ ?_
      rotate_left 2
      · rfl
      · kernel_rfl
      · simp
      intro a w hg
      refine ⟨j + 1, _, by omega, by omega, rfl, (hg.reset (kT := [6, 2, 3, 5]) (kO := [0, 1]) (by rfl) (by simp)).same ?_ ?_⟩
      · exact .cons (by rw [wrap_nat j (by omega)]) (rest9 rfl)
      · exact restW rfl
    · refine tri_exit ?_
      change Tri _ _ _ _ _
      refine tri_region M hI hn (outs := ?_) (s' := ?_) ?_ ?_ ?_ ?_
      rotate_left 2
      · rfl
      · kernel_rfl
      · simp
      intro a w hg
      refine ⟨k + 1, _, by omega, by omega, rfl, (hg.reset (kT := [2, 3, 5]) (kO := [0, 1]) (by rfl) (by simp)).same ?_ ?_⟩
      · exact .cons rfl (.cons rfl (.cons (by rw [wrap_nat k (by omega)]) .nil))
      · exact restW rfl
  · refine tri_exit ?_
    change Tri _ _ _ _ _
    refine tri_reg M hI hn (outs := ?_) (s' := ?_) ?_ ?_ ?_ ?_
    rotate_left 2
    · rfl
    · kernel_rfl
    · simp
    refine tri_ret (fun a w hg => ⟨.inr rfl, _, ?_, hg⟩)
    refine retTo_cold (out := ?_) ?_ ?_ ?_ ?_ ?_
    rotate_left 1
    · rfl
    · simp
    · rfl
    · rfl
    rfl
def hwEq (n m : Nat) (f g : Nat → List PC) : Prop := n = m ∧ IsBkRow n f ∧ IsBkRow m g ∧ rowBk n f = rowBk m g ∧ n ≤ 1000 ∧ ∀ l ∈ rowBk n f, l.length ≤ 100000
def fus9G : List PV → Option (Prop × PV)
  | [.w (.agg [.sl 1 n f]), .w (.agg [.sl 1 m g])] => some (hwEq n m f g, pvB true)
  | _ => none
theorem fu_row {C : Ctx} {n : Nat} {f : Nat → List PC} {v : Value} (hf : IsBkRow n f) (h : RV C (.w (.agg [.sl 1 n f])) v) : RV C (.w (.agg (fuPC (rowBk n f)))) v := by
  cases h with
  | w h => cases h with
    | agg h =>
      refine .w (.agg ?_)
      generalize Array.toList _ = xs at h ⊢
      cases h with
      | cons k1 h => cases h; cases k1 with
        | sl h1 h2 h3 => exact .cons (xs := [_]) (bankF_row hf (.sl h1 h2 h3)) .nil
theorem fus9_spec : SpecOk Tryz.prog ShaMem 47 (funSpec true fus9G) := by
  refine funSpec_ok (call_enters Tryz.func47 (by kernel_rfl) rfl) (fun xs p r hg hp w ok0 vs hI hv => ?_)
  unfold fus9G at hg
  split at hg
  · rename_i n f m g
    cases hg
    obtain ⟨rfl, h1, h2, h3, h4, h5⟩ := hp
    match vs, hv with
    | [v1, v2], ⟨k1, k2, _⟩ =>
      have q2 := fu_row h2 k2
      rw [← h3] at q2
      exact fuses9_fun (rowBk n f) (by rw [rowBk_length]; exact h4) h5 w ok0 [v1, v2] hI ⟨fu_row h1 k1, q2, trivial⟩
  · cases hg
def s9L : List (Nat × Spec) := [(47, funSpec true fus9G)]
theorem s9_ok : ∀ p ∈ s9L, SpecOk Tryz.prog ShaMem p.1 p.2 := by
  intro p hp
  simp only [s9L, List.mem_cons, List.not_mem_nil, or_false] at hp
  subst hp
  exact fus9_spec
theorem s9M : Mach Tryz.prog ShaMem (find s9L) := ⟨specs_of s9_ok, mixed_⟩
def sm9St (b : List (List Int)) : St := ⟨[(2, none, pv1 (.pt 0 0 0)), (3, none, pv1 (.pt 1 0 0)), (5, none, pvI 0)], [(0, none, 0, .box 53 (hwPC b z16s)), (1, none, 0, .box 53 (hwPC b z16s))]⟩
set_option maxRecDepth 100000 in
theorem same9_fun (b : List (List Int)) (hb : b.length ≤ 1000) (hb2 : ∀ l ∈ b, l.length ≤ 100000) : FunOk Tryz.prog ShaMem 22 true [.w (.agg (hwPC b z16s)), .w (.agg (hwPC b z16s))] (pvB true) := by
  have M := s9M
  refine funOk_of Tryz.func22 rfl rfl sha_ext (fun A hS hn hI => ?_)
  refine tri_reg M hI hn (outs := ?_) (s' := ?_) ?_ ?_ ?_ ?_
  rotate_left 2
  · rfl
  · kernel_rfl
  · simp
  refine tri_seq ?_
  refine tri_reg M hI hn (outs := ?_) (s' := ?_) ?_ ?_ ?_ ?_
  rotate_left 2
  · rfl
  · kernel_rfl
  · simp
  refine tri_cond (b := ?_) ?_ (fun hc => ?_) (fun hc => ?_)
  rotate_left 1
  · rfl
  · cases hc
  refine tri_skip ?_
  change Tri _ _ _ _ _
  refine tri_seq ?_
  refine tri_reg M hI hn (outs := ?_) (s' := ?_) ?_ ?_ ?_ ?_
  rotate_left 2
  · rfl
  · kernel_rfl
  · simp
  refine tri_block ?_
  refine tri_conv (s' := sm9St b) (fun a w hg => (hg.reset (kT := [2, 3, 5]) (kO := [0, 1]) (by rfl) (by simp)).same ?_ ?_) ?_
  · exact rest9 rfl
  · exact restW rfl
  refine tri_loop 0 (fun k t => t = sm9St b) 0 rfl (by omega) (fun k t hJ hk => ?_)
  subst hJ
  refine tri_seq ?_
  refine tri_reg M hI hn (outs := ?_) (s' := ?_) ?_ ?_ ?_ ?_
  rotate_left 2
  · rfl
  · kernel_rfl
  · simp
  refine tri_cond (b := ?_) ?_ (fun hc => ?_) (fun hc => ?_)
  rotate_left 1
  · rfl
  · cases hc
  refine tri_exit ?_
  change Tri _ _ _ _ _
  refine tri_reg M hI hn (outs := ?_) (s' := ?_) ?_ ?_ ?_ ?_
  rotate_left 2
  · rfl
  · kernel_rfl
  · simp
    exact ⟨rfl, isBkRow_bankF _ _, isBkRow_bankF _ _, rfl, hb, by rw [rowBk_bankF]; exact hb2⟩
  refine tri_ret (fun a w hg => ⟨.inr rfl, _, ?_, hg⟩)
  refine retTo_cold (out := ?_) ?_ ?_ ?_ ?_ ?_
  rotate_left 1
  · rfl
  · simp
  · rfl
  · rfl
  rfl
def sam9G : List PV → Option (Prop × PV)
  | [.w (.agg [.sl 1 n f, .lit (.slice none 0 0), .bs 16 z]), .w (.agg [.sl 1 m g, .lit (.slice none 0 0), .bs 16 z'])] => some (hwEq n m f g ∧ z = z16s ∧ z' = z16s, pvB true)
  | _ => none
theorem hw_row {C : Ctx} {n : Nat} {f : Nat → List PC} {z : List UInt8} {v : Value} (hf : IsBkRow n f) (h : RV C (.w (.agg [.sl 1 n f, .lit (.slice none 0 0), .bs 16 z])) v) : RV C (.w (.agg (hwPC (rowBk n f) z))) v := by
  obtain ⟨fv, rfl, h1, h2⟩ := hw_split h
  exact .w (.agg (hw_rl (bankF_row hf h1) h2))
theorem same9_spec : SpecOk Tryz.prog ShaMem 22 (funSpec true sam9G) := by
  refine funSpec_ok (call_enters Tryz.func22 (by kernel_rfl) rfl) (fun xs p r hg hp w ok0 vs hI hv => ?_)
  unfold sam9G at hg
  split at hg
  · rename_i n f z m g z'
    cases hg
    obtain ⟨⟨rfl, h1, h2, h3, h4, h5⟩, rfl, rfl⟩ := hp
    match vs, hv with
    | [v1, v2], ⟨k1, k2, _⟩ =>
      have q2 := hw_row h2 k2
      rw [← h3] at q2
      exact same9_fun (rowBk n f) (by rw [rowBk_length]; exact h4) h5 w ok0 [v1, v2] hI ⟨hw_row h1 k1, q2, trivial⟩
  · cases hg
end Go.Proofs.YtplkplegjoabgaaGreatDoor.Pv

namespace Go.Proofs.YtplkplegjoabgaaGreatDoor.Pv
open Go.RowKit
def keyC (i : Nat) : List Int := List.replicate (3 * i) 2 ++ List.replicate (48 - 3 * i) 0
theorem keyC_exec : ∀ n : _root_.Fin 3, ∀ i : _root_.Fin 5, i.val ≤ 2 ^ n.val → (exec [] (Prg.sign n.val) (keyC i.val) 0).1 = some (if i.val < 2 ^ n.val then (i.val, 0) else (2 ^ n.val, 17)) ∧ (exec [] (Prg.sign n.val) (keyC i.val) 0).2.1 = keyC (min (i.val + 1) (2 ^ n.val)) := by decide +kernel
theorem keyC_start : devCells [] true = keyC 0 := by decide +kernel
theorem keyC_len (i : Nat) (h : i ≤ 16) : (keyC i).length = 48 := by
  simp [keyC]
  omega
theorem keyC_run (seed m : List UInt8) (n i : Nat) (hn : n ≤ 2) (hi : i ≤ 2 ^ n) : ∃ k, runS seed m n [] (keyC i) = ⟨keyC (min (i + 1) (2 ^ n)), if i < 2 ^ n then sgnT seed n i m else (⟨0, [], []⟩, 17), true, k⟩ := by
  have h4 : 2 ^ n ≤ 2 ^ 2 := Nat.pow_le_pow_right (by omega) hn
  obtain ⟨h1, h2⟩ := keyC_exec ⟨n, by omega⟩ ⟨i, by omega⟩ hi
  dsimp only at h1 h2
  unfold runS
  rw [signI_nat n (by omega), show intB [] = [] from rfl]
  generalize exec [] (Prg.sign n) (keyC i) 0 = q at h1 h2
  obtain ⟨q1, q2, q3⟩ := q
  dsimp only at h1 h2
  subst h1 h2
  refine ⟨q3, ?_⟩
  unfold runO
  by_cases h : i < 2 ^ n
  · simp only [if_pos h]
    rfl
  · simp only [if_neg h]
    rfl
def f5L : List (Nat × Spec) := [(9, sp26San), (15, funSpec true devG), (16, funSpec false runG), (19, funSpec true manyG), (20, funSpec true signG), (21, funSpec true sig5G), (22, funSpec true sam9G)]
theorem f5_ok : ∀ p ∈ f5L, SpecOk Tryz.prog ShaMem p.1 p.2 := by
  intro p hp
  simp only [f5L, List.mem_cons, List.not_mem_nil, or_false] at hp
  rcases hp with rfl | rfl | rfl | rfl | rfl | rfl | rfl
  · exact san26_spec
  · exact dev_spec
  · exact run_spec
  · exact many_spec
  · exact rtsign_spec
  · exact same5_spec
  · exact same9_spec
theorem f5M : Mach Tryz.prog ShaMem (find f5L) := ⟨specs_of f5_ok, mixed_⟩
def f5St (seed m : List UInt8) (n Q k : Nat) : St :=
  ⟨[(3, none, pv1 (.pt 0 0 0)), (5, none, pv1 (.pt 1 0 0)), (7, none, pvB true), (8, none, pvI n), (9, none, pv1 (.pt 3001 0 0)), (10, none, pvI k)],
   [(0, none, 0, .box 23 [.bs 16 seed]), (1, none, 0, .box 23 [.bs 16 m]), (3001, none, 0, .box 53 (hwPC (bk4 (keyC (min k Q))) z16s))]⟩
def f5S2 (seed m : List UInt8) (n Q k : Nat) (x : Sig × Int) : St :=
  ⟨(11, none, pv1 (.pt 7011 0 0)) :: (12, none, pv1 (.pt 7012 0 0)) :: (13, none, pvB true) :: (15, none, pvB true) :: (f5St seed m n Q k).t,
   (7011, none, 0, .box 53 (hwPC (bk4 (keyC (min (k + 1) Q))) z16s)) :: (7012, none, 0, .box 35 (sgC x)) :: (f5St seed m n Q k).o⟩
theorem bk_small (i : Nat) (hi : i ≤ 16) : ∀ l ∈ bk4 (keyC i), l.length ≤ 100000 := by
  intro l hl
  simp only [bk4, List.mem_cons, List.not_mem_nil, or_false] at hl
  rcases hl with rfl | rfl | rfl | rfl
  · exact Nat.zero_le _
  · exact Nat.zero_le _
  · rw [keyC_len i hi]; omega
  · exact Nat.zero_le _
def f5S3 (seed m : List UInt8) (n Q k : Nat) (x : Sig) : St :=
  ⟨(16, none, pv1 (.pt 11008 0 0)) :: (f5S2 seed m n Q k (x, 0)).t, (11008, none, 0, .box 32 (sigPC x)) :: (f5S2 seed m n Q k (x, 0)).o⟩
set_option maxRecDepth 100000 in
set_option maxHeartbeats 2000000 in
theorem keys_law (seed m : List UInt8) (ht : Nat) (hh1 : ht ≤ 255) : FunOk Tryz.prog ShaMem 5 true [.w (.agg [.bs 16 seed]), lit1 (.int .u8 (ht : Int)), .w (.agg [.bs 16 m])] (pvB true) := by
  have M := f5M
  have hrb : ∀ c, (rowBk (bk4 c).length (bankF (bk4 c))).getD 2 [] = c := fun c => by rw [rowBk_bankF]; rfl
  obtain ⟨n, hnn⟩ : ∃ n, ht % 3 = n := ⟨_, rfl⟩
  have hn2 : n ≤ 2 := by omega
  have hi : i64P (n : Int) := ⟨by omega, by omega⟩
  have htn : (IntKind.i64.wrap (ht : Int)).tmod 3 = (n : Int) := by
    have e : IntKind.i64.wrap (ht : Int) = (ht : Int) := by rw [IntKind.wrap_i64]; omega
    rw [e, ← hnn]
    rfl
  have h4 : 2 ^ n ≤ 2 ^ 2 := Nat.pow_le_pow_right (by omega) hn2
  obtain ⟨Q, hQ⟩ : ∃ Q, 2 ^ n = Q := ⟨_, rfl⟩
  rw [hQ] at h4
  have hQ4 : Q ≤ 4 := h4
  clear h4
  have hQi : ((2 ^ (n : Int).toNat : Nat) : Int) = (Q : Int) := by rw [Int.toNat_natCast, hQ]
  have hw1 : IntKind.i64.wrap ((Q : Int) + 1) = ((Q + 1 : Nat) : Int) := by rw [IntKind.wrap_i64]; omega
  refine funOk_of Tryz.func5 rfl rfl sha_ext (fun A hS hn hI => ?_)
  refine tri_reg M hI hn (outs := ?_) (s' := ?_) ?_ ?_ ?_ ?_
  rotate_left 2
  · rfl
  · kernel_rfl
  · simp
  refine tri_reg M hI hn (outs := ?_) (s' := ?_) ?_ ?_ ?_ ?_
  rotate_left 2
  · rfl
  · kernel_rfl
  · simp
  refine tri_reg M hI hn (outs := ?_) (s' := ?_) ?_ ?_ ?_ ?_
  rotate_left 2
  · rfl
  · kernel_rfl
  · simp
  refine tri_reg M hI hn (outs := ?_) (s' := ?_) ?_ ?_ ?_ ?_
  rotate_left 2
  · rfl
  · kernel_rfl
  · simp
  refine tri_seq ?_
  refine tri_reg M hI hn (outs := ?_) (s' := ?_) ?_ ?_ ?_ ?_
  rotate_left 2
  · rfl
  · kernel_rfl
  · simp
  refine tri_block ?_
  refine tri_conv (s' := f5St seed m n Q 0) (fun a w hg => (hg.reset (kT := [3, 5, 7, 8, 9, 10]) (kO := [0, 1, 3001]) (by rfl) (by simp)).same ?_ ?_) ?_
  · refine .cons rfl (.cons rfl (.cons rfl (.cons ?_ (rest9 rfl))))
    show pvI ((IntKind.i64.wrap (ht : Int)).tmod 3) = _
    rw [htn]
  · refine .cons (.box rfl) (.cons (.box rfl) (.cons (.box ?_) .nil))
    show hwPC (bk4 (devCells [] true)) z16s = _
    rw [keyC_start, Nat.zero_min]
  refine tri_loop (Q + 1) (fun k t => t = f5St seed m n Q k) 0 rfl (by omega) (fun k t hJ hk => ?_)
  subst hJ
  refine tri_seq ?_
  refine tri_reg M hI hn (outs := ?_) (s' := ?_) ?_ ?_ ?_ ?_
  rotate_left 2
  · rfl
  · kernel_rfl
  · simp
    omega
  refine tri_cond (b := ?_) ?_ (fun hc => ?_) (fun hc => ?_)
  rotate_left 1
  · rfl
  · have hk2 : k < Q + 1 := by
      have hc2 : decide ((k : Int) < IntKind.i64.wrap (((2 ^ (n : Int).toNat : Nat) : Int) + 1)) = true := hc
      rw [hQi, hw1] at hc2
      have := of_decide_eq_true hc2
      omega
    obtain ⟨mk, hrun⟩ := keyC_run seed m n (min k Q) hn2 (by rw [hQ]; exact Nat.min_le_right _ _)
    have hkm : min k Q = k := Nat.min_eq_left (by omega)
    rw [hkm, hQ] at hrun
    obtain ⟨x, hx⟩ : ∃ x, (if k < Q then sgnT seed n k m else ((⟨0, [], []⟩, 17) : Sig × Int)) = x := ⟨_, rfl⟩
    rw [hx] at hrun
    refine tri_skip ?_
    change Tri _ _ _ _ _
    refine tri_seq ?_
    refine tri_block ?_
    refine tri_reg M hI hn (outs := ?_) (s' := ?_) ?_ ?_ ?_ ?_
    rotate_left 2
    · rfl
    · kernel_rfl
    · simp
      rw [hkm]
      exact ⟨rfl, keyC_len k (by omega), hi⟩
    refine tri_conv (s' := f5S2 seed m n Q k x) (fun a w hg => (hg.reset (kT := [11, 12, 13, 15, 3, 5, 7, 8, 9, 10]) (kO := [7011, 7012, 0, 1, 3001]) (by rfl) (by simp)).same ?_ ?_) ?_
    · refine .cons rfl (.cons rfl (.cons ?_ (.cons rfl (rest9 rfl))))
      show pvB (runS seed m n [] ((rowBk (bk4 (keyC (min k Q))).length (bankF (bk4 (keyC (min k Q))))).getD 2 [])).done = _
      rw [hrb, hkm, hrun]
    · refine .cons (.box ?_) (.cons (.box ?_) (restW rfl))
      · show hwPC (bk4 (runS seed m n [] ((rowBk (bk4 (keyC (min k Q))).length (bankF (bk4 (keyC (min k Q))))).getD 2 [])).cells) z16s = _
        rw [hrb, hkm, hrun]
      · show sgC (runS seed m n [] ((rowBk (bk4 (keyC (min k Q))).length (bankF (bk4 (keyC (min k Q))))).getD 2 [])).out = _
        rw [hrb, hkm, hrun]
    refine tri_seq ?_
    refine tri_reg M hI hn (outs := ?_) (s' := ?_) ?_ ?_ ?_ ?_
    rotate_left 2
    · rfl
    · kernel_rfl
    · simp
    refine tri_cond (b := ?_) ?_ (fun hc => ?_) (fun hc => ?_)
    rotate_left 1
    · rfl
    · cases hc
    refine tri_skip ?_
    change Tri _ _ _ _ _
    refine tri_seq ?_
    refine tri_reg M hI hn (outs := ?_) (s' := ?_) ?_ ?_ ?_ ?_
    rotate_left 2
    · rfl
    · kernel_rfl
    · simp
      omega
    refine tri_cond (b := ?_) ?_ (fun hc => ?_) (fun hc => ?_)
    rotate_left 1
    · rfl
    · have hkQ : k < Q := by
        have hc2 : decide ((k : Int) < ((2 ^ (n : Int).toNat : Nat) : Int)) = true := hc
        rw [hQi] at hc2
        have := of_decide_eq_true hc2
        omega
      rw [if_pos hkQ] at hx
      have hx0 : sgnT seed n k m = x := hx
      have he : x.2 = 0 := by rw [← hx0, sgnT_yes seed m n k (by omega) (by rw [hQ]; exact hkQ)]
      have hsm := sgnT_small seed m n k
      rw [hx0] at hsm
      obtain ⟨⟨ix, ch, pt⟩, er⟩ := x
      dsimp only at he hsm
      subst he
      refine tri_reg M hI hn (outs := ?_) (s' := ?_) ?_ ?_ ?_ ?_
      rotate_left 2
      · rfl
      · kernel_rfl
      · simp
      refine tri_conv (s' := f5S3 seed m n Q k ⟨ix, ch, pt⟩) (fun a w hg => (hg.reset (kT := [16, 11, 12, 13, 15, 3, 5, 7, 8, 9, 10]) (kO := [11008, 7011, 7012, 0, 1, 3001]) (by rfl) (by simp)).same ?_ ?_) ?_
      · exact rest9 rfl
      · refine .cons (.box ?_) (restW rfl)
        show sigPC (sgnT seed n k m).1 = _
        rw [hx0]
      refine tri_reg M hI hn (outs := ?_) (s' := ?_) ?_ ?_ ?_ ?_
      rotate_left 2
      · rfl
      · kernel_rfl
      · simp
        exact ⟨trivial, trivial, trivial, trivial, Nat.lt_of_le_of_lt hsm.1 (by decide), Nat.lt_of_le_of_lt hsm.2 (by decide)⟩
      refine tri_cond (b := ?_) ?_ (fun hc => ?_) (fun hc => ?_)
      rotate_left 1
      · rfl
      · have hc2 : (!(sigEqB ⟨ix, rowD ch.length (digF ch), rowD pt.length (digF pt)⟩ ⟨ix, rowD ch.length (digF ch), rowD pt.length (digF pt)⟩)) = true := hc
        simp [sigEqB] at hc2
      refine tri_skip ?_
      change Tri _ _ _ _ _
      refine tri_region M hI hn (outs := ?_) (s' := ?_) ?_ ?_ ?_ ?_
      rotate_left 2
      · rfl
      · kernel_rfl
      · simp
      change Tri _ _ _ _ _
      refine tri_region M hI hn (outs := ?_) (s' := ?_) ?_ ?_ ?_ ?_
      rotate_left 2
      · rfl
      · kernel_rfl
      · simp
      intro a w hg
      refine ⟨k + 1, _, by omega, by omega, rfl, (hg.reset (kT := [3, 5, 7, 8, 9, 10]) (kO := [0, 1, 3001]) (by rfl) (by simp)).same ?_ ?_⟩
      · refine .cons rfl (.cons rfl (.cons rfl (.cons rfl (.cons rfl (.cons (by rw [wrap_nat k (by omega)]) .nil)))))
      · exact restW rfl
    · have hkQ : ¬ k < Q := by
        have hc2 : decide ((k : Int) < ((2 ^ (n : Int).toNat : Nat) : Int)) = false := hc
        rw [hQi] at hc2
        have := of_decide_eq_false hc2
        omega
      rw [if_neg hkQ] at hx
      subst hx
      have hk1 : min (k + 1) Q = min k Q := by omega
      refine tri_reg M hI hn (outs := ?_) (s' := ?_) ?_ ?_ ?_ ?_
      rotate_left 2
      · rfl
      · kernel_rfl
      · simp
        rw [hk1]
        refine ⟨rfl, isBkRow_bankF _ _, isBkRow_bankF _ _, rfl, (by decide : (4 : Nat) ≤ 1000), ?_⟩
        rw [rowBk_bankF]
        exact bk_small (min k Q) (by omega)
      refine tri_cond (b := ?_) ?_ (fun hc => ?_) (fun hc => ?_)
      rotate_left 1
      · rfl
      · cases hc
      refine tri_skip ?_
      change Tri _ _ _ _ _
      refine tri_region M hI hn (outs := ?_) (s' := ?_) ?_ ?_ ?_ ?_
      rotate_left 2
      · rfl
      · kernel_rfl
      · simp
      change Tri _ _ _ _ _
      refine tri_region M hI hn (outs := ?_) (s' := ?_) ?_ ?_ ?_ ?_
      rotate_left 2
      · rfl
      · kernel_rfl
      · simp
      intro a w hg
      refine ⟨k + 1, _, by omega, by omega, rfl, (hg.reset (kT := [3, 5, 7, 8, 9, 10]) (kO := [0, 1, 3001]) (by rfl) (by simp)).same ?_ ?_⟩
      · refine .cons rfl (.cons rfl (.cons rfl (.cons rfl (.cons rfl (.cons (by rw [wrap_nat k (by omega)]) .nil)))))
      · exact restW rfl
  · refine tri_exit ?_
    change Tri _ _ _ _ _
    refine tri_reg M hI hn (outs := ?_) (s' := ?_) ?_ ?_ ?_ ?_
    rotate_left 2
    · rfl
    · kernel_rfl
    · simp
    refine tri_ret (fun a w hg => ⟨.inr rfl, _, ?_, hg⟩)
    refine retTo_cold (out := ?_) ?_ ?_ ?_ ?_ ?_
    rotate_left 1
    · rfl
    · simp
    · rfl
    · rfl
    rfl

