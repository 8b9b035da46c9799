
/-
  The law BoxTampered.
-/
import Derived.Test.YtoefmncdloffaaaDoorBoxJ0
namespace Go.Proofs.YtoefmncdloffaaaDoor
open Go.RowKit

theorem boxL_at (n : Int) (c : ByteArray) (l : List Value) (p : Nat) : (boxL n c l)[2 + p]? = l[p]? := by
  unfold boxL
  rw [List.getElem?_toArray, show 2 + p = p + 1 + 1 from by omega, List.getElem?_cons_succ, List.getElem?_cons_succ]
theorem boxL_setAt (n : Int) (c : ByteArray) (l : List Value) (p : Nat) (v : Value) : (boxL n c l).setIfInBounds (2 + p) v = boxL n c (l.set p v) := by
  unfold boxL
  rw [show 2 + p = p + 1 + 1 from by omega]
  simp
theorem xor_ne (x b : UInt8) (hb : b.toNat ≠ 0) : x ^^^ b ≠ x := by
  intro h
  have : x ^^^ (x ^^^ b) = x ^^^ x := by rw [h]
  rw [← UInt8.xor_assoc, UInt8.xor_self, UInt8.zero_xor] at this
  rw [this] at hb
  exact hb rfl
set_option maxRecDepth 100000 in
set_option maxHeartbeats 4000000 in
theorem tam_any (key : List UInt8) (nonce : Int) (plain : ByteArray) (pos : Nat) (by' : UInt8) (what : Nat) (w : World) (hM : ShaMem w) (hk : key.length = 16) (h1 : -9223372036854775808 ≤ nonce) (h2 : nonce < 9223372036854775808) (hpm : plain.size ≤ 9223372036854775807) (hp : pos < 65536) (hw : what < 256) :
    Calls Tryd.prog 3 #[.agg (key.map u8v).toArray, .int .i64 nonce, .string plain, .int .u16 (pos : Int), .int .u8 (by'.toNat : Int), .int .u8 (what : Int)] w fun e w' => e = .returned (.bool true) ∧ Ext w w' := by
  have HM := hide hM
  clear hM
  by_cases h3 : 300 < plain.size
  · have d1 : decide ((300 : Int) < (plain.size : Int)) = true := decide_eq_true (by omega)
    obtain ⟨arr, harr⟩ : ∃ r, (key.map u8v).toArray = r := ⟨_, rfl⟩
    rw [harr]
    clear harr
    go_enter Tryd.func3, Tryd.ntmps3
    go_wp2_with (go_at_call 12; refine (sanity6_any _ ((unhide HM).ext ((Ext.refl w).alloc _))).mono ?_; rintro e w1 ⟨rfl, hE1⟩; have H1 := hide (((Ext.refl w).alloc _).trans hE1); clear hE1)
    go_ret
    exact ⟨rfl, unhide H1⟩
  · have d1 : decide ((300 : Int) < (plain.size : Int)) = false := decide_eq_false (by omega)
    by_cases h0 : by'.toNat = 0
    · have d0 : (by'.toNat : Int) = 0 := by omega
      rw [d0]
      obtain ⟨arr, harr⟩ : ∃ r, (key.map u8v).toArray = r := ⟨_, rfl⟩
      rw [harr]
      clear harr
      go_enter Tryd.func3, Tryd.ntmps3
      go_wp2_with (go_at_call 12; refine (sanity6_any _ ((unhide HM).ext ((Ext.refl w).alloc _))).mono ?_; rintro e w1 ⟨rfl, hE1⟩; have H1 := hide (((Ext.refl w).alloc _).trans hE1); clear hE1)
      go_ret
      exact ⟨rfl, unhide H1⟩
    · rcases (by omega : what % 3 = 0 ∨ what % 3 = 1 ∨ what % 3 = 2) with hr | hr | hr
      · exact tam0_any key nonce plain pos by' what w (unhide HM) hk h1 h2 hp hw hr h3 h0
      · exact tam1_any key nonce plain pos by' what w (unhide HM) hk h1 h2 hp hw hr h3 h0
      have d0 : ((by'.toNat : Int) == 0) = false := by simp; omega
      have d0' : ¬ (by'.toNat : Int) = 0 := by omega
      obtain ⟨cs, hcs⟩ : ∃ c, strOf (applyS key nonce plain.data.toList) = c := ⟨_, rfl⟩
      have hcz : cs.size = plain.size := by rw [← hcs, strOf_size, applyS_length]; exact Array.length_toList
      have HSeal := hide (fun W hW => seal_any key nonce plain W hW hk h1 h2 (by omega))
      obtain ⟨tg, htg⟩ : ∃ l, tagS key nonce (applyS key nonce plain.data.toList) = l := ⟨_, rfl⟩
      have htl : tg.length = 16 := by rw [← htg]; exact tagS_length _ _ _
      have HTC := hide (show tagS key nonce cs.data.toList = tg from by rw [← hcs, strOf_list]; exact htg)
      rw [htg, hcs] at HSeal
      obtain ⟨tv, htv⟩ : ∃ l, tg.map u8v = l := ⟨_, rfl⟩
      have HTV := hide (show tv.length = 16 ∧ (boxL nonce cs tv).all (·.oneCell') = true from by rw [← htv]; exact ⟨by simpa using htl, boxL_one⟩)
      rw [boxV_eq, htv] at HSeal
      obtain ⟨arr, harr⟩ : ∃ r, (key.map u8v).toArray = r := ⟨_, rfl⟩
      have hasz : arr.size = 16 := by rw [← harr]; simpa using hk
      rw [harr] at HSeal ⊢
      have HTG := hide (And.intro htg (And.intro htl htv))
      have HA := hide harr
      clear hcs htg htl htv harr
      go_enter Tryd.func3, Tryd.ntmps3
      go_upto_region 6 with (first
        | (go_at_call 12; refine (sanity6_any _ ((unhide HM).ext ((Ext.refl w).alloc _))).mono ?_; rintro e w1 ⟨rfl, hE1⟩; have H1 := hide (And.intro (((Ext.refl w).alloc _).trans hE1) ((Blk.new w 23 arr).ext hE1)); clear hE1)
        | (refine wpList_loadB (ty := 23) (t := 23) (x := .tmp 6) rfl rfl digest_wide rfl (cs := arr) (unhide H1).2 hasz ?_)
        | (go_at_call 13; refine (unhide HSeal _ ((unhide HM).ext (unhide H1).1)).mono ?_; rintro e w2 ⟨rfl, hE2⟩; have H2 := hide (And.intro ((unhide H1).1.trans hE2) ((unhide H1).2.ext hE2)); clear hE2)
        | (refine wpList_storeB (ty := 27) (t := 27) (x := .tmp 14) (y := .tmp 35) (cs := boxL nonce cs tv) rfl rfl box_wide rfl rfl (Blk.new w2 _ _) rfl (boxL_size (unhide HTV).1) (unhide HTV).2 ?_; intro w3 hb3 hc3 hz3; have H3 := hide (And.intro (made_ext (unhide H2).1 hc3) (And.intro ((unhide H2).2.ext (made_ext1 hc3)) hb3)); clear hb3 hc3 hz3)
        | (refine wpList_loadB (ty := 27) (t := 27) (x := .tmp 14) rfl rfl box_wide rfl (cs := boxL nonce cs tv) (unhide H3).2.2 (boxL_size (unhide HTV).1) ?_)
        | (refine wpList_storeB (ty := 27) (t := 27) (x := .tmp 15) (y := .tmp 36) (cs := boxL nonce cs tv) rfl rfl box_wide rfl rfl (Blk.new w3 _ _) rfl (boxL_size (unhide HTV).1) (unhide HTV).2 ?_; intro w4 hb4 hc4 hz4; have H4 := hide (And.intro (made_ext (unhide H3).1 hc4) (And.intro ((unhide H3).2.1.ext (made_ext1 hc4)) (And.intro ((unhide H3).2.2.ext (made_ext1 hc4)) hb4))); clear hb4 hc4 hz4))
      have hrI : (what : Int) % 3 = 2 := by omega
      obtain ⟨p, hpq⟩ : ∃ p, pos % 16 = p := ⟨_, rfl⟩
      have hp16 : p < 16 := by omega
      have hpI : (pos : Int) % 16 = (p : Int) := by omega
      have hlt : p < tg.length := by have := (unhide HTG).2.1; omega
      have cx : w4.cell? ⟨w3.heap.size, 2 + p, none⟩ = some (.int .u8 ((tg[p].toNat : Nat) : Int)) := by
        rw [(unhide H4).2.2.2.cell, boxL_at, ← (unhide HTG).2.2, List.getElem?_map, List.getElem?_eq_getElem hlt]
        rfl
      have fx := (unhide H4).2.2.2.frozen (2 + p)
      have HX := hide (xor8 tg[p] by')
      clear hpq
      go_upto_region 19 with fail
      rw [unhide HX]
      obtain ⟨tg', htg'⟩ : ∃ l, tg.set p (tg[p] ^^^ by') = l := ⟨_, rfl⟩
      have hne : ¬ tagS key nonce cs.data.toList = tg' := by
        rw [unhide HTC, ← htg']
        intro e
        have e2 : tg[p]? = (tg.set p (tg[p] ^^^ by'))[p]? := by rw [← e]
        rw [List.getElem?_set_self hlt, List.getElem?_eq_getElem hlt] at e2
        exact xor_ne tg[p] by' h0 (Option.some.inj e2).symm
      have htl' : tg'.length = 16 := by rw [← htg', List.length_set]; exact (unhide HTG).2.1
      have HOp := hide (fun W (hE : Ext w W) => open_no key nonce cs tg' W ((unhide HM).ext hE) hk htl' h1 h2 (by omega) hne)
      have hbx : Blk (w4.setCell ⟨w3.heap.size, 2 + p, none⟩ (.int .u8 (((tg[p] ^^^ by').toNat : Nat) : Int))) w3.heap.size 27 (boxL nonce cs (tg'.map u8v)) := by
        have h := (unhide H4).2.2.2.set_ (2 + p) (.int .u8 (((tg[p] ^^^ by').toNat : Nat) : Int))
        rw [boxL_setAt] at h
        rw [← htg', List.map_set, (unhide HTG).2.2]
        exact h
      obtain ⟨tc, htc⟩ : ∃ l, tg'.map u8v = l := ⟨_, rfl⟩
      have HTL := hide (show tc.length = 16 from by rw [← htc]; simpa using htl')
      rw [boxV_eq, htc, unhide HA] at HOp
      rw [htc] at hbx
      have hlw : w.heap.size < w3.heap.size := (unhide H3).2.1.lt
      have H5 := hide (And.intro hbx (And.intro ((unhide H4).2.1.far' (show ¬ w.heap.size = w3.heap.size by omega) (2 + p) (.int .u8 (((tg[p] ^^^ by').toNat : Nat) : Int))) ((unhide H4).1.setCell (p := ⟨w3.heap.size, 2 + p, none⟩) (by show w.heap.size ≤ w3.heap.size; omega) (.int .u8 (((tg[p] ^^^ by').toNat : Nat) : Int)))))
      generalize w4.setCell ⟨w3.heap.size, 2 + p, none⟩ (.int .u8 (((tg[p] ^^^ by').toNat : Nat) : Int)) = W5 at *
      clear hbx cx fx hne htc
      go_upto_region 20 with (first
        | (refine wpList_loadB (ty := 23) (t := 23) (x := .tmp 6) rfl rfl digest_wide rfl (cs := arr) (unhide H5).2.1 hasz ?_)
        | (refine wpList_loadB (ty := 27) (t := 27) (x := .tmp 15) rfl rfl box_wide rfl (cs := boxL nonce cs tc) (unhide H5).1 (boxL_size (unhide HTL)) ?_)
        | (go_at_call 14; refine (unhide HOp _ (unhide H5).2.2).mono ?_; rintro e w6 ⟨rfl, hE6⟩; have H6 := hide ((unhide H5).2.2.trans hE6); clear hE6))
      go_wp2
      go_ret
      exact ⟨rfl, unhide H6⟩

end Go.Proofs.YtoefmncdloffaaaDoor
