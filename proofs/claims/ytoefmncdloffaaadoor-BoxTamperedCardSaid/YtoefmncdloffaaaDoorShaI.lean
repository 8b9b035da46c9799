
/-
  sha's short, MAC, join, Digest, Derive.
-/
import Derived.Test.YtoefmncdloffaaaDoorShaH
import Derived.Test.YtoefmncdloffaaaDoorWireB
namespace Go.Proofs.YtoefmncdloffaaaDoor
open Go.RowKit

theorem digest_wide : Wide Tryd.prog 23 16 := ⟨⟨_, Tryd.underlying23, rfl⟩, by kernel_rfl⟩
theorem slices_row : SlTy Tryd.prog 88 29 1 24 := SlTy.mk' (z := .slice none 0 0) (by kernel_rfl) (by kernel_rfl) rfl (by omega) (by omega)

set_option maxHeartbeats 1000000 in
theorem short_any (l : List UInt8) (w : World) (hl : l.length = 32) :
    Calls Tryd.prog 52 #[.agg (l.map u8v).toArray] w fun e w' => e = .returned (.agg ((l.take 16).map u8v).toArray) ∧ Ext w w' := by
  obtain ⟨arr, harr⟩ : ∃ r, (l.map u8v).toArray = r := ⟨_, rfl⟩
  obtain ⟨res, hres⟩ : ∃ r, ((l.take 16).map u8v).toArray = r := ⟨_, rfl⟩
  have HA := hide (And.intro harr hl)
  have HR := hide hres
  have HS := hide (show res.size = 16 ∧ res.all (·.oneCell') = true from by rw [← hres]; exact ⟨by simp; omega, bytes_one _⟩)
  rw [harr, hres]
  clear harr hres hl
  have hat := fun X => run_arrayAt (P := Tryd.prog) Tryd.underlying23 (ad := some ⟨w.heap.size, 0, none⟩) (len := 16) (c := 32) (by omega) X
  go_enter Tryd.func52, Tryd.ntmps52
  go_wp2_with (first
    | (refine wpList_loadR (ty := 23) (x := .tmp 4) rfl rfl digest_wide rfl (arr := res) (cs := (l.take 16).map u8v) ?_ ?_ (unhide HR) ?_; (focus (refine rangeAt_chg (w := w.alloc (.cells arr 91)) (S := Non) (fun j v hj => ?_) ((Ext.refl _).alloc _) (fun h => h); rw [Nat.zero_add, (Blk.new w _ arr).cell, ← (unhide HA).1]; rw [List.map_take, List.getElem?_take] at hj; split at hj; (simpa using hj); (cases hj))); (focus (have := (unhide HA).2; simp; omega)))
    | (refine wpList_storeB (ty := 23) (t := 23) (x := .tmp 2) (y := .tmp 5) rfl rfl digest_wide rfl rfl (Blk.new' _ _ _ ?_) rfl (unhide HS).1 (unhide HS).2 ?_; (focus (simp; done)); intro w2 hb2 hc2 hz2; have H2 := hide (And.intro hb2 hc2); clear hb2 hc2 hz2))
  refine bodyPost_ret (v := .agg res) (results_blk digest_wide rfl (unhide H2).1 (unhide HS).1 rfl) rfl ⟨rfl, ?_⟩
  exact (((Ext.refl w).alloc _).alloc _).trans' (unhide H2).2 (fun _ _ h => h) (fun i hi e => by omega)

theorem mac_short (key b : List UInt8) (w : World) : Calls Tryd.prog 52 #[.agg ((hmac key b).map u8v).toArray] w fun e w' => e = .returned (.agg ((mac key b).map u8v).toArray) ∧ Ext w w' := short_any _ _ (hmac_length _ _)
theorem mac_length (key b : List UInt8) : (mac key b).length = 16 := by unfold mac; rw [List.length_take, hmac_length]; omega
set_option maxHeartbeats 1000000 in
theorem mac_any (key b : List UInt8) (kv bv : Value) (w : World) (hM : ShaMem w) (hk : Reads w 1 kv key.length (key.map u8v)) (hb : Reads w 1 bv b.length (b.map u8v)) (hkl : key.length ≤ 1000000) (hbl : b.length ≤ 1000000) :
    Calls Tryd.prog 16 #[kv, bv] w fun e w' => e = .returned (.agg ((mac key b).map u8v).toArray) ∧ Ext w w' := by
  have HH := hide (hmac_any key b kv bv _ (hM.ext ((Ext.refl w).alloc (.cells (Array.replicate 16 (.int .u8 0)) 23))) (hk.ext ((Ext.refl w).alloc _)) (hb.ext ((Ext.refl w).alloc _)) hkl hbl)
  have HL := hide (mac_length key b)
  clear hM hk hb
  go_enter Tryd.func16, Tryd.ntmps16
  go_wp2_with fail
  refine (unhide HH).mono ?_
  rintro e w1 ⟨rfl, hE1⟩
  go_wp2_with fail
  refine (mac_short key b _).mono ?_
  rintro e w2 ⟨rfl, hE2⟩
  have hB := (Blk.new w 23 (Array.replicate 16 (.int .u8 0))).ext (hE1.trans hE2)
  have HB := hide (And.intro hB (hE1.trans hE2))
  clear hB hE1 hE2
  go_wp2_with (refine wpList_storeB (ty := 23) (t := 23) (x := .tmp 4) (y := .tmp 8) rfl rfl digest_wide rfl rfl (unhide HB).1 (by simp) ?_ (bytes_one _) ?_; (focus (simpa using unhide HL)); intro w3 hb3 hc3 hz3; have H3 := hide (And.intro hb3 hc3); clear hb3 hc3 hz3)
  refine bodyPost_ret (v := .agg ((mac key b).map u8v).toArray) (results_blk digest_wide rfl (unhide H3).1 (by simpa using unhide HL) rfl) rfl ⟨rfl, ?_⟩
  exact (((Ext.refl w).alloc _).trans (unhide HB).2).trans' (unhide H3).2 (fun _ _ h => h) (fun i hi e => by omega)

/-- A slice of slices of bytes. -/
def Parts (w : World) (v : Value) (ps : List (List UInt8)) : Prop := ∃ vs : List Value, vs.length = ps.length ∧ Reads w 1 v ps.length vs ∧ ∀ (i : Nat) (p : List UInt8), ps[i]? = some p → ∃ u, vs[i]? = some u ∧ Reads w 1 u p.length (p.map u8v)
theorem Parts.ext {w w' : World} {v : Value} {ps : List (List UInt8)} (h : Parts w v ps) (hE : Ext w w') : Parts w' v ps := by
  obtain ⟨vs, h1, h2, h3⟩ := h
  refine ⟨vs, h1, h2.ext hE, fun i p hp => ?_⟩
  obtain ⟨u, h4, h5⟩ := h3 i p hp
  exact ⟨u, h4, h5.ext hE⟩
theorem Parts.chg {S : Nat → Prop} {w w' : World} {v : Value} {ps : List (List UInt8)} (h : Parts w v ps) {B : Nat} (hB : w.heap.size = B) (hE : Chg S w w') (hS : ∀ k, S k → B ≤ k) : Parts w' v ps :=
  h.ext (hE.mono fun k hk hs => by have := hS k hs; omega)
theorem Parts.nil (w : World) : Parts w (.slice none 0 0) [] := ⟨[], rfl, Reads.nil w 1, fun i p h => by simp at h⟩

/-- The encodings of the parts, one behind the other. -/
def encs (ps : List (List UInt8)) : List UInt8 := ps.flatMap wBytes
theorem encs_step (ps : List (List UInt8)) (k : Nat) (h : k < ps.length) : encs (ps.take (k + 1)) = encs (ps.take k) ++ wBytes ps[k] := by
  unfold encs
  rw [take_step ps k h, List.flatMap_append]
  simp
theorem encs_bound (ps : List (List UInt8)) (M : Nat) (h : ∀ p ∈ ps, p.length ≤ M) : (encs ps).length ≤ ps.length * (M + 10) := by
  unfold encs
  induction ps with
  | nil => simp
  | cons p ps ih =>
    have h1 := ih fun q hq => h q (List.mem_cons_of_mem _ hq)
    have h2 := h p List.mem_cons_self
    have h3 := wBytes_length p
    rw [List.flatMap_cons, List.length_append, List.length_cons, Nat.succ_mul]
    omega

end Go.Proofs.YtoefmncdloffaaaDoor
