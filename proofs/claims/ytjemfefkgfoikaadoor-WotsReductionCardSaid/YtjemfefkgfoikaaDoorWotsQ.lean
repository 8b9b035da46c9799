/-
  wots.Sign and wots.Recover.
-/
import Derived.Test.YtjemfefkgfoikaaDoorWpA
namespace Go.Proofs.YtjemfefkgfoikaaDoor
open Go.RowKit

def z16 : List UInt8 := List.replicate 16 0
theorem z16_cells : ((z16.map u8v).toArray) = Array.replicate 16 (.int .u8 0) := rfl
def chainAt (c : List (List UInt8)) (k : Nat) : List UInt8 := c.getD k z16
theorem chainAt_length {c : List (List UInt8)} (h : D16 c) (k : Nat) : (chainAt c k).length = 16 := by
  unfold chainAt
  rw [List.getD_eq_getElem?_getD]
  rcases Nat.lt_or_ge k c.length with hk | hk
  · rw [List.getElem?_eq_getElem hk]; exact h.get hk
  · rw [List.getElem?_eq_none hk]; rfl
theorem chainAt_get {c : List (List UInt8)} {k : Nat} (hk : k < c.length) : chainAt c k = c[k] := by
  unfold chainAt
  rw [List.getD_eq_getElem?_getD, List.getElem?_eq_getElem hk]; rfl
structure RecInv (m : List UInt8) (c : List (List UInt8)) (cv : Value) (bc bl g : Nat) (B : Nat) (w : World) : Prop where
  mem : ShaMem w
  chain : Digs w cv c
  cell : w.cell? ⟨bc, 0, none⟩ = some cv
  cell2 : w.cell? ⟨bl, 0, none⟩ = some (.slice (some ⟨g, 0, none⟩) 68 68)
  digs : Blk w g 68 (icells (digC m) 68).toArray
  lt : (∀ k, cv.ownBlock = some k → k < B) ∧ bc < B ∧ bl < B ∧ g < B ∧ 1 < B ∧ 0 < B
theorem Digs.chg {S : Nat → Prop} {w w' : World} {v : Value} {ds : List (List UInt8)} (h : Digs w v ds) (hc : Chg S w w') (hS : ∀ k, v.ownBlock = some k → ¬ S k) : Digs w' v ds := ⟨h.1, h.2.chg hc (fun k _ hk => hS k hk)⟩
theorem RecInv.keep {m : List UInt8} {c : List (List UInt8)} {cv : Value} {bc bl g B : Nat} {w w' : World} (h : RecInv m c cv bc bl g B w) (hc : Chg (fun k => B ≤ k) w w') : RecInv m c cv bc bl g B w' := by
  obtain ⟨l1, l2, l3, l4, l5, l6⟩ := h.lt
  exact ⟨h.mem.chg hc (by omega) (by omega), h.chain.chg hc (fun k hk e => by have := l1 k hk; omega), Chg.cellv hc h.cell (by simp; omega), Chg.cellv hc h.cell2 (by simp; omega), h.digs.chg hc (by omega), h.lt⟩

set_option maxRecDepth 100000 in
set_option maxHeartbeats 4000000 in
theorem rec1_any (k : Nat) (m : List UInt8) (c : List (List UInt8)) (cv : Value) (bc bl g B : Nat) (w : World) (hk : k < 68) (hc : c.length = 68) (hI : RecInv m c cv bc bl g B w) :
    Calls Tryd.prog 41 #[.int .i64 (k : Int), .pointer (some ⟨bc, 0, none⟩), .pointer (some ⟨bl, 0, none⟩)] w fun e w' => e = .returned (.agg ((advS k (chainAt c k) (3 - digC m k)).map u8v).toArray) ∧ Ext w w' := by
  obtain ⟨hM, hD, hbc, hbl, hB, _⟩ := hI
  obtain ⟨b, o, c', rfl, _, _, hb, hR⟩ := hD.at (k := k) (by omega)
  rw [← chainAt_get (by omega : k < c.length)] at hR
  have hl := chainAt_length hD.1 k
  have h3 := digC_le m k
  have HA := hide (fun (W : World) (hE : Ext w W) => adv_any k (3 - digC m k) (chainAt c k) W (hM.ext hE) hl (by omega) (by omega))
  have HL := hide (advS_length k (chainAt c k) hl (3 - digC m k))
  have hdc : w.cell? ⟨g, k, none⟩ = some (.int .i64 ((digC m k : Nat) : Int)) := by rw [hB.cell, List.getElem?_toArray, icells_get _ hk]
  have e3 : IntKind.i64.wrap (3 - ((digC m k : Nat) : Int)) = ((3 - digC m k : Nat) : Int) := by rw [IntKind.wrap_i64]; omega
  obtain ⟨cells, hcs⟩ : ∃ l, (chainAt c k).map u8v = l := ⟨_, rfl⟩
  have HCL := hide (show cells.length = 16 from by rw [← hcs]; simpa using hl)
  rw [hcs] at hR HA
  obtain ⟨d, hd⟩ : ∃ d, advS k (chainAt c k) (3 - digC m k) = d := ⟨_, rfl⟩
  rw [hd] at HA HL ⊢
  have HF : Hid (∀ W, (Ext w W ∧ ∃ cs : Array Value, cs.size = 16 ∧ Blk W w.heap.size 23 cs) → W.cell? ⟨bc, 0, none⟩ = some (.slice (some ⟨b, o, none⟩) c.length c') ∧ W.cell? ⟨bl, 0, none⟩ = some (.slice (some ⟨g, 0, none⟩) 68 68) ∧ W.cell? ⟨g, k, none⟩ = some (.int .i64 ((digC m k : Nat) : Int))) := hide (fun W hW => ⟨Ext.cellv hW.1 hbc, Ext.cellv hW.1 hbl, Ext.cellv hW.1 hdc⟩)
  have HR := hide hR
  rw [hc] at HF
  generalize hdk : digC m k = dk at *
  generalize hsk : 3 - dk = sk at *
  have hkI : (k : Int) < 68 := by omega
  clear hM hD hbc hbl hB hR hdc hcs hd hl
  go_enter Tryd.func41, Tryd.ntmps41
  go_upto_region 1 with fail
  refine wp_region_held_drew (S := fun W => Ext w W ∧ ∃ cs : Array Value, cs.size = 16 ∧ Blk W w.heap.size 23 cs) (by kernel_rfl) ⟨((Ext.refl w).alloc _).drew, _, rfl, (Blk.new w _ _).drew⟩ (fun hHeld => ?_)
  refine wpAnyH_take (i := 0) (oi := _) (v := ?_) rfl (by kernel_rfl) (by kernel_rfl) (by kernel_rfl) (fun _ _ _ h => h) (Or.inl ⟨by rfl, fun wz hSz => ?_⟩) (by assumption) ?_
  rotate_left
  · (first | (go_simp; done) | (go_simp; with_reducible rfl) | (obtain ⟨f1, f2, f3⟩ := (unhide HF) wz hSz; clear hSz; first | (go_simp; done) | (go_simp; with_reducible rfl)))
  try simp only [Act.put, List.setIfInBounds_toArray, List.set_cons_zero, List.set_cons_succ, List.getElem_toArray, List.getElem_cons_succ, List.getElem_cons_zero]
  refine wpAnyH_take (i := 1) (oi := _) (v := ?_) rfl (by kernel_rfl) (by kernel_rfl) (by kernel_rfl) (fun _ _ _ h => h) (Or.inl ⟨by rfl, fun wz hSz => ?_⟩) (by assumption) ?_
  rotate_left
  · (first | (go_simp; done) | (go_simp; with_reducible rfl) | (obtain ⟨f1, f2, f3⟩ := (unhide HF) wz hSz; clear hSz; first | (go_simp; done) | (go_simp; with_reducible rfl)))
  try simp only [Act.put, List.setIfInBounds_toArray, List.set_cons_zero, List.set_cons_succ, List.getElem_toArray, List.getElem_cons_succ, List.getElem_cons_zero]
  refine wpAnyH_take (i := 2) (oi := _) (v := ?_) rfl (by kernel_rfl) (by kernel_rfl) (by kernel_rfl) (fun _ _ _ h => h) (Or.inl ⟨by rfl, fun wz hSz => ?_⟩) (by assumption) ?_
  rotate_left
  · (first | (go_simp; done) | (go_simp; with_reducible rfl) | (obtain ⟨f1, f2, f3⟩ := (unhide HF) wz hSz; clear hSz; first | (go_simp; done) | (go_simp; with_reducible rfl)))
  try simp only [Act.put, List.setIfInBounds_toArray, List.set_cons_zero, List.set_cons_succ, List.getElem_toArray, List.getElem_cons_succ, List.getElem_cons_zero]
  refine wpAnyH_take (i := 3) (oi := _) (v := ?_) rfl (by kernel_rfl) (by kernel_rfl) (by kernel_rfl) (fun _ _ _ h => h) (Or.inl ⟨by rfl, fun wz hSz => ?_⟩) (by assumption) ?_
  rotate_left
  · (first | (go_simp; done) | (go_simp; with_reducible rfl) | (obtain ⟨f1, f2, f3⟩ := (unhide HF) wz hSz; clear hSz; first | (go_simp; done) | (go_simp; with_reducible rfl)))
  try simp only [Act.put, List.setIfInBounds_toArray, List.set_cons_zero, List.set_cons_succ, List.getElem_toArray, List.getElem_cons_succ, List.getElem_cons_zero]
  refine wpAnyH_take (i := 4) (oi := _) (v := _) rfl (by kernel_rfl) (by kernel_rfl) (by kernel_rfl) (fun _ _ _ h => h) (ylm digest_wide rfl (by rfl) rfl (unhide HCL) (fun w' hw => rangeAt_ext (unhide HR) hw.1)) (by assumption) ?_
  try simp only [Act.put, List.setIfInBounds_toArray, List.set_cons_zero, List.set_cons_succ, List.getElem_toArray, List.getElem_cons_succ, List.getElem_cons_zero]
  refine wpAnyH_take (i := 5) (oi := _) (v := ?_) rfl (by kernel_rfl) (by kernel_rfl) (by kernel_rfl) (fun _ _ _ h => h) (Or.inl ⟨by rfl, fun wz hSz => ?_⟩) (by assumption) ?_
  rotate_left
  · (first | (go_simp; done) | (go_simp; with_reducible rfl) | (obtain ⟨f1, f2, f3⟩ := (unhide HF) wz hSz; clear hSz; first | (go_simp; done) | (go_simp; with_reducible rfl)))
  try simp only [Act.put, List.setIfInBounds_toArray, List.set_cons_zero, List.set_cons_succ, List.getElem_toArray, List.getElem_cons_succ, List.getElem_cons_zero]
  refine wpAnyH_take (i := 6) (oi := _) (v := ?_) rfl (by kernel_rfl) (by kernel_rfl) (by kernel_rfl) (fun _ _ _ h => h) (Or.inl ⟨by rfl, fun wz hSz => ?_⟩) (by assumption) ?_
  rotate_left
  · (first | (go_simp; done) | (go_simp; with_reducible rfl) | (obtain ⟨f1, f2, f3⟩ := (unhide HF) wz hSz; clear hSz; first | (go_simp; done) | (go_simp; with_reducible rfl)))
  try simp only [Act.put, List.setIfInBounds_toArray, List.set_cons_zero, List.set_cons_succ, List.getElem_toArray, List.getElem_cons_succ, List.getElem_cons_zero]
  refine wpAnyH_take (i := 7) (oi := _) (v := ?_) rfl (by kernel_rfl) (by kernel_rfl) (by kernel_rfl) (fun _ _ _ h => h) (Or.inl ⟨by rfl, fun wz hSz => ?_⟩) (by assumption) ?_
  rotate_left
  · (first | (go_simp; done) | (go_simp; with_reducible rfl) | (obtain ⟨f1, f2, f3⟩ := (unhide HF) wz hSz; clear hSz; first | (go_simp; done) | (go_simp; with_reducible rfl)))
  try simp only [Act.put, List.setIfInBounds_toArray, List.set_cons_zero, List.set_cons_succ, List.getElem_toArray, List.getElem_cons_succ, List.getElem_cons_zero]
  refine wpAnyH_take (i := 8) (oi := _) (v := ?_) rfl (by kernel_rfl) (by kernel_rfl) (by kernel_rfl) (fun _ _ _ h => h) (Or.inl ⟨by rfl, fun wz hSz => ?_⟩) (by assumption) ?_
  rotate_left
  · (first | (go_simp; done) | (go_simp; with_reducible rfl) | (obtain ⟨f1, f2, f3⟩ := (unhide HF) wz hSz; clear hSz; first | (go_simp; done) | (go_simp; with_reducible rfl)))
  try simp only [Act.put, List.setIfInBounds_toArray, List.set_cons_zero, List.set_cons_succ, List.getElem_toArray, List.getElem_cons_succ, List.getElem_cons_zero]
  refine wpAnyH_take (i := 9) (oi := _) (v := ?_) rfl (by kernel_rfl) (by kernel_rfl) (by kernel_rfl) (fun _ _ _ h => h) (Or.inl ⟨by rfl, fun wz hSz => ?_⟩) (by assumption) ?_
  rotate_left
  · (first | (go_simp; done) | (go_simp; with_reducible rfl) | (obtain ⟨f1, f2, f3⟩ := (unhide HF) wz hSz; clear hSz; first | (go_simp; done) | (go_simp; with_reducible rfl)))
  try simp only [Act.put, List.setIfInBounds_toArray, List.set_cons_zero, List.set_cons_succ, List.getElem_toArray, List.getElem_cons_succ, List.getElem_cons_zero]

  refine wpAnyH_ready (rs := [10]) (by kernel_rfl) (by simp) (AllReadyH.cons (o := _) rfl (fun K hK => ?_) AllReadyH.nil)
  try go_simp
  (refine (unhide HA _ hHeld.1).mono ?_; rintro e w5 ⟨rfl, hE5⟩; have hS := And.intro (hHeld.1.trans hE5) (hHeld.2.imp fun _ h => And.intro h.1 (h.2.ext hE5)); clear hE5 hHeld)
  refine hK.out _ _ ?_ (fun hHeld => ?_)
  · exact hS
  clear hK K
  try simp only [Act.put, List.setIfInBounds_toArray, List.set_cons_zero, List.set_cons_succ, List.getElem_toArray, List.getElem_cons_succ, List.getElem_cons_zero]
  obtain ⟨hX, cs, hcs, hBk⟩ := hHeld
  refine wpAnyH_ready (rs := [11]) (by kernel_rfl) (by simp) (AllReadyH.cons (o := _) rfl (fun K hK => ?_) AllReadyH.nil)
  (refine step_storeB (ty := 23) (t := 23) (x := .tmp 4) (y := .tmp 15) rfl rfl digest_wide rfl rfl hBk hcs (by simpa using unhide HL) (bytes_one _) ?_; intro w7 hb7 hc7 hz7; have hS : Ext w w7 ∧ ∃ cs : Array Value, cs.size = 16 ∧ Blk w7 w.heap.size 23 cs := ⟨hX.trans' hc7 (fun _ _ h => h) (fun i hi e => by omega), _, by simpa using unhide HL, hb7⟩; have H7 := hide hb7; clear hb7 hc7 hz7)
  refine hK.out _ _ ?_ (fun hHeld => ?_)
  · exact hS
  clear hK K
  try simp only [Act.put, List.setIfInBounds_toArray, List.set_cons_zero, List.set_cons_succ, List.getElem_toArray, List.getElem_cons_succ, List.getElem_cons_zero]
  refine wpAnyH_done (by kernel_rfl) ?_ _
  have H8 := hide hHeld.1
  go_wp2
  refine bodyPost_ret (v := .agg (d.map u8v).toArray) (results_blk digest_wide rfl (unhide H7) (by simpa using unhide HL) rfl) rfl ⟨rfl, unhide H8⟩

end Go.Proofs.YtjemfefkgfoikaaDoor
