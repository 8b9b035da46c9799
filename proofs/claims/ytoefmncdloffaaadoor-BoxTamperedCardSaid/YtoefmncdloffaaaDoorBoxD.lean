
/-
  box.Open.
-/
import Derived.Test.YtoefmncdloffaaaDoorBoxC
import Derived.Test.YtoefmncdloffaaaDoorHeld
import Derived.Test.YtoefmncdloffaaaDoorEqD
namespace Go.Proofs.YtoefmncdloffaaaDoor
open Go.RowKit

set_option maxRecDepth 100000 in
set_option maxHeartbeats 2000000 in
theorem open_no (key : List UInt8) (nonce : Int) (c : ByteArray) (t : List UInt8) (w : World) (hM : ShaMem w) (hk : key.length = 16) (ht : t.length = 16) (h1 : -9223372036854775808 ≤ nonce) (h2 : nonce < 9223372036854775808) (hs : c.size ≤ 100000)
    (hno : ¬ tagS key nonce c.data.toList = t) :
    Calls Tryd.prog 14 #[.agg (key.map u8v).toArray, .agg (boxV nonce c t)] w fun e w' => e = .returned (.tuple #[.string { data := #[] }, .int .i64 8]) ∧ Ext w w' := by
  obtain ⟨arr, harr⟩ : ∃ r, (key.map u8v).toArray = r := ⟨_, rfl⟩
  have HM := hide hM
  have HAp := hide (fun W hW => apply_any key nonce c W hW hk h1 h2 hs)
  have HTg := hide (fun W hW => tag_any key nonce c W hW hk h1 h2 hs)
  rw [harr] at HAp HTg ⊢
  have hasz : arr.size = 16 := by rw [← harr]; simpa using hk
  have HTL := hide (show (t.map u8v).length = 16 from by simpa using ht)
  have hne := fun W => ne16 (tagS_length key nonce c.data.toList) ht W
  rw [decide_eq_false hno] at hne
  obtain ⟨tv, htv⟩ : ∃ l, t.map u8v = l := ⟨_, rfl⟩
  have hbx : boxV nonce c t = (Value.int .i64 nonce :: Value.string c :: tv).toArray := by rw [← htv]; rfl
  rw [htv] at hne HTL
  rw [hbx]
  obtain ⟨tg, htg⟩ : ∃ l, (tagS key nonce c.data.toList).map u8v = l := ⟨_, rfl⟩
  rw [htg] at hne HTg
  have HQ := hide (show Blk ((w.alloc (.cells arr 23)).alloc (.cells (Value.int .i64 nonce :: Value.string c :: tv).toArray 27)) w.heap.size 23 arr ∧
      ((w.alloc (.cells arr 23)).alloc (.cells (Value.int .i64 nonce :: Value.string c :: tv).toArray 27)).cell? ⟨w.heap.size + 1, 0, none⟩ = some (.int .i64 nonce) ∧
      ((w.alloc (.cells arr 23)).alloc (.cells (Value.int .i64 nonce :: Value.string c :: tv).toArray 27)).cell? ⟨w.heap.size + 1, 1, none⟩ = some (.string c) ∧
      ((w.alloc (.cells arr 23)).alloc (.cells (Value.int .i64 nonce :: Value.string c :: tv).toArray 27)).rangeAt (w.heap.size + 1) 2 tv from
    ⟨(Blk.new w _ _).alloc _, new_cell _ _ _ (by simp) rfl, new_cell _ _ _ (by simp) rfl, range_from (pre := [Value.int .i64 nonce, Value.string c]) (Blk.new' _ _ _ (by simp))⟩)
  have HF := hide (fun W (hE : Ext ((w.alloc (.cells arr 23)).alloc (.cells (Value.int .i64 nonce :: Value.string c :: tv).toArray 27)) W) => And.intro (Ext.cellv hE (unhide HQ).2.1) (Ext.cellv hE (unhide HQ).2.2.1))
  clear hM harr htv hbx htg
  go_enter Tryd.func14, Tryd.ntmps14
  go_upto_region 1 with fail
  refine wp_region_held_drew (S := fun w' => Ext ((w.alloc (.cells arr 23)).alloc (.cells (Value.int .i64 nonce :: Value.string c :: tv).toArray 27)) w') (by kernel_rfl) (Ext.refl _).drew (fun hHeld => ?_)
  refine wpAnyH_take (i := 0) (oi := _) (v := _) rfl (by kernel_rfl) (by kernel_rfl) (by kernel_rfl) (fun _ _ _ h => h) (ylb digest_wide rfl (by rfl) rfl hasz (fun w' hw => (unhide HQ).1.ext hw)) (by assumption) ?_
  try simp only [Act.put, List.setIfInBounds_toArray, List.set_cons_zero, List.set_cons_succ, List.getElem_toArray, List.getElem_cons_succ, List.getElem_cons_zero]
  refine wpAnyH_take (i := 1) (oi := _) (v := ?_) rfl (by kernel_rfl) (by kernel_rfl) (by kernel_rfl) (fun _ _ _ h => h) (Or.inl ⟨by rfl, fun wz hSz => ?_⟩) (by assumption) ?_
  rotate_left
  · (first | (go_simp; done) | (go_simp; with_reducible rfl) | (obtain ⟨f1, f2⟩ := (unhide HF) wz hSz; clear hSz; first | (go_simp; done) | (go_simp; with_reducible rfl)))
  try simp only [Act.put, List.setIfInBounds_toArray, List.set_cons_zero, List.set_cons_succ, List.getElem_toArray, List.getElem_cons_succ, List.getElem_cons_zero]
  refine wpAnyH_take (i := 2) (oi := _) (v := ?_) rfl (by kernel_rfl) (by kernel_rfl) (by kernel_rfl) (fun _ _ _ h => h) (Or.inl ⟨by rfl, fun wz hSz => ?_⟩) (by assumption) ?_
  rotate_left
  · (first | (go_simp; done) | (go_simp; with_reducible rfl) | (obtain ⟨f1, f2⟩ := (unhide HF) wz hSz; clear hSz; first | (go_simp; done) | (go_simp; with_reducible rfl)))
  try simp only [Act.put, List.setIfInBounds_toArray, List.set_cons_zero, List.set_cons_succ, List.getElem_toArray, List.getElem_cons_succ, List.getElem_cons_zero]
  refine wpAnyH_take (i := 3) (oi := _) (v := ?_) rfl (by kernel_rfl) (by kernel_rfl) (by kernel_rfl) (fun _ _ _ h => h) (Or.inl ⟨by rfl, fun wz hSz => ?_⟩) (by assumption) ?_
  rotate_left
  · (first | (go_simp; done) | (go_simp; with_reducible rfl) | (obtain ⟨f1, f2⟩ := (unhide HF) wz hSz; clear hSz; first | (go_simp; done) | (go_simp; with_reducible rfl)))
  try simp only [Act.put, List.setIfInBounds_toArray, List.set_cons_zero, List.set_cons_succ, List.getElem_toArray, List.getElem_cons_succ, List.getElem_cons_zero]
  refine wpAnyH_take (i := 4) (oi := _) (v := ?_) rfl (by kernel_rfl) (by kernel_rfl) (by kernel_rfl) (fun _ _ _ h => h) (Or.inl ⟨by rfl, fun wz hSz => ?_⟩) (by assumption) ?_
  rotate_left
  · (first | (go_simp; done) | (go_simp; with_reducible rfl) | (obtain ⟨f1, f2⟩ := (unhide HF) wz hSz; clear hSz; first | (go_simp; done) | (go_simp; with_reducible rfl)))
  try simp only [Act.put, List.setIfInBounds_toArray, List.set_cons_zero, List.set_cons_succ, List.getElem_toArray, List.getElem_cons_succ, List.getElem_cons_zero]
  refine wpAnyH_take (i := 6) (oi := _) (v := ?_) rfl (by kernel_rfl) (by kernel_rfl) (by kernel_rfl) (fun _ _ _ h => h) (Or.inl ⟨by rfl, fun wz hSz => ?_⟩) (by assumption) ?_
  rotate_left
  · (first | (go_simp; done) | (go_simp; with_reducible rfl) | (obtain ⟨f1, f2⟩ := (unhide HF) wz hSz; clear hSz; first | (go_simp; done) | (go_simp; with_reducible rfl)))
  try simp only [Act.put, List.setIfInBounds_toArray, List.set_cons_zero, List.set_cons_succ, List.getElem_toArray, List.getElem_cons_succ, List.getElem_cons_zero]
  refine wpAnyH_take (i := 7) (oi := _) (v := _) rfl (by kernel_rfl) (by kernel_rfl) (by kernel_rfl) (fun _ _ _ h => h) (ylm digest_wide rfl (by rfl) rfl (unhide HTL) (fun w' hw => rangeAt_ext (unhide HQ).2.2.2 hw)) (by assumption) ?_
  try simp only [Act.put, List.setIfInBounds_toArray, List.set_cons_zero, List.set_cons_succ, List.getElem_toArray, List.getElem_cons_succ, List.getElem_cons_zero]
  refine wpAnyH_ready (rs := [5]) (by kernel_rfl) (by simp) (AllReadyH.cons (o := _) rfl (fun K hK => ?_) AllReadyH.nil)
  go_simp
  refine (unhide HTg _ ((unhide HM).ext ((((Ext.refl w).alloc _).alloc _).trans hHeld))).mono ?_; rintro e w5 ⟨rfl, hE5⟩; have hS := Ext.trans hHeld hE5; clear hE5 hHeld
  refine hK.out _ _ ?_ (fun hHeld => ?_)
  · exact hS
  clear hK K
  try simp only [Act.put, List.setIfInBounds_toArray, List.set_cons_zero, List.set_cons_succ, List.getElem_toArray, List.getElem_cons_succ, List.getElem_cons_zero]
  refine wpAnyH_take (i := 8) (oi := _) (v := ?_) rfl (by kernel_rfl) (by kernel_rfl) (by kernel_rfl) (fun _ _ _ h => h) (Or.inl ⟨by rfl, fun wz hSz => ?_⟩) (by assumption) ?_
  rotate_left
  · (first | (go_simp; done) | (go_simp; with_reducible rfl) | (obtain ⟨f1, f2⟩ := (unhide HF) wz hSz; clear hSz; first | (go_simp; done) | (go_simp; with_reducible rfl)))
  try simp only [Act.put, List.setIfInBounds_toArray, List.set_cons_zero, List.set_cons_succ, List.getElem_toArray, List.getElem_cons_succ, List.getElem_cons_zero]
  refine wpAnyH_done (by kernel_rfl) ?_ _
  go_wp2
  go_ret2
  exact ⟨rfl, (((Ext.refl w).alloc _).alloc _).trans hHeld⟩

set_option maxRecDepth 100000 in
set_option maxHeartbeats 2000000 in
theorem open_yes (key : List UInt8) (nonce : Int) (c : ByteArray) (t : List UInt8) (w : World) (hM : ShaMem w) (hk : key.length = 16) (ht : t.length = 16) (h1 : -9223372036854775808 ≤ nonce) (h2 : nonce < 9223372036854775808) (hs : c.size ≤ 100000)
    (hyes : tagS key nonce c.data.toList = t) :
    Calls Tryd.prog 14 #[.agg (key.map u8v).toArray, .agg (boxV nonce c t)] w fun e w' => e = .returned (.tuple #[.string (strOf (applyS key nonce c.data.toList)), .int .i64 0]) ∧ Ext w w' := by
  obtain ⟨arr, harr⟩ : ∃ r, (key.map u8v).toArray = r := ⟨_, rfl⟩
  have HM := hide hM
  have HAp := hide (fun W hW => apply_any key nonce c W hW hk h1 h2 hs)
  have HTg := hide (fun W hW => tag_any key nonce c W hW hk h1 h2 hs)
  rw [harr] at HAp HTg ⊢
  have hasz : arr.size = 16 := by rw [← harr]; simpa using hk
  have HTL := hide (show (t.map u8v).length = 16 from by simpa using ht)
  have hne := fun W => ne16 (tagS_length key nonce c.data.toList) ht W
  rw [decide_eq_true hyes] at hne
  obtain ⟨tv, htv⟩ : ∃ l, t.map u8v = l := ⟨_, rfl⟩
  have hbx : boxV nonce c t = (Value.int .i64 nonce :: Value.string c :: tv).toArray := by rw [← htv]; rfl
  rw [htv] at hne HTL
  rw [hbx]
  obtain ⟨tg, htg⟩ : ∃ l, (tagS key nonce c.data.toList).map u8v = l := ⟨_, rfl⟩
  rw [htg] at hne HTg
  have HQ := hide (show Blk ((w.alloc (.cells arr 23)).alloc (.cells (Value.int .i64 nonce :: Value.string c :: tv).toArray 27)) w.heap.size 23 arr ∧
      ((w.alloc (.cells arr 23)).alloc (.cells (Value.int .i64 nonce :: Value.string c :: tv).toArray 27)).cell? ⟨w.heap.size + 1, 0, none⟩ = some (.int .i64 nonce) ∧
      ((w.alloc (.cells arr 23)).alloc (.cells (Value.int .i64 nonce :: Value.string c :: tv).toArray 27)).cell? ⟨w.heap.size + 1, 1, none⟩ = some (.string c) ∧
      ((w.alloc (.cells arr 23)).alloc (.cells (Value.int .i64 nonce :: Value.string c :: tv).toArray 27)).rangeAt (w.heap.size + 1) 2 tv from
    ⟨(Blk.new w _ _).alloc _, new_cell _ _ _ (by simp) rfl, new_cell _ _ _ (by simp) rfl, range_from (pre := [Value.int .i64 nonce, Value.string c]) (Blk.new' _ _ _ (by simp))⟩)
  have HF := hide (fun W (hE : Ext ((w.alloc (.cells arr 23)).alloc (.cells (Value.int .i64 nonce :: Value.string c :: tv).toArray 27)) W) => And.intro (Ext.cellv hE (unhide HQ).2.1) (Ext.cellv hE (unhide HQ).2.2.1))
  clear hM harr htv hbx htg
  go_enter Tryd.func14, Tryd.ntmps14
  go_upto_region 1 with fail
  refine wp_region_held_drew (S := fun w' => Ext ((w.alloc (.cells arr 23)).alloc (.cells (Value.int .i64 nonce :: Value.string c :: tv).toArray 27)) w') (by kernel_rfl) (Ext.refl _).drew (fun hHeld => ?_)
  refine wpAnyH_take (i := 0) (oi := _) (v := _) rfl (by kernel_rfl) (by kernel_rfl) (by kernel_rfl) (fun _ _ _ h => h) (ylb digest_wide rfl (by rfl) rfl hasz (fun w' hw => (unhide HQ).1.ext hw)) (by assumption) ?_
  try simp only [Act.put, List.setIfInBounds_toArray, List.set_cons_zero, List.set_cons_succ, List.getElem_toArray, List.getElem_cons_succ, List.getElem_cons_zero]
  refine wpAnyH_take (i := 1) (oi := _) (v := ?_) rfl (by kernel_rfl) (by kernel_rfl) (by kernel_rfl) (fun _ _ _ h => h) (Or.inl ⟨by rfl, fun wz hSz => ?_⟩) (by assumption) ?_
  rotate_left
  · (first | (go_simp; done) | (go_simp; with_reducible rfl) | (obtain ⟨f1, f2⟩ := (unhide HF) wz hSz; clear hSz; first | (go_simp; done) | (go_simp; with_reducible rfl)))
  try simp only [Act.put, List.setIfInBounds_toArray, List.set_cons_zero, List.set_cons_succ, List.getElem_toArray, List.getElem_cons_succ, List.getElem_cons_zero]
  refine wpAnyH_take (i := 2) (oi := _) (v := ?_) rfl (by kernel_rfl) (by kernel_rfl) (by kernel_rfl) (fun _ _ _ h => h) (Or.inl ⟨by rfl, fun wz hSz => ?_⟩) (by assumption) ?_
  rotate_left
  · (first | (go_simp; done) | (go_simp; with_reducible rfl) | (obtain ⟨f1, f2⟩ := (unhide HF) wz hSz; clear hSz; first | (go_simp; done) | (go_simp; with_reducible rfl)))
  try simp only [Act.put, List.setIfInBounds_toArray, List.set_cons_zero, List.set_cons_succ, List.getElem_toArray, List.getElem_cons_succ, List.getElem_cons_zero]
  refine wpAnyH_take (i := 3) (oi := _) (v := ?_) rfl (by kernel_rfl) (by kernel_rfl) (by kernel_rfl) (fun _ _ _ h => h) (Or.inl ⟨by rfl, fun wz hSz => ?_⟩) (by assumption) ?_
  rotate_left
  · (first | (go_simp; done) | (go_simp; with_reducible rfl) | (obtain ⟨f1, f2⟩ := (unhide HF) wz hSz; clear hSz; first | (go_simp; done) | (go_simp; with_reducible rfl)))
  try simp only [Act.put, List.setIfInBounds_toArray, List.set_cons_zero, List.set_cons_succ, List.getElem_toArray, List.getElem_cons_succ, List.getElem_cons_zero]
  refine wpAnyH_take (i := 4) (oi := _) (v := ?_) rfl (by kernel_rfl) (by kernel_rfl) (by kernel_rfl) (fun _ _ _ h => h) (Or.inl ⟨by rfl, fun wz hSz => ?_⟩) (by assumption) ?_
  rotate_left
  · (first | (go_simp; done) | (go_simp; with_reducible rfl) | (obtain ⟨f1, f2⟩ := (unhide HF) wz hSz; clear hSz; first | (go_simp; done) | (go_simp; with_reducible rfl)))
  try simp only [Act.put, List.setIfInBounds_toArray, List.set_cons_zero, List.set_cons_succ, List.getElem_toArray, List.getElem_cons_succ, List.getElem_cons_zero]
  refine wpAnyH_take (i := 6) (oi := _) (v := ?_) rfl (by kernel_rfl) (by kernel_rfl) (by kernel_rfl) (fun _ _ _ h => h) (Or.inl ⟨by rfl, fun wz hSz => ?_⟩) (by assumption) ?_
  rotate_left
  · (first | (go_simp; done) | (go_simp; with_reducible rfl) | (obtain ⟨f1, f2⟩ := (unhide HF) wz hSz; clear hSz; first | (go_simp; done) | (go_simp; with_reducible rfl)))
  try simp only [Act.put, List.setIfInBounds_toArray, List.set_cons_zero, List.set_cons_succ, List.getElem_toArray, List.getElem_cons_succ, List.getElem_cons_zero]
  refine wpAnyH_take (i := 7) (oi := _) (v := _) rfl (by kernel_rfl) (by kernel_rfl) (by kernel_rfl) (fun _ _ _ h => h) (ylm digest_wide rfl (by rfl) rfl (unhide HTL) (fun w' hw => rangeAt_ext (unhide HQ).2.2.2 hw)) (by assumption) ?_
  try simp only [Act.put, List.setIfInBounds_toArray, List.set_cons_zero, List.set_cons_succ, List.getElem_toArray, List.getElem_cons_succ, List.getElem_cons_zero]
  refine wpAnyH_ready (rs := [5]) (by kernel_rfl) (by simp) (AllReadyH.cons (o := _) rfl (fun K hK => ?_) AllReadyH.nil)
  go_simp
  refine (unhide HTg _ ((unhide HM).ext ((((Ext.refl w).alloc _).alloc _).trans hHeld))).mono ?_; rintro e w5 ⟨rfl, hE5⟩; have hS := Ext.trans hHeld hE5; clear hE5 hHeld
  refine hK.out _ _ ?_ (fun hHeld => ?_)
  · exact hS
  clear hK K
  try simp only [Act.put, List.setIfInBounds_toArray, List.set_cons_zero, List.set_cons_succ, List.getElem_toArray, List.getElem_cons_succ, List.getElem_cons_zero]
  refine wpAnyH_take (i := 8) (oi := _) (v := ?_) rfl (by kernel_rfl) (by kernel_rfl) (by kernel_rfl) (fun _ _ _ h => h) (Or.inl ⟨by rfl, fun wz hSz => ?_⟩) (by assumption) ?_
  rotate_left
  · (first | (go_simp; done) | (go_simp; with_reducible rfl) | (obtain ⟨f1, f2⟩ := (unhide HF) wz hSz; clear hSz; first | (go_simp; done) | (go_simp; with_reducible rfl)))
  try simp only [Act.put, List.setIfInBounds_toArray, List.set_cons_zero, List.set_cons_succ, List.getElem_toArray, List.getElem_cons_succ, List.getElem_cons_zero]
  refine wpAnyH_done (by kernel_rfl) ?_ _
  have HQ2 := hide (show Blk w5 w.heap.size 23 arr ∧ w5.cell? ⟨w.heap.size + 1, 0, none⟩ = some (.int .i64 nonce) ∧ w5.cell? ⟨w.heap.size + 1, 1, none⟩ = some (.string c) ∧ Ext w w5 from
    ⟨(unhide HQ).1.ext hHeld, Ext.cellv hHeld (unhide HQ).2.1, Ext.cellv hHeld (unhide HQ).2.2.1, (((Ext.refl w).alloc _).alloc _).trans hHeld⟩)
  have c1 := (unhide HQ2).2.1
  have c2 := (unhide HQ2).2.2.1
  clear hHeld HQ HF
  go_wp2_with (first
    | (refine wpList_loadB (x := .tmp 2) rfl rfl digest_wide rfl (cs := arr) (unhide HQ2).1 hasz ?_)
    | (go_at_call 49; refine (unhide HAp _ ((unhide HM).ext (unhide HQ2).2.2.2)).mono ?_; rintro e w6 ⟨rfl, hE6⟩; have H6 := hide hE6; clear hE6))
  go_ret2
  exact ⟨rfl, (unhide HQ2).2.2.2.trans (unhide H6)⟩

end Go.Proofs.YtoefmncdloffaaaDoor
