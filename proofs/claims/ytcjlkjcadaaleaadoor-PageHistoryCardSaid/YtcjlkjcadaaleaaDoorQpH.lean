/-
  Several texts in one file: each has its own heading below.
-/
import Derived.Test.YtcjlkjcadaaleaaDoorQpG
import Derived.Test.YtcjlkjcadaaleaaDoorQpA
import Derived.StillTail
import Derived.RegionTactic
import Derived.Test.YtcjlkjcadaaleaaDoorQpE
import Derived.Outline

/-
  box.Open.
-/
namespace Go.Proofs.YtcjlkjcadaaleaaDoor
open Go.RowKit

set_option maxRecDepth 100000 in
set_option maxHeartbeats 2000000 in
theorem open_no (key : List UInt8) (nonce : Int) (c : ByteArray) (t : List UInt8) (w : World) (hM : ShaMem w) (hk : key.length = 16) (ht : t.length = 16) (h1 : -9223372036854775808 ≤ nonce) (h2 : nonce < 9223372036854775808) (hs : c.size ≤ 100000)
    (hno : ¬ tagS key nonce c.data.toList = t) :
    Calls Tryd.prog 16 #[.agg (key.map u8v).toArray, .agg (boxV nonce c t)] w fun e w' => e = .returned (.tuple #[.string { data := #[] }, .int .i64 8]) ∧ Ext w w' := by
  obtain ⟨arr, harr⟩ : ∃ r, (key.map u8v).toArray = r := ⟨_, rfl⟩
  have HM := hide hM
  have HAp := hide (fun W hW => apply_any key nonce c W hW hk h1 h2 hs)
  have HTg := hide (fun W hW => tag_any key nonce c W hW hk h1 h2 hs)
  rw [harr] at HAp HTg ⊢
  have hasz : arr.size = 16 := by rw [← harr]; simpa using hk
  have HTL := hide (show (t.map u8v).length = 16 from by simpa using ht)
  have hne := fun W => ne16 (tagS_length key nonce c.data.toList) ht W
  rw [decide_eq_false hno] at hne
  obtain ⟨tv, htv⟩ : ∃ l, t.map u8v = l := ⟨_, rfl⟩
  have hbx : boxV nonce c t = (Value.int .i64 nonce :: Value.string c :: tv).toArray := by rw [← htv]; rfl
  rw [htv] at hne HTL
  rw [hbx]
  obtain ⟨tg, htg⟩ : ∃ l, (tagS key nonce c.data.toList).map u8v = l := ⟨_, rfl⟩
  rw [htg] at hne HTg
  have HQ := hide (show Blk ((w.alloc (.cells arr 23)).alloc (.cells (Value.int .i64 nonce :: Value.string c :: tv).toArray 27)) w.heap.size 23 arr ∧
      ((w.alloc (.cells arr 23)).alloc (.cells (Value.int .i64 nonce :: Value.string c :: tv).toArray 27)).cell? ⟨w.heap.size + 1, 0, none⟩ = some (.int .i64 nonce) ∧
      ((w.alloc (.cells arr 23)).alloc (.cells (Value.int .i64 nonce :: Value.string c :: tv).toArray 27)).cell? ⟨w.heap.size + 1, 1, none⟩ = some (.string c) ∧
      ((w.alloc (.cells arr 23)).alloc (.cells (Value.int .i64 nonce :: Value.string c :: tv).toArray 27)).rangeAt (w.heap.size + 1) 2 tv from
    ⟨(Blk.new w _ _).alloc _, new_cell _ _ _ (by simp) rfl, new_cell _ _ _ (by simp) rfl, range_from (pre := [Value.int .i64 nonce, Value.string c]) (Blk.new' _ _ _ (by simp))⟩)
  have HF := hide (fun W (hE : Ext ((w.alloc (.cells arr 23)).alloc (.cells (Value.int .i64 nonce :: Value.string c :: tv).toArray 27)) W) => And.intro (Ext.cellv hE (unhide HQ).2.1) (Ext.cellv hE (unhide HQ).2.2.1))
  clear hM harr htv hbx htg
  go_enter Tryd.func16, Tryd.ntmps16
  go_upto_region 1 with fail
  refine wp_region_held_drew (S := fun w' => Ext ((w.alloc (.cells arr 23)).alloc (.cells (Value.int .i64 nonce :: Value.string c :: tv).toArray 27)) w') (by kernel_rfl) (Ext.refl _).drew (fun hHeld => ?_)
  refine wpAnyH_take (i := 0) (oi := _) (v := _) rfl (by kernel_rfl) (by kernel_rfl) (by kernel_rfl) (fun _ _ _ h => h) (ylb digest_wide rfl (by rfl) rfl hasz (fun w' hw => (unhide HQ).1.ext hw)) (by assumption) ?_
  try simp only [Act.put, List.setIfInBounds_toArray, List.set_cons_zero, List.set_cons_succ, List.getElem_toArray, List.getElem_cons_zero]
  refine wpAnyH_take (i := 1) (oi := _) (v := ?_) rfl (by kernel_rfl) (by kernel_rfl) (by kernel_rfl) (fun _ _ _ h => h) (Or.inl ⟨by rfl, fun wz hSz => ?_⟩) (by assumption) ?_
  rotate_left
  · (first | (go_simp; done) | (go_simp; with_reducible rfl) | (obtain ⟨f1, f2⟩ := (unhide HF) wz hSz; clear hSz; first | (go_simp; done) | (go_simp; with_reducible rfl)))
  try simp only [Act.put, List.setIfInBounds_toArray, List.set_cons_zero, List.set_cons_succ, List.getElem_toArray, List.getElem_cons_succ, List.getElem_cons_zero]
  refine wpAnyH_take (i := 2) (oi := _) (v := ?_) rfl (by kernel_rfl) (by kernel_rfl) (by kernel_rfl) (fun _ _ _ h => h) (Or.inl ⟨by rfl, fun wz hSz => ?_⟩) (by assumption) ?_
  rotate_left
  · (first | (go_simp; done) | (go_simp; with_reducible rfl) | (obtain ⟨f1, f2⟩ := (unhide HF) wz hSz; clear hSz; first | (go_simp; done) | (go_simp; with_reducible rfl)))
  try simp only [Act.put, List.setIfInBounds_toArray, List.set_cons_zero, List.set_cons_succ, List.getElem_toArray, List.getElem_cons_succ, List.getElem_cons_zero]
  refine wpAnyH_take (i := 3) (oi := _) (v := ?_) rfl (by kernel_rfl) (by kernel_rfl) (by kernel_rfl) (fun _ _ _ h => h) (Or.inl ⟨by rfl, fun wz hSz => ?_⟩) (by assumption) ?_
  rotate_left
  · (first | (go_simp; done) | (go_simp; with_reducible rfl) | (obtain ⟨f1, f2⟩ := (unhide HF) wz hSz; clear hSz; first | (go_simp; done) | (go_simp; with_reducible rfl)))
  try simp only [Act.put, List.setIfInBounds_toArray, List.set_cons_zero, List.set_cons_succ, List.getElem_toArray, List.getElem_cons_succ, List.getElem_cons_zero]
  refine wpAnyH_take (i := 4) (oi := _) (v := ?_) rfl (by kernel_rfl) (by kernel_rfl) (by kernel_rfl) (fun _ _ _ h => h) (Or.inl ⟨by rfl, fun wz hSz => ?_⟩) (by assumption) ?_
  rotate_left
  · (first | (go_simp; done) | (go_simp; with_reducible rfl) | (obtain ⟨f1, f2⟩ := (unhide HF) wz hSz; clear hSz; first | (go_simp; done) | (go_simp; with_reducible rfl)))
  try simp only [Act.put, List.setIfInBounds_toArray, List.set_cons_zero, List.set_cons_succ, List.getElem_toArray, List.getElem_cons_succ, List.getElem_cons_zero]
  refine wpAnyH_take (i := 6) (oi := _) (v := ?_) rfl (by kernel_rfl) (by kernel_rfl) (by kernel_rfl) (fun _ _ _ h => h) (Or.inl ⟨by rfl, fun wz hSz => ?_⟩) (by assumption) ?_
  rotate_left
  · (first | (go_simp; done) | (go_simp; with_reducible rfl) | (obtain ⟨f1, f2⟩ := (unhide HF) wz hSz; clear hSz; first | (go_simp; done) | (go_simp; with_reducible rfl)))
  try simp only [Act.put, List.setIfInBounds_toArray, List.set_cons_zero, List.set_cons_succ, List.getElem_toArray, List.getElem_cons_succ, List.getElem_cons_zero]
  refine wpAnyH_take (i := 7) (oi := _) (v := _) rfl (by kernel_rfl) (by kernel_rfl) (by kernel_rfl) (fun _ _ _ h => h) (ylm digest_wide rfl (by rfl) rfl (unhide HTL) (fun w' hw => rangeAt_ext (unhide HQ).2.2.2 hw)) (by assumption) ?_
  try simp only [Act.put, List.setIfInBounds_toArray, List.set_cons_zero, List.set_cons_succ, List.getElem_toArray, List.getElem_cons_succ, List.getElem_cons_zero]
  refine wpAnyH_ready (rs := [5]) (by kernel_rfl) (by simp) (AllReadyH.cons (o := _) rfl (fun K hK => ?_) AllReadyH.nil)
  go_simp
  refine (unhide HTg _ ((unhide HM).ext ((((Ext.refl w).alloc _).alloc _).trans hHeld))).mono ?_; rintro e w5 ⟨rfl, hE5⟩; have hS := Ext.trans hHeld hE5; clear hE5 hHeld
  refine hK.out _ _ ?_ (fun hHeld => ?_)
  · exact hS
  clear hK K
  try simp only [Act.put, List.setIfInBounds_toArray, List.set_cons_zero, List.set_cons_succ, List.getElem_toArray, List.getElem_cons_succ, List.getElem_cons_zero]
  refine wpAnyH_take (i := 8) (oi := _) (v := ?_) rfl (by kernel_rfl) (by kernel_rfl) (by kernel_rfl) (fun _ _ _ h => h) (Or.inl ⟨by rfl, fun wz hSz => ?_⟩) (by assumption) ?_
  rotate_left
  · (first | (go_simp; done) | (go_simp; with_reducible rfl) | (obtain ⟨f1, f2⟩ := (unhide HF) wz hSz; clear hSz; first | (go_simp; done) | (go_simp; with_reducible rfl)))
  try simp only [Act.put, List.setIfInBounds_toArray, List.set_cons_zero, List.set_cons_succ, List.getElem_toArray, List.getElem_cons_succ, List.getElem_cons_zero]
  refine wpAnyH_done (by kernel_rfl) ?_ _
  go_wp2
  go_ret2
  exact ⟨rfl, (((Ext.refl w).alloc _).alloc _).trans hHeld⟩

set_option maxRecDepth 100000 in
set_option maxHeartbeats 2000000 in
theorem open_yes (key : List UInt8) (nonce : Int) (c : ByteArray) (t : List UInt8) (w : World) (hM : ShaMem w) (hk : key.length = 16) (ht : t.length = 16) (h1 : -9223372036854775808 ≤ nonce) (h2 : nonce < 9223372036854775808) (hs : c.size ≤ 100000)
    (hyes : tagS key nonce c.data.toList = t) :
    Calls Tryd.prog 16 #[.agg (key.map u8v).toArray, .agg (boxV nonce c t)] w fun e w' => e = .returned (.tuple #[.string (strOf (applyS key nonce c.data.toList)), .int .i64 0]) ∧ Ext w w' := by
  obtain ⟨arr, harr⟩ : ∃ r, (key.map u8v).toArray = r := ⟨_, rfl⟩
  have HM := hide hM
  have HAp := hide (fun W hW => apply_any key nonce c W hW hk h1 h2 hs)
  have HTg := hide (fun W hW => tag_any key nonce c W hW hk h1 h2 hs)
  rw [harr] at HAp HTg ⊢
  have hasz : arr.size = 16 := by rw [← harr]; simpa using hk
  have HTL := hide (show (t.map u8v).length = 16 from by simpa using ht)
  have hne := fun W => ne16 (tagS_length key nonce c.data.toList) ht W
  rw [decide_eq_true hyes] at hne
  obtain ⟨tv, htv⟩ : ∃ l, t.map u8v = l := ⟨_, rfl⟩
  have hbx : boxV nonce c t = (Value.int .i64 nonce :: Value.string c :: tv).toArray := by rw [← htv]; rfl
  rw [htv] at hne HTL
  rw [hbx]
  obtain ⟨tg, htg⟩ : ∃ l, (tagS key nonce c.data.toList).map u8v = l := ⟨_, rfl⟩
  rw [htg] at hne HTg
  have HQ := hide (show Blk ((w.alloc (.cells arr 23)).alloc (.cells (Value.int .i64 nonce :: Value.string c :: tv).toArray 27)) w.heap.size 23 arr ∧
      ((w.alloc (.cells arr 23)).alloc (.cells (Value.int .i64 nonce :: Value.string c :: tv).toArray 27)).cell? ⟨w.heap.size + 1, 0, none⟩ = some (.int .i64 nonce) ∧
      ((w.alloc (.cells arr 23)).alloc (.cells (Value.int .i64 nonce :: Value.string c :: tv).toArray 27)).cell? ⟨w.heap.size + 1, 1, none⟩ = some (.string c) ∧
      ((w.alloc (.cells arr 23)).alloc (.cells (Value.int .i64 nonce :: Value.string c :: tv).toArray 27)).rangeAt (w.heap.size + 1) 2 tv from
    ⟨(Blk.new w _ _).alloc _, new_cell _ _ _ (by simp) rfl, new_cell _ _ _ (by simp) rfl, range_from (pre := [Value.int .i64 nonce, Value.string c]) (Blk.new' _ _ _ (by simp))⟩)
  have HF := hide (fun W (hE : Ext ((w.alloc (.cells arr 23)).alloc (.cells (Value.int .i64 nonce :: Value.string c :: tv).toArray 27)) W) => And.intro (Ext.cellv hE (unhide HQ).2.1) (Ext.cellv hE (unhide HQ).2.2.1))
  clear hM harr htv hbx htg
  go_enter Tryd.func16, Tryd.ntmps16
  go_upto_region 1 with fail
  refine wp_region_held_drew (S := fun w' => Ext ((w.alloc (.cells arr 23)).alloc (.cells (Value.int .i64 nonce :: Value.string c :: tv).toArray 27)) w') (by kernel_rfl) (Ext.refl _).drew (fun hHeld => ?_)
  refine wpAnyH_take (i := 0) (oi := _) (v := _) rfl (by kernel_rfl) (by kernel_rfl) (by kernel_rfl) (fun _ _ _ h => h) (ylb digest_wide rfl (by rfl) rfl hasz (fun w' hw => (unhide HQ).1.ext hw)) (by assumption) ?_
  try simp only [Act.put, List.setIfInBounds_toArray, List.set_cons_zero, List.set_cons_succ, List.getElem_toArray, List.getElem_cons_zero]
  refine wpAnyH_take (i := 1) (oi := _) (v := ?_) rfl (by kernel_rfl) (by kernel_rfl) (by kernel_rfl) (fun _ _ _ h => h) (Or.inl ⟨by rfl, fun wz hSz => ?_⟩) (by assumption) ?_
  rotate_left
  · (first | (go_simp; done) | (go_simp; with_reducible rfl) | (obtain ⟨f1, f2⟩ := (unhide HF) wz hSz; clear hSz; first | (go_simp; done) | (go_simp; with_reducible rfl)))
  try simp only [Act.put, List.setIfInBounds_toArray, List.set_cons_zero, List.set_cons_succ, List.getElem_toArray, List.getElem_cons_succ, List.getElem_cons_zero]
  refine wpAnyH_take (i := 2) (oi := _) (v := ?_) rfl (by kernel_rfl) (by kernel_rfl) (by kernel_rfl) (fun _ _ _ h => h) (Or.inl ⟨by rfl, fun wz hSz => ?_⟩) (by assumption) ?_
  rotate_left
  · (first | (go_simp; done) | (go_simp; with_reducible rfl) | (obtain ⟨f1, f2⟩ := (unhide HF) wz hSz; clear hSz; first | (go_simp; done) | (go_simp; with_reducible rfl)))
  try simp only [Act.put, List.setIfInBounds_toArray, List.set_cons_zero, List.set_cons_succ, List.getElem_toArray, List.getElem_cons_succ, List.getElem_cons_zero]
  refine wpAnyH_take (i := 3) (oi := _) (v := ?_) rfl (by kernel_rfl) (by kernel_rfl) (by kernel_rfl) (fun _ _ _ h => h) (Or.inl ⟨by rfl, fun wz hSz => ?_⟩) (by assumption) ?_
  rotate_left
  · (first | (go_simp; done) | (go_simp; with_reducible rfl) | (obtain ⟨f1, f2⟩ := (unhide HF) wz hSz; clear hSz; first | (go_simp; done) | (go_simp; with_reducible rfl)))
  try simp only [Act.put, List.setIfInBounds_toArray, List.set_cons_zero, List.set_cons_succ, List.getElem_toArray, List.getElem_cons_succ, List.getElem_cons_zero]
  refine wpAnyH_take (i := 4) (oi := _) (v := ?_) rfl (by kernel_rfl) (by kernel_rfl) (by kernel_rfl) (fun _ _ _ h => h) (Or.inl ⟨by rfl, fun wz hSz => ?_⟩) (by assumption) ?_
  rotate_left
  · (first | (go_simp; done) | (go_simp; with_reducible rfl) | (obtain ⟨f1, f2⟩ := (unhide HF) wz hSz; clear hSz; first | (go_simp; done) | (go_simp; with_reducible rfl)))
  try simp only [Act.put, List.setIfInBounds_toArray, List.set_cons_zero, List.set_cons_succ, List.getElem_toArray, List.getElem_cons_succ, List.getElem_cons_zero]
  refine wpAnyH_take (i := 6) (oi := _) (v := ?_) rfl (by kernel_rfl) (by kernel_rfl) (by kernel_rfl) (fun _ _ _ h => h) (Or.inl ⟨by rfl, fun wz hSz => ?_⟩) (by assumption) ?_
  rotate_left
  · (first | (go_simp; done) | (go_simp; with_reducible rfl) | (obtain ⟨f1, f2⟩ := (unhide HF) wz hSz; clear hSz; first | (go_simp; done) | (go_simp; with_reducible rfl)))
  try simp only [Act.put, List.setIfInBounds_toArray, List.set_cons_zero, List.set_cons_succ, List.getElem_toArray, List.getElem_cons_succ, List.getElem_cons_zero]
  refine wpAnyH_take (i := 7) (oi := _) (v := _) rfl (by kernel_rfl) (by kernel_rfl) (by kernel_rfl) (fun _ _ _ h => h) (ylm digest_wide rfl (by rfl) rfl (unhide HTL) (fun w' hw => rangeAt_ext (unhide HQ).2.2.2 hw)) (by assumption) ?_
  try simp only [Act.put, List.setIfInBounds_toArray, List.set_cons_zero, List.set_cons_succ, List.getElem_toArray, List.getElem_cons_succ, List.getElem_cons_zero]
  refine wpAnyH_ready (rs := [5]) (by kernel_rfl) (by simp) (AllReadyH.cons (o := _) rfl (fun K hK => ?_) AllReadyH.nil)
  go_simp
  refine (unhide HTg _ ((unhide HM).ext ((((Ext.refl w).alloc _).alloc _).trans hHeld))).mono ?_; rintro e w5 ⟨rfl, hE5⟩; have hS := Ext.trans hHeld hE5; clear hE5 hHeld
  refine hK.out _ _ ?_ (fun hHeld => ?_)
  · exact hS
  clear hK K
  try simp only [Act.put, List.setIfInBounds_toArray, List.set_cons_zero, List.set_cons_succ, List.getElem_toArray, List.getElem_cons_succ, List.getElem_cons_zero]
  refine wpAnyH_take (i := 8) (oi := _) (v := ?_) rfl (by kernel_rfl) (by kernel_rfl) (by kernel_rfl) (fun _ _ _ h => h) (Or.inl ⟨by rfl, fun wz hSz => ?_⟩) (by assumption) ?_
  rotate_left
  · (first | (go_simp; done) | (go_simp; with_reducible rfl) | (obtain ⟨f1, f2⟩ := (unhide HF) wz hSz; clear hSz; first | (go_simp; done) | (go_simp; with_reducible rfl)))
  try simp only [Act.put, List.setIfInBounds_toArray, List.set_cons_zero, List.set_cons_succ, List.getElem_toArray, List.getElem_cons_succ, List.getElem_cons_zero]
  refine wpAnyH_done (by kernel_rfl) ?_ _
  have HQ2 := hide (show Blk w5 w.heap.size 23 arr ∧ w5.cell? ⟨w.heap.size + 1, 0, none⟩ = some (.int .i64 nonce) ∧ w5.cell? ⟨w.heap.size + 1, 1, none⟩ = some (.string c) ∧ Ext w w5 from
    ⟨(unhide HQ).1.ext hHeld, Ext.cellv hHeld (unhide HQ).2.1, Ext.cellv hHeld (unhide HQ).2.2.1, (((Ext.refl w).alloc _).alloc _).trans hHeld⟩)
  have c1 := (unhide HQ2).2.1
  have c2 := (unhide HQ2).2.2.1
  clear hHeld HQ HF
  go_wp2_with (first
    | (refine wpList_loadB (x := .tmp 2) rfl rfl digest_wide rfl (cs := arr) (unhide HQ2).1 hasz ?_)
    | (go_at_call 43; refine (unhide HAp _ ((unhide HM).ext (unhide HQ2).2.2.2)).mono ?_; rintro e w6 ⟨rfl, hE6⟩; have H6 := hide hE6; clear hE6))
  go_ret2
  exact ⟨rfl, (unhide HQ2).2.2.2.trans (unhide H6)⟩

end Go.Proofs.YtcjlkjcadaaleaaDoor

/-
  What the sanity of the laws of boxes asks of three examples, by evaluation of the plain functions.
-/
namespace Go.Proofs.YtcjlkjcadaaleaaDoor
def kk7 : List UInt8 := 7 :: List.replicate 15 0
def kk8 : List UInt8 := 8 :: List.replicate 15 0
def secretS : List UInt8 := [115, 101, 99, 114, 101, 116]
def cc7 : List UInt8 := applyS kk7 3 secretS
def tt7 : List UInt8 := tagS kk7 3 cc7
set_option maxRecDepth 100000 in
theorem box_facts : (cc7 != secretS && (tagS kk8 3 cc7 != tt7 && tagS kk7 3 [] != tt7)) = true := by decide +kernel
end Go.Proofs.YtcjlkjcadaaleaaDoor

/-
  The sanity of the laws of boxes.
-/
namespace Go.Proofs.YtcjlkjcadaaleaaDoor
open Go.RowKit

theorem xor_back (a x : UInt8) : (a ^^^ x) ^^^ x = a := by rw [UInt8.xor_assoc, UInt8.xor_self, UInt8.xor_zero]
theorem zip_back (s x : List UInt8) (h : s.length ≤ x.length) : List.zipWith (· ^^^ ·) (List.zipWith (· ^^^ ·) s x) x = s := by
  induction s generalizing x with
  | nil => simp
  | cons a s ih =>
    cases x with
    | nil => simp at h
    | cons b x =>
      simp only [List.zipWith_cons_cons]
      rw [xor_back, ih x (by simpa using h)]
theorem apply_back (key : List UInt8) (nonce : Int) (s : List UInt8) : applyS key nonce (applyS key nonce s) = s := by
  have hl := applyS_length key nonce s
  unfold applyS at hl ⊢
  rw [hl]
  exact zip_back _ _ (by rw [streamS_length]; simp)

def boxL (n : Int) (c : ByteArray) (l : List Value) : Array Value := (Value.int .i64 n :: Value.string c :: l).toArray
theorem boxV_eq (n : Int) (c : ByteArray) (t : List UInt8) : boxV n c t = boxL n c (t.map u8v) := rfl
theorem boxL_size {n : Int} {c : ByteArray} {l : List Value} (h : l.length = 16) : (boxL n c l).size = 18 := by unfold boxL; simp [h]
theorem boxL_one {n : Int} {c : ByteArray} {t : List UInt8} : (boxL n c (t.map u8v)).all (·.oneCell') = true := by
  unfold boxL
  rw [← Array.all_toList]
  simp [u8v]
  exact ⟨rfl, rfl, fun _ _ => rfl⟩

theorem boxL_set (n : Int) (c : ByteArray) (u v : Value) (r : List Value) : (boxL n c (u :: r)).setIfInBounds 2 v = boxL n c (v :: r) := by simp [boxL]
theorem boxL_range {w : World} {g : Nat} {t : TypeId} {n : Int} {c : ByteArray} {l : List Value} (h : Blk w g t (boxL n c l)) : w.rangeAt g 2 l := range_from (pre := [Value.int .i64 n, Value.string c]) h
def secretB : ByteArray := { data := #[115, 101, 99, 114, 101, 116] }
def emptyB : ByteArray := { data := #[] }
theorem seal7 (s : ByteArray) (w : World) (hM : ShaMem w) (hs : s.size ≤ 1000) : Calls Tryd.prog 15 #[.agg (kk7.map u8v).toArray, .int .i64 3, .string s] w fun e w' =>
    e = .returned (.agg (boxL 3 (strOf (applyS kk7 3 s.data.toList)) ((tagS kk7 3 (applyS kk7 3 s.data.toList)).map u8v))) ∧ Ext w w' := seal_any kk7 3 s w hM rfl (by omega) (by omega) (by omega)

set_option maxRecDepth 100000 in
set_option maxHeartbeats 1000000 in
theorem sanity6_any (w : World) (hM : ShaMem w) : Calls Tryd.prog 14 #[] w fun e w' => e = .returned (.bool true) ∧ Ext w w' := by
  have HM := hide hM
  clear hM
  have hfacts := box_facts
  simp only [Bool.and_eq_true, bne_iff_ne, ne_eq] at hfacts
  obtain ⟨hb1, hb2, hb3⟩ := hfacts
  obtain ⟨cs, hcs⟩ : ∃ c, strOf cc7 = c := ⟨_, rfl⟩
  have hcl : cs.data.toList = cc7 := by rw [← hcs]; exact strOf_list _
  have hcz : cs.size = 6 := by rw [← hcs, strOf_size, cc7, applyS_length]; rfl
  have hcn : ¬ cs = secretB := fun e => hb1 (by rw [← hcl, e]; rfl)
  obtain ⟨t0, tr, ht⟩ : ∃ a l, tt7 = a :: l := by
    have := tagS_length kk7 3 cc7
    cases h : tt7 with
    | nil => rw [← tt7, h] at this; cases this
    | cons a l => exact ⟨a, l, rfl⟩
  have htl : (t0 :: tr).length = 16 := by rw [← ht]; exact tagS_length _ _ _
  have HSeal := hide (fun W hW => seal7 secretB W hW (by decide))
  rw [show applyS kk7 3 secretB.data.toList = cc7 from rfl, hcs, ← tt7, ht] at HSeal
  have HSealE := hide (fun W hW => seal7 emptyB W hW (by decide))
  obtain ⟨te, hte⟩ : ∃ l, tagS kk7 3 [] = l := ⟨_, rfl⟩
  have hae : applyS kk7 3 emptyB.data.toList = [] := List.length_eq_zero_iff.1 (applyS_length _ _ _)
  rw [hae, hte] at HSealE
  have htel : te.length = 16 := by rw [← hte]; exact tagS_length _ _ _
  rw [hte] at hb3
  have HOpen := hide (fun W hW => open_yes kk7 3 cs (t0 :: tr) W hW rfl htl (by omega) (by omega) (by omega) (by rw [hcl, ← ht]; rfl))
  rw [hcl, show applyS kk7 3 cc7 = secretS from apply_back _ _ _, show strOf secretS = { data := #[115, 101, 99, 114, 101, 116] } from rfl] at HOpen
  have HBad := hide (fun W hW => open_no kk7 3 cs ((t0 ^^^ 1) :: tr) W hW rfl (by simpa using htl) (by omega) (by omega) (by omega) (by
    rw [hcl]
    show ¬ tt7 = _
    rw [ht]
    intro e
    injection e with e1
    have : (t0 ^^^ 1) ^^^ 1 = t0 := xor_back t0 1
    have h2 : t0 ^^^ t0 = t0 ^^^ (t0 ^^^ 1) := by rw [← e1]
    rw [UInt8.xor_self, ← UInt8.xor_assoc, UInt8.xor_self] at h2
    cases h2))
  have HNo := hide (fun W hW => open_no kk8 3 cs (t0 :: tr) W hW rfl htl (by omega) (by omega) (by omega) (by rw [hcl, ← ht]; exact hb2))
  have hne : ∀ W, (binOp .neq 23 (.agg (te.map u8v).toArray) (.agg ((t0 :: tr).map u8v).toArray)).run Tryd.prog W = .ok (.bool true) W := fun W => by
    rw [ne16 htel htl]
    rw [ht] at hb3
    rw [decide_eq_false hb3]
    rfl
  have hxx : bits BinOp.xor IntKind.u8 (t0.toNat : Int) 1 = ((t0 ^^^ 1).toNat : Int) := xor8 t0 1
  obtain ⟨t1, ht1⟩ : ∃ x, t0 ^^^ 1 = x := ⟨_, rfl⟩
  rw [ht1] at hxx HBad
  clear ht1
  obtain ⟨k7, hk7⟩ : ∃ r, (kk7.map u8v).toArray = r := ⟨_, rfl⟩
  obtain ⟨k8, hk8⟩ : ∃ r, (kk8.map u8v).toArray = r := ⟨_, rfl⟩
  obtain ⟨tv, htv⟩ : ∃ r, (t0 :: tr).map u8v = r := ⟨_, rfl⟩
  obtain ⟨tb, htb⟩ : ∃ r, (t1 :: tr).map u8v = r := ⟨_, rfl⟩
  obtain ⟨tev, htev⟩ : ∃ r, te.map u8v = r := ⟨_, rfl⟩
  have HK7 := hide (show k7 = #[.int .u8 7, .int .u8 0, .int .u8 0, .int .u8 0, .int .u8 0, .int .u8 0, .int .u8 0, .int .u8 0, .int .u8 0, .int .u8 0, .int .u8 0, .int .u8 0, .int .u8 0, .int .u8 0, .int .u8 0, .int .u8 0] ∧ k7.size = 16 ∧ k7.all (·.oneCell') = true from by rw [← hk7]; exact ⟨rfl, rfl, bytes_one _⟩)
  have HK8 := hide (show k8 = #[.int .u8 8, .int .u8 0, .int .u8 0, .int .u8 0, .int .u8 0, .int .u8 0, .int .u8 0, .int .u8 0, .int .u8 0, .int .u8 0, .int .u8 0, .int .u8 0, .int .u8 0, .int .u8 0, .int .u8 0, .int .u8 0] from by rw [← hk8]; rfl)
  have HTV := hide (show tv = u8v t0 :: tr.map u8v ∧ tb = u8v t1 :: tr.map u8v ∧ tv.length = 16 ∧ tb.length = 16 ∧ tev.length = 16 from by
    rw [← htv, ← htb, ← htev]
    exact ⟨rfl, rfl, by simpa using htl, by simpa using htl, by simpa using htel⟩)
  have HB1 := hide (show (boxL 3 cs tv).all (·.oneCell') = true ∧ (boxL 3 emptyB tev).all (·.oneCell') = true from by rw [← htv, ← htev]; exact ⟨boxL_one, boxL_one⟩)
  rw [hk7, htv] at HSeal
  rw [hk7, htev, show strOf [] = emptyB from rfl] at HSealE
  rw [hk7, boxV_eq, htv] at HOpen
  rw [hk7, boxV_eq, htb] at HBad
  rw [hk8, boxV_eq, htv] at HNo
  rw [htev, htv] at hne
  have hcn4 : ¬ cs.toList = [115, 101, 99, 114, 101, 116] := by rw [ByteArray.toList_eq, hcl]; exact hb1
  have hcn5 : (cs.toList == [115, 101, 99, 114, 101, 116]) = false := by simpa using hcn4
  clear hb1 hb2 hb3 hcs hcl hcn ht htl hte hae htel hk7 hk8 htv htb htev
  go_enter Tryd.func14, Tryd.ntmps14
  go_upto_region 3 with (first
    | (refine wpList_storeB (ty := 23) (t := 23) (x := .tmp 1) (y := .tmp 11) (cs := k7) rfl rfl digest_wide rfl (by rw [(unhide HK7).1]; rfl) (Blk.new w _ _) rfl (unhide HK7).2.1 (unhide HK7).2.2 ?_; intro w1 hb1 hc1 hz1; have H1 := hide (And.intro (made_ext (Ext.refl w) hc1) hb1); clear hb1 hc1 hz1)
    | (refine wpList_loadB (x := .tmp 1) rfl rfl digest_wide rfl (cs := k7) (unhide H1).2 (unhide HK7).2.1 ?_)
    | (go_at_call 15; refine (unhide HSeal _ ((unhide HM).ext (unhide H1).1)).mono ?_; rintro e w2 ⟨rfl, hE2⟩; have H2 := hide (And.intro ((unhide H1).1.trans hE2) ((unhide H1).2.ext hE2)); clear hE2)
    | (refine wpList_storeB (ty := 27) (t := 27) (x := .tmp 2) (y := .tmp 13) (cs := boxL 3 cs tv) rfl rfl box_wide rfl rfl (Blk.new w2 _ _) rfl (boxL_size (unhide HTV).2.2.1) (unhide HB1).1 ?_; intro w3 hb3 hc3 hz3; have H3 := hide (And.intro (made_ext (unhide H2).1 hc3) (And.intro ((unhide H2).2.ext (made_ext1 hc3)) hb3)); clear hb3 hc3 hz3))
  have HL1 := hide (unhide H2).2.lt
  clear H1 H2 HSeal
  go_upto_region 5 with (first
    | (refine wpList_loadB (x := .tmp 1) rfl rfl digest_wide rfl (cs := k7) (unhide H3).2.1 (unhide HK7).2.1 ?_)
    | (refine wpList_loadB (x := .tmp 2) rfl rfl box_wide rfl (cs := boxL 3 cs tv) (unhide H4).2.2 (boxL_size (unhide HTV).2.2.1) ?_)
    | (refine wpList_loadB (x := .tmp 2) rfl rfl box_wide rfl (cs := boxL 3 cs tv) (unhide H3).2.2 (boxL_size (unhide HTV).2.2.1) ?_)
    | (go_at_call 16; refine (unhide HOpen _ ((unhide HM).ext (unhide H3).1)).mono ?_; rintro e w4 ⟨rfl, hE4⟩; have H4 := hide (And.intro ((unhide H3).1.trans hE4) (And.intro ((unhide H3).2.1.ext hE4) ((unhide H3).2.2.ext hE4))); clear hE4)
    | (refine wpList_storeB (ty := 27) (t := 27) (x := .tmp 5) (y := .tmp 20) (cs := boxL 3 cs tv) rfl rfl box_wide rfl rfl (Blk.new w4 _ _) rfl (boxL_size (unhide HTV).2.2.1) (unhide HB1).1 ?_; intro w5 hb5 hc5 hz5; have H5 := hide (And.intro (made_ext (unhide H4).1 hc5) (And.intro ((unhide H4).2.1.ext (made_ext1 hc5)) (And.intro ((unhide H4).2.2.ext (made_ext1 hc5)) hb5))); clear hb5 hc5 hz5))
  have HLT := hide (show w.heap.size < w2.heap.size ∧ w2.heap.size < w4.heap.size from ⟨unhide HL1, (unhide H4).2.2.lt⟩)
  have TK := hide True.intro
  clear H3 H4 HOpen
  have c5 : w5.cell? ⟨w4.heap.size, 2, none⟩ = some (.int .u8 (t0.toNat : Int)) := by rw [(unhide H5).2.2.2.cell, (unhide HTV).1]; rfl
  have f5 := (unhide H5).2.2.2.frozen 2
  go_upto_region 6 with fail
  clear c5 f5 hxx
  have H6 := hide (show Ext w (w5.setCell ⟨w4.heap.size, 2, none⟩ (.int .u8 (t1.toNat : Int))) ∧ Blk (w5.setCell ⟨w4.heap.size, 2, none⟩ (.int .u8 (t1.toNat : Int))) w.heap.size 23 k7 ∧ Blk (w5.setCell ⟨w4.heap.size, 2, none⟩ (.int .u8 (t1.toNat : Int))) w2.heap.size 27 (boxL 3 cs tv) ∧ Blk (w5.setCell ⟨w4.heap.size, 2, none⟩ (.int .u8 (t1.toNat : Int))) w4.heap.size 27 (boxL 3 cs tb) ∧ w.heap.size < w2.heap.size ∧ w2.heap.size < w4.heap.size from by
    obtain ⟨q1, q2, q3, q4⟩ := unhide H5
    obtain ⟨l1, l2⟩ := unhide HLT
    refine ⟨q1.setCell (by simp; omega) _, q2.far' (by omega) _ _, q3.far' (by omega) _ _, ?_, l1, l2⟩
    have := q4.set_ 2 (.int .u8 (t1.toNat : Int))
    rw [(unhide HTV).1, boxL_set] at this
    rw [(unhide HTV).2.1]
    exact this)
  clear H5
  generalize w5.setCell ⟨w4.heap.size, 2, none⟩ (.int .u8 (t1.toNat : Int)) = w6 at *
  go_upto_region 8 with (first
    | (refine wpList_loadB (x := .tmp 1) rfl rfl digest_wide rfl (cs := k7) (unhide H6).2.1 (unhide HK7).2.1 ?_)
    | (refine wpList_loadB (x := .tmp 5) rfl rfl box_wide rfl (cs := boxL 3 cs tb) (unhide H6).2.2.2.1 (boxL_size (unhide HTV).2.2.2.1) ?_)
    | (refine wpList_loadB (x := .tmp 2) rfl rfl box_wide rfl (cs := boxL 3 cs tv) (unhide H7).2.2.1 (boxL_size (unhide HTV).2.2.1) ?_)
    | (have TT := unhide TK; clear TK; go_at_call 16; clear TT; refine (unhide HBad _ ((unhide HM).ext (unhide H6).1)).mono ?_; rintro e w7 ⟨rfl, hE7⟩; have H7 := hide (And.intro ((unhide H6).1.trans hE7) (And.intro ((unhide H6).2.1.ext hE7) (And.intro ((unhide H6).2.2.1.ext hE7) (unhide H6).2.2.2.2))); clear hE7)
    | (go_at_call 16; rw [← unhide HK8]; refine (unhide HNo _ ((unhide HM).ext (unhide H7).1)).mono ?_; rintro e w8 ⟨rfl, hE8⟩; have H8 := hide (And.intro ((unhide H7).1.trans hE8) (And.intro ((unhide H7).2.1.ext hE8) (And.intro ((unhide H7).2.2.1.ext hE8) (unhide H7).2.2.2))); clear hE8))
  clear H6 H7 HBad HNo HK8
  go_upto_region 9 with (first
    | (refine wpList_loadB (x := .tmp 1) rfl rfl digest_wide rfl (cs := k7) (unhide H8).2.1 (unhide HK7).2.1 ?_)
    | (go_at_call 15; refine (unhide HSealE _ ((unhide HM).ext (unhide H8).1)).mono ?_; rintro e w9 ⟨rfl, hE9⟩; have H9 := hide (And.intro ((unhide H8).1.trans hE9) ((unhide H8).2.2.1.ext hE9)); clear hE9)
    | (refine wpList_storeB (ty := 27) (t := 27) (x := .tmp 10) (y := .tmp 40) (cs := boxL 3 emptyB tev) rfl rfl box_wide rfl rfl (Blk.new w9 _ _) rfl (boxL_size (unhide HTV).2.2.2.2) (unhide HB1).2 ?_; intro w10 hb10 hc10 hz10; have H10 := hide (And.intro (made_ext (unhide H9).1 hc10) (And.intro ((unhide H9).2.ext (made_ext1 hc10)) hb10)); clear hb10 hc10 hz10))
  clear H8 H9
  have d0 : w10.cell? ⟨w2.heap.size, 0, none⟩ = some (.int .i64 3) := by rw [(unhide H10).2.1.cell]; rfl
  have d1 : w10.cell? ⟨w2.heap.size, 1, none⟩ = some (.string cs) := by rw [(unhide H10).2.1.cell]; rfl
  have d2 : w10.cell? ⟨w9.heap.size, 1, none⟩ = some (.string emptyB) := by rw [(unhide H10).2.2.cell]; rfl
  have hcz6 : (cs.size : Int) = 6 := by omega
  unfold emptyB at d2
  go_wp2_with (first
    | (refine wpList_loadMG (x := .tmp 77) (g := w9.heap.size) (off := 2) ?_ rfl digest_wide ?_ (boxL_range (unhide H10).2.2) (unhide HTV).2.2.2.2 ?_; (focus (first | rfl | (go_simp; done) | simp [Region.wanted, yielded, hcn4])); (focus rfl))
    | (refine wpList_loadMG (x := .tmp 79) (g := w2.heap.size) (off := 2) ?_ rfl digest_wide ?_ (boxL_range (unhide H10).2.1) (unhide HTV).2.2.1 ?_; (focus (first | rfl | (go_simp; done) | simp [Region.wanted, yielded, hcn4])); (focus rfl)))
  go_ret
  exact ⟨rfl, (unhide H10).1⟩

end Go.Proofs.YtcjlkjcadaaleaaDoor

/-
  A region that draws its order, by facts: each operation but the last ones has a fact of the value that it leaves; whatever the order, it holds when its turn comes. Plain: no function of the program is named here.
-/
namespace Go.Proofs.YtcjlkjcadaaleaaDoor
open Go.RowKit

def upd (xs : Nat → Value) (i : Nat) (v : Value) : Nat → Value := fun j => if j = i then v else xs j
def putL : List (Option Nat) → Nat → (Nat → Value) → Array Value → Array Value
  | [], _, _, t => t
  | none :: ds, k, xs, t => putL ds (k + 1) xs t
  | some d :: ds, k, xs, t => putL ds (k + 1) xs (t.setIfInBounds d (xs k))
/-- The frame with what the operations have left. -/
def setAll (a : Act) (ds : List (Option Nat)) (xs : Nat → Value) : Act := { a with tmps := putL ds 0 xs a.tmps }
def NodupD : List (Option Nat) → Prop
  | [] => True
  | none :: ds => NodupD ds
  | some d :: ds => some d ∉ ds ∧ NodupD ds
def nodupB : List (Option Nat) → Bool
  | [] => true
  | none :: ds => nodupB ds
  | some d :: ds => !(ds.contains (some d)) && nodupB ds
theorem nodup_of : ∀ {ds : List (Option Nat)}, nodupB ds = true → NodupD ds
  | [], _ => trivial
  | none :: ds, h => nodup_of (ds := ds) h
  | some d :: ds, h => by
    rw [nodupB, Bool.and_eq_true] at h
    exact ⟨by simpa using h.1, nodup_of h.2⟩

theorem putL_set (v : Value) (d : Nat) (xs : Nat → Value) : ∀ (ds : List (Option Nat)) (k : Nat) (t : Array Value), some d ∉ ds → putL ds k xs (t.setIfInBounds d v) = (putL ds k xs t).setIfInBounds d v
  | [], _, _, _ => rfl
  | none :: ds, k, t, h => putL_set v d xs ds (k + 1) t (fun h2 => h (List.mem_cons_of_mem _ h2))
  | some e :: ds, k, t, h => by
    rw [putL, putL, ← putL_set v d xs ds (k + 1) _ (fun h2 => h (List.mem_cons_of_mem _ h2))]
    have hne : d ≠ e := fun he => h (by rw [he]; exact List.mem_cons_self)
    rw [Array.setIfInBounds_comm _ _ hne]
theorem putL_upd_lt (v : Value) (i : Nat) (xs : Nat → Value) : ∀ (ds : List (Option Nat)) (k : Nat) (t : Array Value), i < k → putL ds k (upd xs i v) t = putL ds k xs t
  | [], _, _, _ => rfl
  | none :: ds, k, t, h => putL_upd_lt v i xs ds (k + 1) t (by omega)
  | some e :: ds, k, t, h => by
    rw [putL, putL, show upd xs i v k = xs k from if_neg (by omega), putL_upd_lt v i xs ds (k + 1) _ (by omega)]
theorem putL_upd (v : Value) (xs : Nat → Value) (d : Nat) : ∀ (ds : List (Option Nat)) (k i : Nat) (t : Array Value), NodupD ds → ds[i]? = some (some d) → putL ds k (upd xs (k + i) v) t = (putL ds k xs t).setIfInBounds d v
  | [], _, _, _, _, h => by simp at h
  | none :: ds, k, 0, t, hn, h => by simp at h
  | some e :: ds, k, 0, t, hn, h => by
    obtain rfl : e = d := by simpa using h
    rw [Nat.add_zero, putL, putL, putL_upd_lt v k xs ds (k + 1) _ (by omega), show upd xs k v k = v from if_pos rfl, ← putL_set v e xs ds (k + 1) _ hn.1, Array.setIfInBounds_setIfInBounds]
  | none :: ds, k, i + 1, t, hn, h => by
    rw [putL, putL, show k + (i + 1) = (k + 1) + i from by omega]
    exact putL_upd v xs d ds (k + 1) i _ hn (by simpa using h)
  | some e :: ds, k, i + 1, t, hn, h => by
    rw [putL, putL, show upd xs (k + (i + 1)) v k = xs k from if_neg (by omega), show k + (i + 1) = (k + 1) + i from by omega]
    exact putL_upd v xs d ds (k + 1) i _ hn.2 (by simpa using h)
theorem putL_upd_none (v : Value) (xs : Nat → Value) : ∀ (ds : List (Option Nat)) (k i : Nat) (t : Array Value), ds[i]? = some none → putL ds k (upd xs (k + i) v) t = putL ds k xs t
  | [], _, _, _, h => by simp at h
  | none :: ds, k, 0, t, h => by rw [Nat.add_zero, putL, putL, putL_upd_lt v k xs ds (k + 1) _ (by omega)]
  | some e :: ds, k, 0, t, h => by simp at h
  | none :: ds, k, i + 1, t, h => by
    rw [putL, putL, show k + (i + 1) = (k + 1) + i from by omega]
    exact putL_upd_none v xs ds (k + 1) i _ (by simpa using h)
  | some e :: ds, k, i + 1, t, h => by
    rw [putL, putL, show upd xs (k + (i + 1)) v k = xs k from if_neg (by omega), show k + (i + 1) = (k + 1) + i from by omega]
    exact putL_upd_none v xs ds (k + 1) i _ (by simpa using h)
theorem setAll_put (a : Act) (ds : List (Option Nat)) (xs : Nat → Value) (i : Nat) (d : Option Nat) (v : Value) (hn : NodupD ds) (h : ds[i]? = some d) : (setAll a ds xs).put d v = setAll a ds (upd xs i v) := by
  cases d with
  | none =>
    have := putL_upd_none v xs ds 0 i a.tmps h
    rw [Nat.zero_add] at this
    unfold setAll Act.put
    rw [this]
  | some d =>
    have := putL_upd v xs d ds 0 i a.tmps hn h
    rw [Nat.zero_add] at this
    unfold setAll Act.put
    rw [this]
theorem putL_self (xs : Nat → Value) : ∀ (ds : List (Option Nat)) (k : Nat) (t : Array Value), (∀ i d, ds[i]? = some (some d) → t.getD d undef = xs (k + i)) → putL ds k xs t = t
  | [], _, _, _ => rfl
  | none :: ds, k, t, h => putL_self xs ds (k + 1) t fun i d hd => by rw [h (i + 1) d (by simpa using hd)]; congr 1; omega
  | some d :: ds, k, t, h => by
    have h0 := h 0 d rfl
    have e : t.setIfInBounds d (xs k) = t := by
      rw [Nat.add_zero] at h0
      rw [← h0]
      apply Array.ext_getElem?
      intro j
      by_cases hj : d = j
      · subst hj
        by_cases hd : d < t.size
        · simp [hd]
        · rw [Array.getElem?_eq_none (by simpa using hd), Array.getElem?_eq_none (by simpa using hd)]
      · rw [Array.getElem?_setIfInBounds_ne hj]
    rw [putL, e, putL_self xs ds (k + 1) t fun i d hd => by rw [h (i + 1) d (by simpa using hd)]; congr 1; omega]
theorem setAll_self (a : Act) (ds : List (Option Nat)) : setAll a ds (fun i => a.tmps.getD ((ds.getD i none).getD 0) undef) = a := by
  unfold setAll
  rw [putL_self]
  intro i d hd
  simp [List.getD_eq_getElem?_getD, hd]

section
variable {P : Program} {ops : Array Oper} {md : Region.Mode} {Q : Exit → Act → World → Prop}

def backB (md : Region.Mode) (ops : Array Oper) : Bool := (List.range ops.size).all fun i => match ops[i]? with | some o => o.after.all (fun e => !Region.binds md e || decide (e.on < i)) | none => true
def headAll (m n : Nat) : Array Bool := (Array.replicate m true) ++ (Array.replicate (n - m) false)
theorem headAll_of {listed : Array Bool} {m n : Nat} (hm : m ≤ n) (hs : listed.size = n) (h1 : ∀ i, i < m → listed.getD i false = true) (h2 : ∀ i, m ≤ i → i < n → listed.getD i true = false) : listed = headAll m n := by
  unfold headAll
  apply Array.ext
  · simp; omega
  · intro i h3 h4
    rw [Array.getElem_append]
    split
    · rename_i h
      have := h1 i (by simpa using h)
      rw [Array.getD_eq_getD_getElem?, Array.getElem?_eq_getElem h3] at this
      simpa using this
    · rename_i h
      have := h2 i (by simpa using h) (by omega)
      rw [Array.getD_eq_getD_getElem?, Array.getElem?_eq_getElem h3] at this
      simpa using this

theorem count_set {listed : Array Bool} {i : Nat} (h : listed.getD i true = false) : (listed.setIfInBounds i true).toList.count false + 1 = listed.toList.count false := by
  have hi : i < listed.size := by
    rcases Nat.lt_or_ge i listed.size with h' | h'
    · exact h'
    · simp [Array.getElem?_eq_none h'] at h
  have hv : listed.toList[i]'(by simpa using hi) = false := by
    rw [Array.getD_eq_getD_getElem?, Array.getElem?_eq_getElem hi] at h
    simpa using h
  rw [Array.toList_setIfInBounds, List.count_set (by simpa using hi), hv]
  have : 0 < listed.toList.count false := List.count_pos_iff.2 (hv ▸ List.getElem_mem _)
  rw [if_pos (by rfl), if_neg (by decide)]
  omega
theorem count_zero {listed : Array Bool} (h : listed.toList.count false = 0) : ∀ i, i < listed.size → listed.getD i false = true := by
  intro i hi
  have h1 := List.count_eq_zero.1 h
  have h2 : listed.toList[i]'(by simpa using hi) ≠ false := fun e => h1 (e ▸ List.getElem_mem _)
  rw [Array.getD_eq_getD_getElem?, Array.getElem?_eq_getElem hi]
  simpa using h2
theorem count_head (m n : Nat) : (headAll m n).toList.count false = n - m := by
  unfold headAll
  simp [List.count_replicate]

/-- k is listed when i comes up (f steps back at most). -/
def ancB (md : Region.Mode) (ops : Array Oper) : Nat → Nat → Nat → Bool
  | 0, _, _ => false
  | f + 1, i, k => Region.waitsFor md ops i k || (List.range ops.size).any fun j => Region.waitsFor md ops i j && ancB md ops f j k
/-- Operation i has the value of j among its operands. -/
def needB (md : Region.Mode) (ops : Array Oper) (i j : Nat) : Bool :=
  match ops[i]? with
  | some oi => oi.after.any fun e => (Region.binds md e && e.on == j) && (match e.ground with | .data => true | _ => false)
  | none => false
theorem need_waits {md : Region.Mode} {ops : Array Oper} {i j : Nat} (h : needB md ops i j = true) : Region.waitsFor md ops i j = true := by
  unfold needB at h
  unfold Region.waitsFor
  split at h
  · rename_i oi ho
    obtain ⟨e, he, hb⟩ := Array.any_eq_true'.1 h
    rw [ho]
    rw [Bool.and_eq_true] at hb
    exact Array.any_eq_true'.2 ⟨e, he, hb.1⟩
  · cases h
/-- The fact of j is still of use behind operation i. -/
def keepB (md : Region.Mode) (ops : Array Oper) (out : List Nat) (i j : Nat) : Bool := out.contains j || (List.range ops.size).any fun k => (needB md ops k j && !(k == i)) && !ancB md ops 4 i k
/-- The fact of j stands while i has not come up: some operation that waits for i has it among its operands. -/
def availB (md : Region.Mode) (ops : Array Oper) (out : List Nat) (i j : Nat) : Bool := out.contains j || (List.range ops.size).any fun k => needB md ops k j && Region.waitsFor md ops k i
def Closed (md : Region.Mode) (ops : Array Oper) (listed : Array Bool) : Prop := ∀ j oj, ops[j]? = some oj → listed.getD j false = true → ∀ e ∈ oj.after, Region.binds md e = true → listed.getD e.on false = true
theorem anc_listed {listed : Array Bool} (hc : Closed md ops listed) : ∀ (f i k : Nat), (∀ j, Region.waitsFor md ops i j = true → listed.getD j false = true) → ancB md ops f i k = true → listed.getD k false = true
  | 0, _, _, _, h => by cases h
  | f + 1, i, k, hd, h => by
    rw [ancB, Bool.or_eq_true, List.any_eq_true] at h
    rcases h with h | ⟨j, _, h⟩
    · exact hd k h
    · rw [Bool.and_eq_true] at h
      refine anc_listed hc f j k (fun j' hj' => ?_) h.2
      obtain ⟨oj, hoj, e, he, hbd, rfl⟩ := Region.waitsFor_spec hj'
      exact hc j oj hoj (hd j h.1) e he hbd

/-- What is kept while the first m operations come up: which are listed, their values, the world. -/
structure FactsAt (md : Region.Mode) (ops : Array Oper) (m : Nat) (out : List Nat) (B : (Nat → Bool) → (Nat → Value) → World → Prop) (link : Nat → Nat) (F : Nat → Value → Value → World → Prop) (listed : Array Bool) (xs : Nat → Value) (w : World) : Prop where
  size : listed.size = ops.size
  closed : Closed md ops listed
  tail : ∀ t, m ≤ t → t < ops.size → listed.getD t true = false
  base : B (fun i => listed.getD i false) xs w
  facts : ∀ i, i < m → listed.getD i false = true → (out.contains i = true ∨ ∃ k, k < ops.size ∧ needB md ops k i = true ∧ listed.getD k false = false) → F i (xs i) (xs (link i)) w

theorem ready_least (hb : backB md ops = true) {listed : Array Bool} (hs : listed.size = ops.size) : ∀ (n i : Nat), i < n → i < ops.size → listed.getD i true = false → Region.ready md ops listed ≠ []
  | 0, i, h, _, _ => by omega
  | n + 1, i, h, hi, hu => by
    intro h0
    by_cases hr : i ∈ Region.ready md ops listed
    · rw [h0] at hr; cases hr
    · apply hr
      rw [mem_ready]
      refine ⟨hu, ops[i], Array.getElem?_eq_getElem hi, fun e he hbd => ?_⟩
      have h1 := List.all_eq_true.1 hb i (List.mem_range.2 hi)
      rw [Array.getElem?_eq_getElem hi] at h1
      simp only [Array.all_eq_true_iff_forall_mem] at h1
      have h2 := h1 e he
      simp [hbd] at h2
      cases hl : listed.getD e.on false with
      | true => rfl
      | false => exact absurd h0 (ready_least hb hs n e.on (by omega) (by omega) (getD_in (by omega) hl))

/-- A fact may speak of the value of one operation that its own waits for. -/
def linkB (md : Region.Mode) (ops : Array Oper) (m : Nat) (link : Nat → Nat) : Bool := (List.range m).all fun i => (link i == i) || Region.waitsFor md ops i (link i)
theorem wpAny_facts (m : Nat) (ds : List (Option Nat)) (out : List Nat) (a0 : Act) (B : (Nat → Bool) → (Nat → Value) → World → Prop) (link : Nat → Nat) (F : Nat → Value → Value → World → Prop)
    (hm : m ≤ ops.size) (hds : ∀ i o, i < m → ops[i]? = some o → ds[i]? = some o.dst) (hnd : NodupD ds) (hlk : linkB md ops m link = true)
    (hb : backB md ops = true) (hsink : m = ops.size ∨ (Region.sinkB md ops m = true ∧ Region.chainB md ops m = true ∧ m < ops.size))
    (hstep : ∀ i o, i < m → ops[i]? = some o → ∀ (L : Nat → Bool) (xs : Nat → Value) (w : World) (K : Act → World → Prop), B L xs w → (∀ a b, L a = true → Region.waitsFor md ops a b = true → L b = true) → L i = false → (∀ j, j < m → needB md ops i j = true → L j = true ∧ F j (xs j) (xs (link j)) w) → (∀ j, j < m → j ≠ i → L j = true → availB md ops out i j = true → F j (xs j) (xs (link j)) w) → (∀ v w', F i v (upd xs i v (link i)) w' → (∀ j, j < m → j ≠ i → L j = true → keepB md ops out i j = true → F j (xs j) (xs (link j)) w → F j (xs j) (xs (link j)) w') → B (fun j => if j = i then true else L j) (upd xs i v) w' → K ((setAll a0 ds xs).put o.dst v) w') →
      if Region.wanted o (yielded ops (setAll a0 ds xs).tmps) = true then Oper.wp P o (setAll a0 ds xs) w K Q else K ((setAll a0 ds xs).put o.dst undef) w)
    (hend : ∀ (L : Nat → Bool) (xs : Nat → Value) (w : World), (∀ i, i < m → L i = true) → B L xs w → (∀ i, i < m → out.contains i = true → F i (xs i) (xs (link i)) w) → wpAny P md ops Q (ops.size - m) (headAll m ops.size) (setAll a0 ds xs) w) :
    ∀ (fuel : Nat) (listed : Array Bool) (xs : Nat → Value) (w : World), fuel = listed.toList.count false → FactsAt md ops m out B link F listed xs w → wpAny P md ops Q fuel listed (setAll a0 ds xs) w := by
  intro fuel
  induction fuel with
  | zero =>
    intro listed xs w hf h
    have hall := count_zero hf.symm
    have hme : m = ops.size := by
      rcases Nat.lt_or_ge m ops.size with hlt | hge
      · have h1 := h.tail m (Nat.le_refl _) hlt
        have h2 := hall m (by rw [h.size]; exact hlt)
        rw [getD_both h1] at h2
        cases h2
      · omega
    have hl : listed = headAll m ops.size := headAll_of hm h.size (fun i hi => hall i (by rw [h.size]; omega)) h.tail
    have h3 := hend _ xs w (fun i hi => hall i (by rw [h.size]; omega)) h.base fun i hi ho => h.facts i hi (hall i (by rw [h.size]; omega)) (.inl ho)
    rw [← hl, hme, Nat.sub_self] at h3
    exact h3
  | succ fuel ih =>
    intro listed xs w hf h
    by_cases hall : ∀ i, i < m → listed.getD i false = true
    · have hl : listed = headAll m ops.size := headAll_of hm h.size hall h.tail
      have h3 := hend _ xs w hall h.base fun i hi ho => h.facts i hi (hall i hi) (.inl ho)
      have h4 : fuel + 1 = ops.size - m := by rw [hf, hl, count_head]
      rw [← hl, ← h4] at h3
      exact h3
    · obtain ⟨i0, hi0⟩ := Classical.not_forall.1 hall
      obtain ⟨hi0m, hi0u⟩ := Classical.not_imp.1 hi0
      have hi0u' : listed.getD i0 true = false := getD_in (by rw [h.size]; omega) (by simpa using hi0u)
      refine ⟨fun h0 => absurd h0 (ready_least hb h.size (i0 + 1) i0 (by omega) (by omega) hi0u'), fun i hi => ?_⟩
      obtain ⟨hiu, o, ho, hdeps⟩ := mem_ready.1 hi
      have hilt : i < ops.size := (Array.getElem?_eq_some_iff.1 ho).1
      have him : i < m := by
        rcases hsink with rfl | ⟨hs, hc, hlt⟩
        · exact hilt
        · rcases Nat.lt_or_ge i m with h' | h'
          · exact h'
          · exact absurd hi (tail_waits hs hc hlt ⟨h.size, h.closed, h.tail⟩ _ i0 rfl hi0m hi0u' i h')
      have hdi := hds i o him ho
      have hdl : ∀ j, Region.waitsFor md ops i j = true → listed.getD j false = true := fun j hwt => by
        obtain ⟨oj, hoj, e, he, hbd, rfl⟩ := Region.waitsFor_spec hwt
        have : oj = o := Option.some.inj (hoj.symm.trans ho)
        subst this
        exact hdeps e he hbd
      have hnext : ∀ v w', F i v (upd xs i v (link i)) w' → (∀ j, j < m → j ≠ i → listed.getD j false = true → keepB md ops out i j = true → F j (xs j) (xs (link j)) w → F j (xs j) (xs (link j)) w') → B (fun j => if j = i then true else listed.getD j false) (upd xs i v) w' → wpAny P md ops Q fuel (listed.setIfInBounds i true) ((setAll a0 ds xs).put o.dst v) w' := by
        intro v w' h1 h2 h3
        rw [setAll_put a0 ds xs i o.dst v hnd hdi]
        refine ih _ _ _ ?_ ⟨by simp [h.size], fun j oj hj hl e he hbd => ?_, fun t ht ht' => ?_, ?_, fun j hj hl hu => ?_⟩
        · have := count_set hiu; omega
        · by_cases hij : i = j
          · subst hij
            have : oj = o := Option.some.inj (hj.symm.trans ho)
            subst this
            exact getD_set_true (hdeps e he hbd)
          · rw [getD_set_ne false hij] at hl
            exact getD_set_true (h.closed j oj hj hl e he hbd)
        · rw [getD_set_ne true (by omega)]
          exact h.tail t ht ht'
        · have he : (fun j => (listed.setIfInBounds i true).getD j false) = fun j => if j = i then true else listed.getD j false := funext fun j => by
            by_cases hij : j = i
            · subst hij
              rw [if_pos rfl, Array.getD_eq_getD_getElem?]
              simp [h.size, hilt]
            · rw [if_neg hij, getD_set_ne false (fun e => hij e.symm)]
          rw [he]
          exact h3
        · by_cases hij : i = j
          · subst hij
            rw [show upd xs i v i = v from if_pos rfl]
            exact h1
          · have hlj : upd xs i v (link j) = xs (link j) := if_neg (fun e => by
              have hj2 := List.all_eq_true.1 hlk j (List.mem_range.2 hj)
              rw [Bool.or_eq_true] at hj2
              rcases hj2 with hj2 | hj2
              · have : link j = j := by simpa using hj2
                exact hij (e.symm.trans this)
              · rw [e] at hj2
                rw [getD_set_ne false hij] at hl
                obtain ⟨oj, hoj, e2, he2, hbd, hon⟩ := Region.waitsFor_spec hj2
                have := h.closed j oj hoj hl e2 he2 hbd
                rw [hon, getD_both hiu] at this
                cases this)
            rw [hlj, show upd xs i v j = xs j from if_neg (fun e => hij e.symm)]
            rw [getD_set_ne false hij] at hl
            have hu' : out.contains j = true ∨ ∃ k, k < ops.size ∧ needB md ops k j = true ∧ k ≠ i ∧ listed.getD k false = false := by
              rcases hu with hu | ⟨k, hk, hw, hkl⟩
              · exact .inl hu
              · refine .inr ⟨k, hk, hw, fun e => ?_, ?_⟩
                · subst e
                  rw [Array.getD_eq_getD_getElem?] at hkl
                  simp [h.size, hk] at hkl
                · cases hkk : listed.getD k false with
                  | false => rfl
                  | true => rw [getD_set_true hkk] at hkl; cases hkl
            refine h2 j hj (fun e => hij e.symm) hl ?_ (h.facts j hj hl ?_)
            · unfold keepB
              rcases hu' with hu' | ⟨k, hk, hw, hne, hkl⟩
              · rw [hu']; rfl
              · rw [Bool.or_eq_true]
                refine .inr (List.any_eq_true.2 ⟨k, List.mem_range.2 hk, ?_⟩)
                have hna : ancB md ops 4 i k = false := by
                  cases ha : ancB md ops 4 i k with
                  | false => rfl
                  | true => rw [anc_listed h.closed 4 i k hdl ha] at hkl; cases hkl
                rw [hw, hna]
                simpa using hne
            · rcases hu' with hu' | ⟨k, hk, hw, _, hkl⟩
              · exact .inl hu'
              · exact .inr ⟨k, hk, hw, hkl⟩
      refine wpOp_step ho fun K' hK' => ?_
      refine hstep i o him ho _ xs w K' h.base (fun a b ha hw => ?_) (getD_both hiu) (fun j hj hwt => ⟨hdl j (need_waits hwt), h.facts _ hj (hdl j (need_waits hwt)) (.inr ⟨i, hilt, hwt, getD_both hiu⟩)⟩) (fun j hj hne hl hk => ?_) (fun v w' h1 h2 h3 => hK' _ _ (hnext v w' h1 h2 h3))
      · obtain ⟨oj, hoj, e, he, hbd, rfl⟩ := Region.waitsFor_spec hw
        exact h.closed a oj hoj ha e he hbd
      · refine h.facts j hj hl ?_
        unfold availB at hk
        rw [Bool.or_eq_true, List.any_eq_true] at hk
        rcases hk with hk | ⟨k, hkr, hk⟩
        · exact .inl hk
        · rw [Bool.and_eq_true] at hk
          refine .inr ⟨k, List.mem_range.1 hkr, hk.1, ?_⟩
          cases hkl : listed.getD k false with
          | false => rfl
          | true =>
            obtain ⟨ok, hok, e, he, hbd, hon⟩ := Region.waitsFor_spec hk.2
            have := h.closed k ok hok hkl e he hbd
            rw [hon, getD_both hiu] at this
            cases this

/-- What a step has to show, operation by operation. -/
def StepOK (P : Program) (Q : Exit → Act → World → Prop) (ops : Array Oper) (m : Nat) (ds : List (Option Nat)) (out : List Nat) (a0 : Act) (B : (Nat → Bool) → (Nat → Value) → World → Prop) (link : Nat → Nat) (F : Nat → Value → Value → World → Prop) (i : Nat) (o : Oper) : Prop :=
  ∀ (L : Nat → Bool) (xs : Nat → Value) (w : World) (K : Act → World → Prop), B L xs w → (∀ a b, L a = true → Region.waitsFor .any ops a b = true → L b = true) → L i = false → (∀ j, j < m → needB .any ops i j = true → L j = true ∧ F j (xs j) (xs (link j)) w) → (∀ j, j < m → j ≠ i → L j = true → availB .any ops out i j = true → F j (xs j) (xs (link j)) w) → (∀ v w', F i v (upd xs i v (link i)) w' → (∀ j, j < m → j ≠ i → L j = true → keepB .any ops out i j = true → F j (xs j) (xs (link j)) w → F j (xs j) (xs (link j)) w') → B (fun j => if j = i then true else L j) (upd xs i v) w' → K ((setAll a0 ds xs).put o.dst v) w') →
      if Region.wanted o (yielded ops (setAll a0 ds xs).tmps) = true then Oper.wp P o (setAll a0 ds xs) w K Q else K ((setAll a0 ds xs).put o.dst undef) w
def StepsOK (P : Program) (Q : Exit → Act → World → Prop) (ops : Array Oper) (m : Nat) (ds : List (Option Nat)) (out : List Nat) (a0 : Act) (B : (Nat → Bool) → (Nat → Value) → World → Prop) (link : Nat → Nat) (F : Nat → Value → Value → World → Prop) : Nat → List Oper → Prop
  | _, [] => True
  | i, o :: l => StepOK P Q ops m ds out a0 B link F i o ∧ StepsOK P Q ops m ds out a0 B link F (i + 1) l
theorem steps_at {m : Nat} {ds : List (Option Nat)} {out : List Nat} {a0 : Act} {B : (Nat → Bool) → (Nat → Value) → World → Prop} {link : Nat → Nat} {F : Nat → Value → Value → World → Prop} : ∀ (l : List Oper) (k i : Nat) (o : Oper), StepsOK P Q ops m ds out a0 B link F k l → l[i]? = some o → StepOK P Q ops m ds out a0 B link F (k + i) o
  | [], _, _, _, _, h => by simp at h
  | x :: l, k, 0, o, hs, h => by
    obtain rfl : x = o := by simpa using h
    exact hs.1
  | x :: l, k, i + 1, o, hs, h => by
    have := steps_at l (k + 1) i o hs.2 (by simpa using h)
    rwa [show k + (i + 1) = k + 1 + i from by omega]
def dstB (ops : Array Oper) (m : Nat) (ds : List (Option Nat)) : Bool := (List.range m).all fun i => match ops[i]? with | some o => ds[i]? == some o.dst | none => true

/-- The same from the head of the region. -/
theorem region_facts {id : Nat} {a0 : Act} {w0 : World} (m : Nat) (l : List Oper) (ds : List (Option Nat)) (out : List Nat) (B : (Nat → Bool) → (Nat → Value) → World → Prop) (link : Nat → Nat) (F : Nat → Value → Value → World → Prop)
    (hl : ops = l.toArray) (hmx : P.follows .mixedOrders = true) (hm : m ≤ ops.size) (hds : dstB ops m ds = true) (hnd : nodupB ds = true) (hlk : linkB .any ops m link = true)
    (hb : backB .any ops = true) (hsink : m = ops.size ∨ (Region.sinkB .any ops m = true ∧ Region.chainB .any ops m = true ∧ m < ops.size))
    (hB : ∀ xs, B (fun _ => false) xs w0.drew)
    (hstep : StepsOK P Q ops m ds out a0 B link F 0 (l.take m))
    (hend : ∀ (L : Nat → Bool) (xs : Nat → Value) (w : World), (∀ i, i < m → L i = true) → B L xs w → (∀ i, i < m → out.contains i = true → F i (xs i) (xs (link i)) w) → wpAny P .any ops Q (ops.size - m) (headAll m ops.size) (setAll a0 ds xs) w) :
    (Code.region id ops true).wp P Q a0 w0 := by
  refine wp_region_any hmx ?_
  have h := wpAny_facts m ds out a0 B link F hm (fun i o hi ho => by
      have h1 := List.all_eq_true.1 hds i (List.mem_range.2 hi)
      rw [ho] at h1
      simpa using h1) (nodup_of hnd) hlk hb hsink (fun i o hi ho => by
      have := steps_at (l.take m) 0 i o hstep (by rw [List.getElem?_take, if_pos hi]; rw [hl] at ho; simpa using ho)
      rw [Nat.zero_add] at this
      exact this) hend ops.size (Array.replicate ops.size false) (fun i => a0.tmps.getD ((ds.getD i none).getD 0) undef) w0.drew (by simp) ⟨by simp, fun j oj hj hl => (by rw [getD_replicate_false] at hl; cases hl), fun t ht ht' => (by simp [ht']), (by rw [show (fun i => (Array.replicate ops.size false).getD i false) = fun _ => false from funext fun i => getD_replicate_false _ i]; exact hB _), fun i hi hl => (by rw [getD_replicate_false] at hl; cases hl)⟩
  rw [setAll_self] at h
  exact h
end

end Go.Proofs.YtcjlkjcadaaleaaDoor

/-
  Two digests laid into two new blocks by a region that draws its order.
-/
namespace Go.Proofs.YtcjlkjcadaaleaaDoor
open Go.RowKit

def ptr (g : Nat) : Value := .pointer (some ⟨g, 0, none⟩)
theorem ptr_inj {a b : Nat} (h : ptr a = ptr b) : a = b := by cases h; rfl
def Fresh (w0 : World) (v : Value) (W : World) : Prop := ∃ g, v = ptr g ∧ w0.heap.size ≤ g ∧ ∃ cs : Array Value, cs.size = 16 ∧ Blk W g 23 cs
def Filled (w0 : World) (u : Value) (a : Array Value) (W : World) : Prop := ∃ g, u = ptr g ∧ w0.heap.size ≤ g ∧ Blk W g 23 a
theorem Fresh.ext {w0 : World} {v : Value} {W W' : World} (h : Fresh w0 v W) (hE : Ext W W') : Fresh w0 v W' := by
  obtain ⟨g, h1, h2, cs, h3, h4⟩ := h
  exact ⟨g, h1, h2, cs, h3, h4.ext hE⟩
theorem Filled.ext {w0 : World} {u : Value} {a : Array Value} {W W' : World} (h : Filled w0 u a W) (hE : Ext W W') : Filled w0 u a W' := by
  obtain ⟨g, h1, h2, h4⟩ := h
  exact ⟨g, h1, h2, h4.ext hE⟩
theorem Fresh.set {w0 : World} {v : Value} {W W' : World} {g : Nat} (h : Fresh w0 v W) (hc : Chg (fun k => k = g) W W') (hn : v ≠ ptr g) : Fresh w0 v W' := by
  obtain ⟨g', h1, h2, cs, h3, h4⟩ := h
  exact ⟨g', h1, h2, cs, h3, h4.chg hc (fun e => hn (by rw [h1, e]))⟩
theorem Filled.set {w0 : World} {u : Value} {a : Array Value} {W W' : World} {g : Nat} (h : Filled w0 u a W) (hc : Chg (fun k => k = g) W W') (hn : u ≠ ptr g) : Filled w0 u a W' := by
  obtain ⟨g', h1, h2, h4⟩ := h
  exact ⟨g', h1, h2, h4.chg hc (fun e => hn (by rw [h1, e]))⟩
theorem Fresh.new (w0 W : World) (h : w0.heap.size ≤ W.heap.size) (cs : Array Value) (hs : cs.size = 16) : Fresh w0 (ptr W.heap.size) (W.alloc (.cells cs 23)) := ⟨_, rfl, h, cs, hs, Blk.new _ _ _⟩
theorem Fresh.ne {w0 : World} {v : Value} {W : World} (h : Fresh w0 v W) : v ≠ ptr W.heap.size := by
  obtain ⟨g, h1, _, cs, _, h4⟩ := h
  intro e
  have := ptr_inj (h1.symm.trans e)
  have := h4.lt
  omega

/-- The facts: of the operations ahead by their values alone; of the two allocs i1, i1 + 1; of the two stores behind them. -/
def TwoF (P : Nat → Value → Prop) (i1 : Nat) (w0 : World) (ca ha : Array Value) : Nat → Value → Value → World → Prop := fun i v u W =>
  if i = i1 then Fresh w0 v W else if i = i1 + 1 then Fresh w0 v W else if i = i1 + 2 then Filled w0 u ca W else if i = i1 + 3 then Filled w0 u ha W else P i v
def twoLink (i1 : Nat) : Nat → Nat := fun i => if i = i1 + 2 then i1 else if i = i1 + 3 then i1 + 1 else i
/-- What the base says: nothing that was there has changed, and the two blocks differ. -/
def TwoB (i1 : Nat) (w0 : World) : (Nat → Bool) → (Nat → Value) → World → Prop := fun L xs W => Ext w0 W ∧ (L i1 = true → L (i1 + 1) = true → xs i1 ≠ xs (i1 + 1))
section
variable {P : Nat → Value → Prop} {i1 : Nat} {w0 : World} {ca ha : Array Value} {i : Nat} {v u : Value} {W W' : World} {L : Nat → Bool} {xs : Nat → Value}
theorem TwoF.ext (h : TwoF P i1 w0 ca ha i v u W) (hE : Ext W W') : TwoF P i1 w0 ca ha i v u W' := by
  unfold TwoF at h ⊢
  split
  · rename_i e; rw [if_pos e] at h; exact h.ext hE
  · rename_i e; rw [if_neg e] at h
    split
    · rename_i e; rw [if_pos e] at h; exact h.ext hE
    · rename_i e; rw [if_neg e] at h
      split
      · rename_i e; rw [if_pos e] at h; exact h.ext hE
      · rename_i e; rw [if_neg e] at h
        split
        · rename_i e; rw [if_pos e] at h; exact h.ext hE
        · rename_i e; rw [if_neg e] at h; exact h
theorem TwoF.set {g : Nat} (h : TwoF P i1 w0 ca ha i v u W) (hc : Chg (fun k => k = g) W W') (h1 : i = i1 → v ≠ ptr g) (h2 : i = i1 + 1 → v ≠ ptr g) (h3 : i = i1 + 2 → u ≠ ptr g) (h4 : i = i1 + 3 → u ≠ ptr g) : TwoF P i1 w0 ca ha i v u W' := by
  unfold TwoF at h ⊢
  split
  · rename_i e; rw [if_pos e] at h; exact h.set hc (h1 e)
  · rename_i e; rw [if_neg e] at h
    split
    · rename_i e; rw [if_pos e] at h; exact h.set hc (h2 e)
    · rename_i e; rw [if_neg e] at h
      split
      · rename_i e; rw [if_pos e] at h; exact h.set hc (h3 e)
      · rename_i e; rw [if_neg e] at h
        split
        · rename_i e; rw [if_pos e] at h; exact h.set hc (h4 e)
        · rename_i e; rw [if_neg e] at h; exact h
theorem TwoB.other (h : TwoB i1 w0 L xs W) (hE : Ext W W') (h1 : i ≠ i1) (h2 : i ≠ i1 + 1) : TwoB i1 w0 (fun j => if j = i then true else L j) (upd xs i v) W' := by
  refine ⟨h.1.trans hE, fun a b => ?_⟩
  dsimp only at a b
  rw [if_neg (fun e => h1 e.symm)] at a
  rw [if_neg (fun e => h2 e.symm)] at b
  rw [show upd xs i v i1 = xs i1 from if_neg (fun e => h1 e.symm), show upd xs i v (i1 + 1) = xs (i1 + 1) from if_neg (fun e => h2 e.symm)]
  exact h.2 a b
theorem TwoB.store {g : Nat} (h : TwoB i1 w0 L xs W) (hc : Chg (fun k => k = g) W W') (hg : w0.heap.size ≤ g) (h1 : i ≠ i1) (h2 : i ≠ i1 + 1) : TwoB i1 w0 (fun j => if j = i then true else L j) (upd xs i v) W' := by
  refine ⟨h.1.trans' hc (fun _ _ h => h) (fun k hk e => by omega), fun a b => ?_⟩
  dsimp only at a b
  rw [if_neg (fun e => h1 e.symm)] at a
  rw [if_neg (fun e => h2 e.symm)] at b
  rw [show upd xs i v i1 = xs i1 from if_neg (fun e => h1 e.symm), show upd xs i v (i1 + 1) = xs (i1 + 1) from if_neg (fun e => h2 e.symm)]
  exact h.2 a b
theorem TwoB.first (h : TwoB i1 w0 L xs W) (hE : Ext W W') (hf : L (i1 + 1) = true → xs (i1 + 1) ≠ v) : TwoB i1 w0 (fun j => if j = i1 then true else L j) (upd xs i1 v) W' := by
  refine ⟨h.1.trans hE, fun _ b => ?_⟩
  dsimp only at b
  rw [if_neg (by omega)] at b
  rw [show upd xs i1 v i1 = v from if_pos rfl, show upd xs i1 v (i1 + 1) = xs (i1 + 1) from if_neg (by omega)]
  exact (hf b).symm
theorem TwoB.second (h : TwoB i1 w0 L xs W) (hE : Ext W W') (hf : L i1 = true → xs i1 ≠ v) : TwoB i1 w0 (fun j => if j = i1 + 1 then true else L j) (upd xs (i1 + 1) v) W' := by
  refine ⟨h.1.trans hE, fun a _ => ?_⟩
  dsimp only at a
  rw [if_neg (by omega)] at a
  rw [show upd xs (i1 + 1) v (i1 + 1) = v from if_pos rfl, show upd xs (i1 + 1) v i1 = xs i1 from if_neg (by omega)]
  exact hf a
end

theorem wp_loadM {P : Program} {o : Oper} {a : Act} {w : World} {K : Act → World → Prop} {Q : Exit → Act → World → Prop} {ty : TypeId} {x : Operand} (ho : o.op = .load ty x) {n : Nat} (Wd : Wide P ty n)
    {g off : Nat} (hx : a.eval x = .pointer (some ⟨g, off, none⟩)) {cs : List Value} (hB : w.rangeAt g off cs) (hn : cs.length = n) (h : K (a.put o.dst (.agg cs.toArray)) w) : o.wp P a w K Q := by
  obtain ⟨d, hu, hd⟩ := Wd.und
  exact wp_load_mid ty x ho g off hx cs d hB hu hd (by rw [hn]; exact Wd.info) h

end Go.Proofs.YtcjlkjcadaaleaaDoor

/-
  The facts of the region in which a box's tag is made again (BoxAuthentic, BoxTampered).
-/
namespace Go.Proofs.YtcjlkjcadaaleaaDoor
open Go.RowKit

def AuthF (w0 : World) (gd gb : Nat) (nonce : Int) (c : ByteArray) (l1 l2 : List UInt8) (macA : Array Value) : Nat → Value → Value → World → Prop
  | 0, v, _, _ => v = .slice (some ⟨gd, 0, none⟩) 16 16
  | 1, v, _, W => W.ownsRow w0.heap.size 5 1 v 0 []
  | 2, v, _, _ => v = .pointer (some ⟨gb, 0, none⟩)
  | 3, v, _, _ => v = .int .i64 nonce
  | 4, v, _, W => ∃ A cc, v = .slice A l1.length cc ∧ Reads W 1 (.slice A l1.length cc) l1.length (l1.map u8v)
  | 5, v, _, W => W.ownsRow w0.heap.size 5 1 v l1.length (l1.map u8v)
  | 6, v, _, _ => v = .pointer (some ⟨gb, 1, none⟩)
  | 7, v, _, _ => v = .string c
  | 8, v, _, W => ∃ A cc, v = .slice A l2.length cc ∧ Reads W 1 (.slice A l2.length cc) l2.length (l2.map u8v)
  | 9, v, _, W => ∃ A cc, v = .slice A (l1.length + l2.length) cc ∧ Reads W 1 (.slice A (l1.length + l2.length) cc) (l1.length + l2.length) (l1.map u8v ++ l2.map u8v)
  | 10, v, _, _ => v = .agg macA
  | 11, v, _, W => Fresh w0 v W
  | 12, _, u, W => Filled w0 u macA W
  | _, _, _, _ => True
section
variable {w0 : World} {gd gb : Nat} {nonce : Int} {c : ByteArray} {l1 l2 : List UInt8} {macA : Array Value} {i : Nat} {v u : Value} {W W' : World}
theorem AuthF.ext (h : AuthF w0 gd gb nonce c l1 l2 macA i v u W) (hE : Ext W W') : AuthF w0 gd gb nonce c l1 l2 macA i v u W' := by
  unfold AuthF at h ⊢
  split at h <;> try exact h
  · exact ownsRow_ext h hE
  · obtain ⟨A, cc, h1, h2⟩ := h; exact ⟨A, cc, h1, h2.ext hE⟩
  · exact ownsRow_ext h hE
  · obtain ⟨A, cc, h1, h2⟩ := h; exact ⟨A, cc, h1, h2.ext hE⟩
  · obtain ⟨A, cc, h1, h2⟩ := h; exact ⟨A, cc, h1, h2.ext hE⟩
  · exact h.ext hE
  · exact h.ext hE
theorem AuthF.any (h : AuthF w0 gd gb nonce c l1 l2 macA i v u W) (h1 : i ≠ 1) (h4 : i ≠ 4) (h5 : i ≠ 5) (h8 : i ≠ 8) (h9 : i ≠ 9) (h11 : i ≠ 11) (h12 : i ≠ 12) : AuthF w0 gd gb nonce c l1 l2 macA i v u W' := by
  unfold AuthF at h ⊢
  split at h <;> first | exact h | omega
end

end Go.Proofs.YtcjlkjcadaaleaaDoor

/-
  The reference's rot, word, words.
-/
namespace Go.Proofs.YtcjlkjcadaaleaaDoor
open Go.RowKit

theorem rot_any (x : UInt32) (n : Nat) (nI : Int) (hI : nI = (n : Int)) (w : World) (hn : 0 < n) (hn2 : n < 32) :
    Calls Tryd.prog 123 #[.int .u32 (x.toNat : Int), .int .i64 nI] w fun e w' => e = .returned (.int .u32 ((rotrW x (UInt32.ofNat n)).toNat : Int)) ∧ ∃ k, w' = w.drewN k := by
  subst hI
  have h0 := hide (show bits BinOp.or IntKind.u32 ((x.toNat : Int) / 2 ^ n) ((x.toNat : Int) * 2 ^ (32 - n) % 4294967296) = ((rotrW x (UInt32.ofNat n)).toNat : Int) from by
    rw [shl32 x (32 - n) (by omega), shr32 x n hn2, or32]
    unfold rotrW
    have e : UInt32.ofNat (32 - n) = 32 - UInt32.ofNat n := by
      apply UInt32.toNat_inj.1
      rw [UInt32.toNat_sub]
      simp
      omega
    rw [e])
  have hx := x.toNat_lt
  have h2 : IntKind.i64.wrap (32 - (n : Int)) = ((32 - n : Nat) : Int) := by
    rw [show (32 : Int) - (n : Int) = ((32 - n : Nat) : Int) by omega]
    exact IntWalk.i64_in _ (by omega)
  go_enter Tryd.func123, Tryd.ntmps123
  go_wp2
  go_quiet (fail)
  go_wp2
  go_ret
  exact ⟨ret_int (unhide h0), _, rfl⟩

theorem u32_row : SlTy Tryd.prog 146 127 1 4 := SlTy.mk' (z := .int .u32 0) (by kernel_rfl) (by kernel_rfl) rfl (by omega) (by omega)
/-- A hexadecimal digit, and word i of a hexadecimal text. -/
def hexD (c : UInt8) : UInt32 := if 97 ≤ c.toNat then (c - 97 + 10).toUInt32 else (c - 48).toUInt32
def hexAt (l : List UInt8) (i k : Nat) : UInt32 := ((l.drop (8 * i)).take k).foldl (fun w c => 16 * w + hexD c) 0
def hexWord (l : List UInt8) (i : Nat) : UInt32 := hexAt l i 8
theorem hexAt_step (l : List UInt8) (i k : Nat) (h : 8 * i + k < l.length) : hexAt l i (k + 1) = 16 * hexAt l i k + hexD l[8 * i + k] := by
  unfold hexAt
  rw [take_step _ k (by simp; omega), List.foldl_append]
  simp
theorem hex_lo (c : UInt8) (h : c.toNat < 97) : ((c.toNat : Int) - 48) % 256 = ((hexD c).toNat : Int) := by
  unfold hexD
  rw [if_neg (by omega), UInt8.toNat_toUInt32, UInt8.toNat_sub, show (48 : UInt8).toNat = 48 from rfl]
  have := c.toNat_lt
  omega
theorem hex_hi (c : UInt8) (h : 97 ≤ c.toNat) : (c.toNat : Int) - 97 + 10 = ((hexD c).toNat : Int) := by
  unfold hexD
  rw [if_pos h, UInt8.toNat_toUInt32, UInt8.toNat_add, UInt8.toNat_sub, show (97 : UInt8).toNat = 97 from rfl, show (10 : UInt8).toNat = 10 from rfl]
  have := c.toNat_lt
  omega
theorem hex_next (a d : UInt32) : (16 * (a.toNat : Int) % 4294967296 + (d.toNat : Int)) % 4294967296 = ((16 * a + d).toNat : Int) := by
  rw [UInt32.toNat_add, UInt32.toNat_mul]
  simp

set_option maxHeartbeats 1000000 in
theorem word_any (s : ByteArray) (i : Nat) (w : World) (hs : s.size ≤ 100000) (hi : 8 * i + 8 ≤ s.size) :
    Calls Tryd.prog 122 #[.string s, .int .i64 (i : Int)] w fun e w' => e = .returned (.int .u32 ((hexWord s.data.toList i).toNat : Int)) ∧ w = w' := by
  have e8 : IntKind.i64.wrap (8 * (i : Int)) = 8 * (i : Int) := IntWalk.i64_in _ (by omega)
  go_enter Tryd.func122, Tryd.ntmps122
  go_wp2
  go_loop [5, 6] (fun a b => ∃ k : Nat, k ≤ 8 ∧ b = .int .i64 ((8 * i + k : Nat) : Int) ∧ a = .int .u32 ((hexAt s.data.toList i k).toNat : Int)) (fun _ b => 8 * i + 8 - (intOf b).toNat)
  case atStart => exact ⟨0, Nat.zero_le _, by simp, rfl⟩
  case round =>
    obtain ⟨k, hk, rfl, rfl⟩ := hrel
    by_cases hlt : k < 8
    · have hj : 8 * i + k < s.size := by omega
      have HS := hide (hexAt_step s.data.toList i k (by rw [Array.length_toList]; exact hj))
      have hc := s[8 * i + k].toNat_lt
      have HC : Hid (s.data.toList[8 * i + k]'(by rw [Array.length_toList]; exact hj) = s[8 * i + k]) := hide (by rw [Array.getElem_toList]; rfl)
      have ha := (hexAt s.data.toList i k).toNat_lt
      have HN := hide (fun d => hex_next (hexAt s.data.toList i k) d)
      generalize hexAt s.data.toList i k = acc at *
      have e1 : decide (((8 * i + k : Nat) : Int) < 8 * (i : Int) + 8) = true := decide_eq_true (by omega)
      by_cases h97 : 97 ≤ s[8 * i + k].toNat
      · have HX := hide (hex_hi s[8 * i + k] h97)
        go_wp2
        go_round
        case rel => exact ⟨k + 1, by omega, by go_num, int_eq (by rw [unhide HX, unhide HS, unhide HC]; exact unhide HN _)⟩
        case measure => simp [intOf]; omega
      · have HX := hide (hex_lo s[8 * i + k] (by omega))
        go_wp2
        go_round
        case rel => exact ⟨k + 1, by omega, by go_num, int_eq (by rw [unhide HX, unhide HS, unhide HC]; exact unhide HN _)⟩
        case measure => simp [intOf]; omega
    · obtain rfl : k = 8 := by omega
      have e1 : decide (((8 * i + 8 : Nat) : Int) < 8 * (i : Int) + 8) = false := decide_eq_false (by omega)
      go_wp2
      go_ret
      exact ⟨rfl, rfl⟩


set_option maxHeartbeats 1000000 in
theorem words_any (s : ByteArray) (n : Nat) (nI : Int) (hI : nI = (n : Int)) (w : World) (hs : s.size ≤ 100000) (hn : 8 * n ≤ s.size) :
    Calls Tryd.prog 119 #[.string s, .int .i64 nI] w fun e w' => ∃ A c, e = .returned (.slice A n c) ∧ w'.ownsRow w.heap.size 127 1 (.slice A n c) n (((List.range n).map (hexWord s.data.toList)).map w32) ∧ Ext w w' := by
  subst hI
  go_enter Tryd.func119, Tryd.ntmps119
  go_wp2
  go_loopw [5, 6] (fun b i wr => ∃ (k : Nat) (A : Option Addr) (c : Nat), k ≤ n ∧ i = .int .i64 k ∧ b = .slice A k c ∧ Hid (wr.ownsRow w.heap.size 127 1 (.slice A k c) k (((List.range k).map (hexWord s.data.toList)).map w32) ∧ Ext w wr)) (fun _ i _ => n - (intOf i).toNat)
  case atStart => exact ⟨0, none, 0, Nat.zero_le _, rfl, rfl, hide ⟨World.ownsRow_nil _ _ _ _, Ext.refl _⟩⟩
  case round =>
    obtain ⟨k, A, c, hk, rfl, rfl, HI⟩ := hrel
    by_cases hlt : k < n
    · have HX := hide (show ((List.range (k + 1)).map (hexWord s.data.toList)).map w32 = ((List.range k).map (hexWord s.data.toList)).map w32 ++ [w32 (hexWord s.data.toList k)] from by rw [List.range_succ]; simp)
      have HW := hide (fun W => word_any s k W hs (by omega))
      generalize hexWord s.data.toList k = x at *
      go_wp2_with (first
        | (go_at_call 122; refine (unhide HW _).mono ?_; rintro e w' ⟨rfl, rfl⟩)
        | (at_builtin; refine wpList_app rfl rfl u32_row rfl (ownsRow_ext (unhide HI).1 ((Ext.refl _).alloc _)) rfl (Reads.new1 _ _ _) (AllOne.one rfl) (by omega) (Nat.le_trans (unhide HI).2.size' (by simp)) ?_; intro A' c' w2 ho hc hv; have HQ := hide (And.intro ho (And.intro hc hv)); clear ho hc hv))
      go_roundw
      case rel =>
        refine ⟨k + 1, A', c', by omega, by go_num, rfl, hide ⟨by rw [unhide HX]; exact (unhide HQ).1, ?_⟩⟩
        exact Onto.new_ext (unhide HI).2 (((Onto.refl _ _).ext ((Ext.refl wr).alloc _)).trans (Onto.app (unhide HQ).2.1 (unhide HQ).2.2)) (fun q hq => ((unhide HI).1.lt q hq).1)
      case measure => simp [intOf]; omega
    · obtain rfl : k = n := by omega
      go_wp2
      go_ret
      exact ⟨_, _, rfl, (unhide HI).1, (unhide HI).2⟩

end Go.Proofs.YtcjlkjcadaaleaaDoor

/-
  Cells of slices of bytes and of words.
-/
namespace Go.Proofs.YtcjlkjcadaaleaaDoor
open Go.RowKit

theorem Reads.at_ {w : World} {b o n c : Nat} {xs : List Value} (h : Reads w 1 (.slice (some ⟨b, o, none⟩) n c) n xs) {j : Nat} {u : Value} (hj : xs[j]? = some u) : w.cell? ⟨b, o + j, none⟩ = some u := by
  obtain ⟨hl, A, c', e, _, _, hc⟩ := h
  have hjl : j < xs.length := by
    rcases Nat.lt_or_ge j xs.length with h | h
    · exact h
    · rw [List.getElem?_eq_none h] at hj; cases hj
  obtain ⟨b', o', e', hcc⟩ := hc (by omega)
  cases e
  cases e'
  exact hcc j u hj
theorem Reads.byteAt {w : World} {b o n c : Nat} {l : List UInt8} (h : Reads w 1 (.slice (some ⟨b, o, none⟩) n c) n (l.map u8v)) {j : Nat} (hj : j < l.length) : w.cell? ⟨b, o + j, none⟩ = some (.int .u8 ((l.getD j 0).toNat : Int)) :=
  h.at_ (by rw [List.getElem?_map, List.getD_eq_getElem?_getD, List.getElem?_eq_getElem hj]; rfl)
theorem Reads.wordAt {w : World} {b o n c : Nat} {l : List UInt32} (h : Reads w 1 (.slice (some ⟨b, o, none⟩) n c) n (l.map w32)) {j : Nat} (hj : j < l.length) : w.cell? ⟨b, o + j, none⟩ = some (.int .u32 ((l.getD j 0).toNat : Int)) :=
  h.at_ (by rw [List.getElem?_map, List.getD_eq_getElem?_getD, List.getElem?_eq_getElem hj]; rfl)
theorem Reads.slice_lt {w : World} {b o n c : Nat} {xs : List Value} (h : Reads w 1 (.slice (some ⟨b, o, none⟩) n c) n xs) (hn : 0 < n) : b < w.heap.size ∧ n ≤ c ∧ c ≤ maxLen := by
  obtain ⟨b', o', c', u, e, h1, h2, h3, _⟩ := h.at1 hn
  cases e
  exact ⟨h3, h1, h2⟩

/-- A slice of bytes of the call's own, that grows: its block lies at B or above, nothing that was there at w0 has changed. -/
structure GB (w0 : World) (B : Nat) (v : Value) (n : Nat) (l : List UInt8) (wr : World) : Prop where
  own : wr.ownsRow B 5 1 v n (l.map u8v)
  ext : Ext w0 wr
  base : w0.heap.size ≤ B
  room : B ≤ wr.heap.size
theorem GB.nil {w0 wr : World} {B : Nat} (hE : Ext w0 wr) (hB : w0.heap.size ≤ B) (hR : B ≤ wr.heap.size) : GB w0 B (.slice none 0 0) 0 [] wr := ⟨World.ownsRow_nil _ _ _ _, hE, hB, hR⟩
theorem GB.len {w0 wr : World} {B n : Nat} {v : Value} {l : List UInt8} (h : GB w0 B v n l wr) : l.length = n := by have := h.own.1; simpa using this
theorem GB.to {w0 wr w1 : World} {B n : Nat} {v : Value} {l : List UInt8} (h : GB w0 B v n l wr) (hE : Ext wr w1) : GB w0 B v n l w1 := ⟨ownsRow_ext h.own hE, h.ext.trans hE, h.base, Nat.le_trans h.room hE.size'⟩
theorem GB.step {w0 wr w1 w2 : World} {B n n' : Nat} {v v' : Value} {l l' : List UInt8} (h : GB w0 B v n l wr) (hE : Ext wr w1) (hc : Chg (fun k => v.ownBlock = some k) w1 w2) (ho : w2.ownsRow B 5 1 v' n' (l'.map u8v)) : GB w0 B v' n' l' w2 :=
  ⟨ho, (h.ext.trans hE).trans' hc (fun _ _ h => h) (fun i hi e => by have := (h.own.lt i e).1; have := h.base; omega), h.base, Nat.le_trans h.room (Nat.le_trans hE.size' hc.size)⟩
theorem GB.blk {w0 wr w1 w2 : World} {B n : Nat} {v : Value} {l : List UInt8} (h : GB w0 B v n l wr) (hE : Ext wr w1) (hc : Chg (fun k => v.ownBlock = some k) w1 w2) {g : Nat} {t : TypeId} {cs : Array Value} (hb : Blk wr g t cs) (hg : g < B) : Blk w2 g t cs :=
  (hb.ext hE).chg hc (fun e => by have := (h.own.lt g e).1; omega)
theorem GB.reads {w0 wr : World} {B n : Nat} {v : Value} {l : List UInt8} (h : GB w0 B v n l wr) : Reads wr 1 v n (l.map u8v) := Reads.of_own h.own

/-- Bytes, and zeros behind them up to n. -/
def bytesTo (n : Nat) (l : List UInt8) : Array Value := (l.map u8v ++ List.replicate (n - l.length) (Value.int .u8 0)).toArray
theorem bytesTo_get {n : Nat} {l : List UInt8} {i : Nat} (h : i < l.length) : (bytesTo n l)[i]? = some (.int .u8 ((l.getD i 0).toNat : Int)) := by
  unfold bytesTo
  rw [List.getElem?_toArray, List.getElem?_append_left (by simpa using h), List.getElem?_map, List.getD_eq_getElem?_getD, List.getElem?_eq_getElem h]
  rfl
theorem bytesTo_zero_at {n : Nat} {l : List UInt8} {i : Nat} (h : l.length ≤ i) (hi : i < n) : (bytesTo n l)[i]? = some (.int .u8 0) := by
  unfold bytesTo
  rw [List.getElem?_toArray, List.getElem?_append_right (by simpa using h), List.getElem?_replicate, if_pos (by simp; omega)]
theorem bytesTo_set {n k : Nat} {l : List UInt8} (x : UInt8) (hl : l.length = k) (h : k < n) : (bytesTo n l).setIfInBounds k (.int .u8 (x.toNat : Int)) = bytesTo n (l ++ [x]) := by
  subst hl
  unfold bytesTo
  rw [show n - l.length = (n - (l ++ [x]).length) + 1 from by simp; omega, List.replicate_succ]
  simp [u8v]
theorem bytesTo_nil (n : Nat) : bytesTo n [] = Array.replicate n (Value.int .u8 0) := by
  unfold bytesTo
  simp
theorem bytesTo_size {n : Nat} {l : List UInt8} (h : l.length ≤ n) : (bytesTo n l).size = n := by
  unfold bytesTo
  simp
  omega
theorem bytesTo_all {n : Nat} {l : List UInt8} (h : l.length = n) : bytesTo n l = (l.map u8v).toArray := by
  unfold bytesTo
  rw [h, Nat.sub_self]
  simp

end Go.Proofs.YtcjlkjcadaaleaaDoor
