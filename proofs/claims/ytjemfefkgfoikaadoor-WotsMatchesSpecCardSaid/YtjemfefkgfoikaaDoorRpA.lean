/-
  Several texts in one file: each has its own heading below.
-/
import Derived.Test.YtjemfefkgfoikaaDoorRefG
import Derived.Test.YtjemfefkgfoikaaDoorWotsT
import Derived.Deep.RegionHeld3

/-
  The reference of one-time signatures: digit, Digits, raw.
-/
namespace Go.Proofs.YtjemfefkgfoikaaDoor
open Go.RowKit

set_option maxRecDepth 100000 in
set_option maxHeartbeats 2000000 in
theorem rdigit_any (m : List UInt8) (k : Nat) (w : World) (hm : m.length = 16) (hk : k < 64) :
    Calls Tryd.prog 39 #[.agg (m.map u8v).toArray, .int .i64 (k : Int)] w fun e w' => e = .returned (.int .i64 ((dig m k : Nat) : Int)) ∧ Ext w w' := by
  obtain ⟨arr, harr⟩ : ∃ r, (m.map u8v).toArray = r := ⟨_, rfl⟩
  have cm : ∀ t, (w.alloc (.cells arr t)).cell? ⟨w.heap.size, k / 4, none⟩ = some (.int .u8 ((m.getD (k / 4) 0).toNat : Int)) := fun t => by
    rw [(Blk.new w _ _).cell, ← harr, List.getElem?_toArray, List.getElem?_map, List.getD_eq_getElem?_getD, List.getElem?_eq_getElem (by omega)]
    rfl
  have HD : Hid (dig m k = (m.getD (k / 4) 0).toNat / 4 ^ (3 - k % 4) % 4) := hide rfl
  rw [harr]
  generalize m.getD (k / 4) 0 = x at *
  have hx := x.toNat_lt
  clear harr hm
  go_enter Tryd.func39, Tryd.ntmps39
  have cm1 := cm 23
  clear cm
  go_wp2_with fail
  go_loop [5, 6] (fun n i => ∃ j : Nat, k % 4 ≤ j ∧ j ≤ 3 ∧ i = .int .i64 j ∧ n = .int .i64 ((x.toNat / 4 ^ (j - k % 4) : Nat) : Int)) (fun _ i => 3 - (intOf i).toNat)
  case atStart => exact ⟨k % 4, Nat.le_refl _, by omega, int_eq (by omega), int_eq (by simp)⟩
  case round =>
    clear cm1
    obtain ⟨j, hj1, hj, rfl, rfl⟩ := hrel
    by_cases hlt : j < 3
    · have HS := hide (show x.toNat / 4 ^ (j + 1 - k % 4) = x.toNat / 4 ^ (j - k % 4) / 4 from by rw [show j + 1 - k % 4 = (j - k % 4) + 1 from by omega, Nat.pow_succ, Nat.div_div_eq_div_mul])
      have hy : x.toNat / 4 ^ (j - k % 4) ≤ x.toNat := Nat.div_le_self _ _
      generalize x.toNat / 4 ^ (j - k % 4) = y at *
      go_wp2
      go_round
      case rel => exact ⟨j + 1, by omega, by omega, by go_num, int_eq (by rw [unhide HS]; first | omega | (unfold wrap64; omega))⟩
      case measure => simp [intOf]; omega
    · obtain rfl : j = 3 := by omega
      generalize x.toNat / 4 ^ (3 - k % 4) = y at *
      go_wp2
      go_ret
      exact ⟨ret_int (by rw [unhide HD]; simp), (Ext.refl w).alloc _⟩

theorem icells_four (m : List UInt8) : icells (digC m) 68 = icells (dig m) 64 ++ [.int .i64 ((chk m : Int) / 64), .int .i64 ((chk m : Int) / 16 % 4), .int .i64 ((chk m : Int) / 4 % 4), .int .i64 ((chk m : Int) % 4)] := by
  have h := chk_le m
  have e64 : icells (digC m) 64 = icells (dig m) 64 := icells_congr fun j hj => by unfold digC; rw [if_pos hj]
  have e4 : digC m 64 = chk m / 64 % 4 := rfl
  have e5 : digC m 65 = chk m / 16 % 4 := rfl
  have e6 : digC m 66 = chk m / 4 % 4 := rfl
  have e7 : digC m 67 = chk m / 1 % 4 := rfl
  rw [icells_step, icells_step, icells_step, icells_step, e64, e4, e5, e6, e7]
  simp only [List.append_assoc, List.cons_append, List.nil_append, List.singleton_append]
  congr 2
  · congr 1; omega
  · simp

/-- A slice of numbers of the call's own, that grows. -/
structure GI (w0 : World) (B : Nat) (v : Value) (n : Nat) (l : List Value) (wr : World) : Prop where
  own : wr.ownsRow B 3 1 v n l
  ext : Ext w0 wr
  base : w0.heap.size ≤ B
  room : B ≤ wr.heap.size
theorem GI.nil {w0 wr : World} {B : Nat} (hE : Ext w0 wr) (hB : w0.heap.size ≤ B) (hR : B ≤ wr.heap.size) : GI w0 B (.slice none 0 0) 0 [] wr := ⟨World.ownsRow_nil _ _ _ _, hE, hB, hR⟩
theorem GI.to {w0 wr w1 : World} {B n : Nat} {v : Value} {l : List Value} (h : GI w0 B v n l wr) (hE : Ext wr w1) : GI w0 B v n l w1 := ⟨ownsRow_ext h.own hE, h.ext.trans hE, h.base, Nat.le_trans h.room hE.size'⟩
theorem GI.step {w0 wr w1 w2 : World} {B n n' : Nat} {v v' : Value} {l l' : List Value} (h : GI w0 B v n l wr) (hE : Ext wr w1) (hc : Chg (fun k => v.ownBlock = some k) w1 w2) (ho : w2.ownsRow B 3 1 v' n' l') : GI w0 B v' n' l' w2 :=
  ⟨ho, (h.ext.trans hE).trans' hc (fun _ _ h => h) (fun i hi e => by have := (h.own.lt i e).1; have := h.base; omega), h.base, Nat.le_trans h.room (Nat.le_trans hE.size' hc.size)⟩
theorem GI.blk {w0 wr w1 w2 : World} {B n : Nat} {v : Value} {l : List Value} (h : GI w0 B v n l wr) (hE : Ext wr w1) (hc : Chg (fun k => v.ownBlock = some k) w1 w2) {g : Nat} {t : TypeId} {cs : Array Value} (hb : Blk wr g t cs) (hg : g < B) : Blk w2 g t cs :=
  (hb.ext hE).chg hc (fun e => by have := (h.own.lt g e).1; omega)
theorem GI.reads {w0 wr : World} {B n : Nat} {v : Value} {l : List Value} (h : GI w0 B v n l wr) : Reads wr 1 v n l := Reads.of_own h.own
theorem int_row : SlTy Tryd.prog 26 3 1 8 := SlTy.mk' (z := .int .i64 0) (by kernel_rfl) (by kernel_rfl) rfl (by omega) (by omega)

set_option maxRecDepth 100000 in
set_option maxHeartbeats 4000000 in
theorem rdigits_any (m : List UInt8) (w : World) (hm : m.length = 16) :
    Calls Tryd.prog 17 #[.agg (m.map u8v).toArray] w fun e w' => ∃ A c, e = .returned (.slice A 68 c) ∧ Reads w' 1 (.slice A 68 c) 68 (icells (digC m) 68) ∧ Ext w w' := by
  have HD := hide (fun k (hk : k < 64) (W : World) => rdigit_any m k W hm hk)
  have H4 := hide (icells_four m)
  have hch := chk_le m
  have HL := hide (fun k => sumTo_le m k)
  have HC := hide (show sumTo m 64 = chk m from rfl)
  obtain ⟨arr, harr⟩ : ∃ r, (m.map u8v).toArray = r := ⟨_, rfl⟩
  rw [harr] at HD ⊢
  have hasz : arr.size = 16 := by rw [← harr]; simpa using hm
  clear harr hm
  go_enter Tryd.func17, Tryd.ntmps17
  go_wp2_with fail
  go_loopw [3, 4, 5] (fun b s i wr => ∃ (k : Nat) (A : Option Addr) (c : Nat), k ≤ 64 ∧ i = .int .i64 k ∧ s = .int .i64 ((sumTo m k : Nat) : Int) ∧ b = .slice A k c ∧ Hid (GI w (w.heap.size + 1) (.slice A k c) k (icells (dig m) k) wr ∧ Blk wr w.heap.size 23 arr)) (fun _ _ i _ => 64 - (intOf i).toNat)
  case atStart => exact ⟨0, none, 0, by omega, rfl, rfl, rfl, hide ⟨GI.nil ((Ext.refl w).alloc _) (by omega) (by simp), Blk.new w _ _⟩⟩
  case round =>
    obtain ⟨k, A, c, hk, rfl, rfl, rfl, HI⟩ := hrel
    by_cases hlt : k < 64
    · have HDk := hide (unhide HD k hlt)
      have HS := hide (icells_step (dig m) k)
      have HT := hide (show sumTo m (k + 1) = sumTo m k + (3 - dig m k) from rfl)
      have hd := dig_le m k
      have hs := unhide HL k
      generalize dig m k = d at *
      generalize sumTo m k = s at *
      have hkI : (k : Int) < 64 := by omega
      go_wp2_with (first
        | (refine wpList_loadB (ty := 23) (t := 23) (x := .tmp 1) rfl rfl digest_wide rfl (unhide HI).2 hasz ?_)
        | (go_at_call 39; refine (unhide HDk _).mono ?_; rintro e w2 ⟨rfl, hE2⟩; have H2 := hide hE2; clear hE2)
        | (at_builtin; refine wpList_app rfl rfl int_row rfl ((unhide HI).1.to ((unhide H2).alloc _)).own rfl (Reads.new1 _ _ _) (AllOne.one rfl) (by omega) ((unhide HI).1.to ((unhide H2).alloc _)).room ?_; intro A' c' w3 ho hc hv; have H3 := hide (And.intro ((unhide HI).1.step ((unhide H2).alloc _) hc (l' := icells (dig m) k ++ [.int .i64 (d : Int)]) ho) ((unhide HI).1.blk ((unhide H2).alloc _) hc (unhide HI).2 (by omega))); clear ho hc hv)
        | (refine wpList_loadB (ty := 23) (t := 23) (x := .tmp 1) rfl rfl digest_wide rfl (unhide H3).2 hasz ?_))
      go_roundw
      case rel => exact ⟨k + 1, A', c', by omega, by go_num, int_eq (by rw [unhide HT]; omega), rfl, hide ⟨by rw [unhide HS]; exact (unhide H3).1.to (unhide H2), (unhide H3).2.ext (unhide H2)⟩⟩
      case measure => simp [intOf]; omega
    · obtain rfl : k = 64 := by omega
      rw [unhide HC]
      generalize chk m = ch at *
      go_wp2_with (at_builtin; refine wpList_app rfl rfl int_row rfl ((unhide HI).1.to ((Ext.refl wr).alloc _)).own rfl (Reads.of_blk (Blk.new _ _ #[.int .i64 ((ch : Int) / 64), .int .i64 ((ch : Int) / 16 % 4), .int .i64 ((ch : Int) / 4 % 4), .int .i64 ((ch : Int) % 4)]) (i := 0) (n := 4) (c := 4) (by simp) (by omega) (by unfold maxLen; omega)) ?_ (by omega) ((unhide HI).1.to ((Ext.refl wr).alloc _)).room ?_; (focus (intro u hu; simp at hu; rcases hu with rfl | rfl | rfl | rfl <;> rfl)); intro A' c' w3 ho hc hv; have H3 := hide ((unhide HI).1.step ((Ext.refl wr).alloc _) hc (l' := icells (digC m) 68) (by rw [unhide H4]; exact ho)); clear ho hc hv)
      go_ret
      exact ⟨A', c', rfl, (unhide H3).reads, (unhide H3).ext⟩

set_option maxRecDepth 100000 in
set_option maxHeartbeats 2000000 in
theorem rraw_any (d : List UInt8) (w : World) (hd : d.length = 16) :
    Calls Tryd.prog 43 #[.agg (d.map u8v).toArray] w fun e w' => ∃ A c, e = .returned (.slice A d.length c) ∧ Reads w' 1 (.slice A d.length c) d.length (d.map u8v) ∧ Ext w w' := by
  obtain ⟨arr, harr⟩ : ∃ r, (d.map u8v).toArray = r := ⟨_, rfl⟩
  have HA := hide harr
  rw [harr]
  rw [hd]
  clear harr
  go_enter Tryd.func43, Tryd.ntmps43
  go_wp2_with fail
  go_loopw [3, 4] (fun b i wr => ∃ (k : Nat) (A : Option Addr) (c : Nat), k ≤ 16 ∧ i = .int .i64 k ∧ b = .slice A k c ∧ Hid (GB w (w.heap.size + 1) (.slice A k c) k (d.take k) wr ∧ Blk wr w.heap.size 23 arr)) (fun _ i _ => 16 - (intOf i).toNat)
  case atStart => exact ⟨0, none, 0, by omega, rfl, rfl, hide ⟨GB.nil ((Ext.refl w).alloc _) (by omega) (by simp), Blk.new w _ _⟩⟩
  case round =>
    obtain ⟨k, A, c, hk, rfl, rfl, HI⟩ := hrel
    by_cases hlt : k < 16
    · have hc : wr.cell? ⟨w.heap.size, k, none⟩ = some (u8v (d[k]'(by omega))) := by
        rw [(unhide HI).2.cell, ← unhide HA, List.getElem?_toArray, List.getElem?_map, List.getElem?_eq_getElem (by omega)]
        rfl
      have HS := hide (take_step d k (by omega))
      generalize d[k]'(by omega) = x at *
      unfold u8v at hc
      have hkI : (k : Int) < 16 := by omega
      go_wp2_with (at_builtin; refine wpList_app rfl rfl u8_row rfl ((unhide HI).1.to ((Ext.refl wr).alloc _)).own rfl (Reads.new1 _ _ _) (AllOne.one rfl) (by omega) ((unhide HI).1.to ((Ext.refl wr).alloc _)).room ?_; intro A' c' w3 ho hc3 hv; have H3 := hide (And.intro ho hc3); clear ho hc3 hv)
      go_roundw
      case rel => exact ⟨k + 1, A', c', by omega, by go_num, rfl, hide ⟨(unhide HI).1.step ((Ext.refl wr).alloc _) (unhide H3).2 (by rw [unhide HS, List.map_append]; exact (unhide H3).1), (unhide HI).1.blk ((Ext.refl wr).alloc _) (unhide H3).2 (unhide HI).2 (by omega)⟩⟩
      case measure => simp [intOf]; omega
    · obtain rfl : k = 16 := by omega
      have hX := (unhide HI).1.reads
      rw [List.take_of_length_le (by omega)] at hX
      have HX := hide hX
      clear hX
      go_wp2
      go_ret
      exact ⟨A, c, rfl, unhide HX, (unhide HI).1.ext⟩

end Go.Proofs.YtjemfefkgfoikaaDoor

/-
  The reference of one-time signatures: Step, Advance, Start, Public.
-/
namespace Go.Proofs.YtjemfefkgfoikaaDoor
open Go.RowKit

/-- What a region keeps: the argument's block, and a block for the result. -/
def S2 (w : World) (v : Array Value) (W : World) : Prop := Ext w W ∧ Blk W w.heap.size 23 v ∧ ∃ cs : Array Value, cs.size = 16 ∧ Blk W (w.heap.size + 1) 23 cs
theorem S2.ext {w : World} {v : Array Value} {W W' : World} (h : S2 w v W) (hE : Ext W W') : S2 w v W' := ⟨h.1.trans hE, h.2.1.ext hE, h.2.2.imp fun _ k => ⟨k.1, k.2.ext hE⟩⟩
theorem S2.new (w : World) (v : Array Value) : S2 w v ((w.alloc (.cells v 23)).alloc (.cells (Array.replicate 16 (.int .u8 0)) 23)) := ⟨((Ext.refl w).alloc _).alloc _, (Blk.new w _ _).alloc _, _, rfl, Blk.new' _ _ _ (by simp)⟩
theorem S2.store {w : World} {v cs : Array Value} {W W' : World} (h : S2 w v W) (hb : Blk W' (w.heap.size + 1) 23 cs) (hc : Chg (fun k => k = w.heap.size + 1) W W') (hs : cs.size = 16) : S2 w v W' :=
  ⟨h.1.trans' hc (fun _ _ h => h) (fun i hi e => by omega), h.2.1.chg hc (by omega), _, hs, hb⟩

set_option maxRecDepth 100000 in
set_option maxHeartbeats 4000000 in
theorem rstep_any (k : Nat) (v : List UInt8) (w : World) (hv : v.length = 16) (hk : k < 1000) :
    Calls Tryd.prog 66 #[.int .i64 (k : Int), .agg (v.map u8v).toArray] w fun e w' => e = .returned (.agg ((stepS k v).map u8v).toArray) ∧ Ext w w' := by
  have HW := hide (fun w => rint_any (k : Int) w (by omega) (by omega))
  have HRw := hide (fun w => rraw_any v w hv)
  have HD := hide (fun (W : World) (A A' : Option Addr) (c c' : Nat) (pv : Value) (h1 : Reads W 1 pv 2 [.slice A (wInt k).length c, .slice A' v.length c']) (h2 : Reads W 1 (.slice A (wInt k).length c) (wInt k).length ((wInt k).map u8v)) (h3 : Reads W 1 (.slice A' v.length c') v.length (v.map u8v)) =>
    rdigest_any 3 [wInt k, v] pv W (Parts.two h1 h2 h3) (by simp) (fun p hp => by have := wInt_length (k : Int); simp at hp; rcases hp with rfl | rfl <;> omega))
  obtain ⟨arr, harr⟩ : ∃ r, (v.map u8v).toArray = r := ⟨_, rfl⟩
  rw [harr] at HRw ⊢
  have hasz : arr.size = 16 := by rw [← harr]; simpa using hv
  obtain ⟨res, hres⟩ : ∃ r, stepS k v = r := ⟨_, rfl⟩
  have HR := hide (And.intro hres (show res.length = 16 from by rw [← hres]; exact digestS_length _ _))
  rw [hres]
  clear harr hres hv
  have HZ := hide (S2.new w arr)
  go_enter Tryd.func66, Tryd.ntmps66
  go_upto_region 1 with fail
  refine wp_region_held_drew (S := S2 w arr) (by kernel_rfl) ((unhide HZ).ext ((Ext.refl _).drew)) (fun hHeld => ?_)
  refine wpAnyH_take (i := 0) (oi := _) (v := ?_) rfl (by kernel_rfl) (by kernel_rfl) (by kernel_rfl) (fun _ _ _ h => h) (Or.inl ⟨by rfl, fun wz hSz => ?_⟩) (by assumption) ?_
  rotate_left
  · (first | (go_simp; done) | (go_simp; with_reducible rfl))
  try simp only [Act.put, List.setIfInBounds_toArray, List.set_cons_zero, List.set_cons_succ, List.getElem_toArray, List.getElem_cons_succ, List.getElem_cons_zero]
  refine wpAnyH_take (i := 2) (oi := _) (v := _) rfl (by kernel_rfl) (by kernel_rfl) (by kernel_rfl) (fun _ _ _ h => h) (ylb digest_wide rfl (by rfl) rfl hasz (fun w' hw => hw.2.1)) (by assumption) ?_
  try simp only [Act.put, List.setIfInBounds_toArray, List.set_cons_zero, List.set_cons_succ, List.getElem_toArray, List.getElem_cons_succ, List.getElem_cons_zero]
  refine wpAnyH_ready (rs := [1]) (by kernel_rfl) (by simp) (AllReadyH.cons (o := _) rfl (fun K hK => ?_) AllReadyH.nil)
  try go_simp
  (refine (unhide HW _).mono ?_; rintro e w3 ⟨A3, c3, rfl, ho3, hE3⟩; have hS := hHeld.ext hE3; have H3 := hide (Reads.of_own ho3); clear hHeld hE3 ho3)
  refine hK.out _ _ ?_ (fun hHeld => ?_)
  · exact hS
  clear hK K
  try simp only [Act.put, List.setIfInBounds_toArray, List.set_cons_zero, List.set_cons_succ, List.getElem_toArray, List.getElem_cons_succ, List.getElem_cons_zero]
  refine wpAnyH_ready (rs := [3]) (by kernel_rfl) (by simp) (AllReadyH.cons (o := _) rfl (fun K hK => ?_) AllReadyH.nil)
  try go_simp
  (refine (unhide HRw _).mono ?_; rintro e w4 ⟨A4, c4, rfl, ho4, hE4⟩; have hS := hHeld.ext hE4; have H4 := hide (And.intro ((unhide H3).ext hE4) ho4); clear hHeld hE4 ho4 H3)
  refine hK.out _ _ ?_ (fun hHeld => ?_)
  · exact hS
  clear hK K
  try simp only [Act.put, List.setIfInBounds_toArray, List.set_cons_zero, List.set_cons_succ, List.getElem_toArray, List.getElem_cons_succ, List.getElem_cons_zero]
  refine wpAnyH_ready (rs := [4]) (by kernel_rfl) (by simp) (AllReadyH.cons (o := _) rfl (fun K hK => ?_) AllReadyH.nil)
  try go_simp
  (have hS := hHeld.ext ((Ext.refl w4).alloc (.cells #[.slice A3 (wInt k).length c3, .slice A4 v.length c4] 41)); clear hHeld)
  refine hK.out _ _ ?_ (fun hHeld => ?_)
  · exact hS
  clear hK K
  try simp only [Act.put, List.setIfInBounds_toArray, List.set_cons_zero, List.set_cons_succ, List.getElem_toArray, List.getElem_cons_succ, List.getElem_cons_zero]
  refine wpAnyH_ready (rs := [5]) (by kernel_rfl) (by simp) (AllReadyH.cons (o := _) rfl (fun K hK => ?_) AllReadyH.nil)
  try go_simp
  (refine (unhide HD _ A3 A4 c3 c4 _ (Reads.new2 _ _ _ _ rfl) ((unhide H4).1.ext ((Ext.refl _).alloc _)) ((unhide H4).2.ext ((Ext.refl _).alloc _))).mono ?_; rintro e w5 ⟨rfl, hE5⟩; rw [show digestS 3 [wInt k, v] = res from (unhide HR).1]; have hS := hHeld.ext hE5; clear hHeld hE5)
  refine hK.out _ _ ?_ (fun hHeld => ?_)
  · exact hS
  clear hK K
  try simp only [Act.put, List.setIfInBounds_toArray, List.set_cons_zero, List.set_cons_succ, List.getElem_toArray, List.getElem_cons_succ, List.getElem_cons_zero]
  obtain ⟨cs, hcs, hBk⟩ := hHeld.2.2
  refine wpAnyH_ready (rs := [6]) (by kernel_rfl) (by simp) (AllReadyH.cons (o := _) rfl (fun K hK => ?_) AllReadyH.nil)
  (refine step_storeB (ty := 23) (t := 23) (x := .tmp 4) (y := .tmp 10) rfl rfl digest_wide rfl rfl hBk hcs (by simpa using (unhide HR).2) (bytes_one _) ?_; intro w7 hb7 hc7 hz7; have hS := hHeld.store hb7 hc7 (by simpa using (unhide HR).2); have H7 := hide hb7; clear hb7 hc7 hz7 hHeld)
  refine hK.out _ _ ?_ (fun hHeld => ?_)
  · exact hS
  clear hK K
  try simp only [Act.put, List.setIfInBounds_toArray, List.set_cons_zero, List.set_cons_succ, List.getElem_toArray, List.getElem_cons_succ, List.getElem_cons_zero]
  refine wpAnyH_done (by kernel_rfl) ?_ _
  have H8 := hide hHeld.1
  go_wp2
  refine bodyPost_ret (v := .agg (res.map u8v).toArray) (results_blk digest_wide rfl (unhide H7) (by simpa using (unhide HR).2) rfl) rfl ⟨rfl, unhide H8⟩

set_option maxRecDepth 100000 in
set_option maxHeartbeats 4000000 in
theorem radv_any (k n : Nat) (v : List UInt8) (w : World) (hv : v.length = 16) (hk : k < 1000) (hn : n < 1000) :
    Calls Tryd.prog 44 #[.int .i64 (k : Int), .agg (v.map u8v).toArray, .int .i64 (n : Int)] w fun e w' => e = .returned (.agg ((advS k v n).map u8v).toArray) ∧ Ext w w' := by
  have HD := hide (fun (j : Nat) (W : World) => rstep_any k (advS k v j) W (advS_length k v hv j) hk)
  have HL := hide (advS_length k v hv)
  have HS := hide (fun j => show stepS k (advS k v j) = advS k v (j + 1) from rfl)
  obtain ⟨F, hF⟩ : ∃ F, advS k v = F := ⟨_, rfl⟩
  rw [hF] at HD HL HS ⊢
  have h0 : F 0 = v := by rw [← hF]; rfl
  go_enter Tryd.func44, Tryd.ntmps44
  go_wp2_with fail
  go_loopw [7] (fun i wr => ∃ j : Nat, j ≤ n ∧ i = .int .i64 j ∧ Hid (Blk wr w.heap.size 23 ((F j).map u8v).toArray ∧ Blk wr (w.heap.size + 1) 23 (Array.replicate 16 (.int .u8 0)) ∧ Ext w wr)) (fun i _ => n - (intOf i).toNat)
  case atStart => exact ⟨0, by omega, rfl, hide ⟨by rw [h0]; exact (Blk.new w _ _).alloc _, Blk.new' _ _ _ (by simp), ((Ext.refl w).alloc _).alloc _⟩⟩
  case round =>
    obtain ⟨j, hj, rfl, HI⟩ := hrel
    by_cases hlt : j < n
    · have HJ := hide (unhide HS j)
      have HL1 := hide (unhide HL (j + 1))
      have HLj := hide (unhide HL j)
      have HDj := hide (unhide HD j)
      rw [unhide HJ] at HDj
      go_wp2_with (first
        | (refine wpList_loadB (ty := 23) (t := 23) (x := .tmp 4) rfl rfl digest_wide rfl (unhide HI).1 (by simpa using unhide HLj) ?_)
        | (go_at_call 66; refine (unhide HDj _).mono ?_; rintro e w5 ⟨rfl, hE5⟩; have H5 := hide hE5; clear hE5)
        | (refine wpList_storeB (ty := 23) (t := 23) (x := .tmp 4) (y := .tmp 15) rfl rfl digest_wide rfl rfl ((unhide HI).1.ext (unhide H5)) (by simpa using unhide HLj) (by simpa using unhide HL1) (bytes_one _) ?_; intro w6 hb6 hc6 hz6; have H6 := hide (And.intro hb6 hc6); clear hb6 hc6 hz6))
      go_roundw
      case rel => exact ⟨j + 1, by omega, by go_num, hide ⟨(unhide H6).1, ((unhide HI).2.1.ext (unhide H5)).chg (unhide H6).2 (by omega), ((unhide HI).2.2.trans (unhide H5)).trans' (unhide H6).2 (fun _ _ h => h) (fun i hi e => by omega)⟩⟩
      case measure => simp [intOf]; omega
    · obtain rfl : j = n := by omega
      go_wp2_with (first
        | (refine wpList_loadB (ty := 23) (t := 23) (x := .tmp 4) rfl rfl digest_wide rfl (unhide HI).1 (by simpa using unhide HL j) ?_)
        | (refine wpList_storeB (ty := 23) (t := 23) (x := .tmp 6) (y := .tmp 16) rfl rfl digest_wide rfl rfl (unhide HI).2.1 rfl (by simpa using unhide HL j) (bytes_one _) ?_; intro w7 hb7 hc7 hz7; have H7 := hide (And.intro hb7 hc7); clear hb7 hc7 hz7))
      refine bodyPost_ret (v := .agg ((F j).map u8v).toArray) (results_blk digest_wide rfl (unhide H7).1 (by simpa using unhide HL j) rfl) rfl ⟨rfl, ?_⟩
      exact (unhide HI).2.2.trans' (unhide H7).2 (fun _ _ h => h) (fun i hi e => by omega)

set_option maxRecDepth 100000 in
set_option maxHeartbeats 4000000 in
theorem rstart_any (k : Nat) (seed : List UInt8) (index : Int) (w : World) (hv : seed.length = 16) (hk : k < 1000) (h1 : -9223372036854775808 ≤ index) (h2 : index < 9223372036854775808) :
    Calls Tryd.prog 47 #[.agg (seed.map u8v).toArray, .int .i64 index, .int .i64 (k : Int)] w fun e w' => e = .returned (.agg ((startS seed index k).map u8v).toArray) ∧ Ext w w' := by
  have HW := hide (fun w => rint_any index w h1 h2)
  have HW2 := hide (fun w => rint_any (k : Int) w (by omega) (by omega))
  have HRw := hide (fun w => rraw_any seed w hv)
  have HD := hide (fun (W : World) (A A' A0 : Option Addr) (c c' c0 : Nat) (pv : Value) (h1 : Reads W 1 pv 2 [.slice A (wInt index).length c, .slice A' (wInt k).length c']) (h2 : Reads W 1 (.slice A (wInt index).length c) (wInt index).length ((wInt index).map u8v)) (h2' : Reads W 1 (.slice A' (wInt k).length c') (wInt k).length ((wInt k).map u8v)) (h3 : Reads W 1 (.slice A0 seed.length c0) seed.length (seed.map u8v)) =>
    rderive_any seed (.slice A0 seed.length c0) ⟨#[119, 111, 116, 115]⟩ [wInt index, wInt k] pv W h3 (by omega) (by decide) (Parts.two h1 h2 h2') (by simp) (fun p hp => by have := wInt_length (k : Int); have := wInt_length index; simp at hp; rcases hp with rfl | rfl <;> omega))
  obtain ⟨arr, harr⟩ : ∃ r, (seed.map u8v).toArray = r := ⟨_, rfl⟩
  rw [harr] at HRw ⊢
  have hasz : arr.size = 16 := by rw [← harr]; simpa using hv
  obtain ⟨res, hres⟩ : ∃ r, startS seed index k = r := ⟨_, rfl⟩
  have HR := hide (And.intro hres (show res.length = 16 from by rw [← hres]; exact startS_length _ _ _))
  rw [hres]
  clear harr hres h1 h2 hv
  have HT := hide True.intro
  have HZ := hide (S2.new w arr)
  go_enter Tryd.func47, Tryd.ntmps47
  go_wp2_with (first
    | (refine wpList_loadB (ty := 23) (t := 23) (x := .tmp 3) rfl rfl digest_wide rfl (unhide HZ).2.1 hasz ?_)
    | (go_at_call 43; refine (unhide HRw _).mono ?_; rintro e w0 ⟨A0, c0, rfl, ho0, hE0⟩; have H0 := hide (And.intro ho0 ((unhide HZ).ext hE0)); clear ho0 hE0)
    | (clear HT; go_at_call 69; refine (unhide HW _).mono ?_; rintro e w3 ⟨A3, c3, rfl, ho3, hE3⟩; have H3 := hide (And.intro ((unhide H0).1.ext hE3) (And.intro (Reads.of_own ho3) ((unhide H0).2.ext hE3))); clear ho3 hE3)
    | (go_at_call 69; refine (unhide HW2 _).mono ?_; rintro e w4 ⟨A4, c4, rfl, ho4, hE4⟩; have H4 := hide (And.intro ((unhide H3).1.ext hE4) (And.intro ((unhide H3).2.1.ext hE4) (And.intro (Reads.of_own ho4) ((unhide H3).2.2.ext hE4)))); clear ho4 hE4)
    | (go_at_call 68; refine (unhide HD _ A3 A4 A0 c3 c4 c0 _ (Reads.new2 _ _ _ _ rfl) ((unhide H4).2.1.ext ((Ext.refl _).alloc _)) ((unhide H4).2.2.1.ext ((Ext.refl _).alloc _)) ((unhide H4).1.ext ((Ext.refl _).alloc _))).mono ?_; rintro e w5 ⟨rfl, hE5⟩; rw [show deriveS seed (⟨#[119, 111, 116, 115]⟩ : ByteArray).data.toList [wInt index, wInt k] = res from (unhide HR).1]; have H5 := hide ((unhide H4).2.2.2.ext (((Ext.refl w4).alloc _).trans hE5)); clear hE5
       obtain ⟨cs, hcs, hBk⟩ := (unhide H5).2.2
       have HBk := hide (And.intro hcs hBk)
       clear hcs hBk)
    | (refine wpList_storeB (ty := 23) (t := 23) (x := .tmp 6) (y := .tmp 14) rfl rfl digest_wide rfl rfl (unhide HBk).2 (unhide HBk).1 (by simpa using (unhide HR).2) (bytes_one _) ?_; intro w6 hb6 hc6 hz6; have H6 := hide (And.intro hb6 hc6); clear hb6 hc6 hz6))
  refine bodyPost_ret (v := .agg (res.map u8v).toArray) (results_blk digest_wide rfl (unhide H6).1 (by simpa using (unhide HR).2) rfl) rfl ⟨rfl, ?_⟩
  exact (unhide H5).1.trans' (unhide H6).2 (fun _ _ h => h) (fun i hi e => by omega)

set_option maxRecDepth 100000 in
set_option maxHeartbeats 4000000 in
theorem rpublic_any (seed : List UInt8) (index : Int) (w : World) (hv : seed.length = 16) (h1 : -9223372036854775808 ≤ index) (h2 : index < 9223372036854775808) :
    Calls Tryd.prog 21 #[.agg (seed.map u8v).toArray, .int .i64 index] w fun e w' => e = .returned (.agg ((publicS seed index).map u8v).toArray) ∧ Ext w w' := by
  have HS := hide (fun k (hk : k < 68) (W : World) => rstart_any k seed index W hv (by omega) h1 h2)
  have HA := hide (fun k (hk : k < 68) (W : World) => radv_any k 3 (startS seed index k) W (startS_length _ _ _) (by omega) (by omega))
  have HW := hide (fun k (W : World) => rraw_any (advS k (startS seed index k) 3) W (advS_length k _ (startS_length _ _ _) 3))
  have HL := hide (fun k => advS_length k _ (startS_length seed index k) 3)
  have HE := hide (endsS_step (fun k => advS k (startS seed index k) 3))
  have HEL := hide (endsS_length (fun k => advS k (startS seed index k) 3) (unhide HL) 68)
  have HP := hide (show digestS 4 [endsS (fun k => advS k (startS seed index k) 3) 68] = publicS seed index ∧ (publicS seed index).length = 16 from ⟨rfl, digestS_length _ _⟩)
  obtain ⟨F, hF⟩ : ∃ F, endsS (fun k => advS k (startS seed index k) 3) = F := ⟨_, rfl⟩
  have hF0 : F 0 = [] := by rw [← hF]; rfl
  rw [hF] at HE HEL HP
  obtain ⟨arr, harr⟩ : ∃ r, (seed.map u8v).toArray = r := ⟨_, rfl⟩
  rw [harr] at HS ⊢
  have hasz : arr.size = 16 := by rw [← harr]; simpa using hv
  obtain ⟨res, hres⟩ : ∃ r, publicS seed index = r := ⟨_, rfl⟩
  rw [hres] at HP ⊢
  have HD := hide (fun (W : World) (A : Option Addr) (c : Nat) (pv : Value) (h1 : Reads W 1 pv 1 [.slice A (F 68).length c]) (h2 : Reads W 1 (.slice A (F 68).length c) (F 68).length ((F 68).map u8v)) =>
    rdigest_any 4 [F 68] pv W (Parts.one h1 h2) (by simp) (fun p hp => by have := unhide HEL; simp at hp; subst hp; omega))
  clear harr hres hF hv h1 h2
  have HZ := hide (S2.new w arr)
  go_enter Tryd.func21, Tryd.ntmps21
  go_wp2_with fail
  go_loopw [5, 6] (fun b i wr => ∃ (k : Nat) (A : Option Addr) (c : Nat), k ≤ 68 ∧ i = .int .i64 k ∧ b = .slice A (16 * k) c ∧ Hid (GB w (w.heap.size + 2) b (16 * k) (F k) wr ∧ Blk wr w.heap.size 23 arr ∧ Blk wr (w.heap.size + 1) 23 (Array.replicate 16 (.int .u8 0)))) (fun _ i _ => 68 - (intOf i).toNat)
  case atStart => exact ⟨0, none, 0, by omega, rfl, rfl, hide ⟨by rw [hF0]; exact GB.nil (unhide HZ).1 (by omega) (by simp), (unhide HZ).2.1, Blk.new' _ _ _ (by simp)⟩⟩
  case round =>
    clear HZ
    obtain ⟨k, A, c, hk, rfl, rfl, HI⟩ := hrel
    by_cases hlt : k < 68
    · have HSk := hide (unhide HS k hlt)
      have HAk := hide (unhide HA k hlt)
      have HWk := hide (unhide HW k)
      have HLk := hide (unhide HL k)
      have HEk := hide (unhide HE k)
      generalize hd : advS k (startS seed index k) 3 = d at *
      generalize hst : ((startS seed index k).map u8v).toArray = st at *
      have hkI : (k : Int) < 68 := by omega
      clear hd hst
      go_wp2_with (first
        | (refine wpList_loadB (ty := 23) (t := 23) (x := .tmp 2) rfl rfl digest_wide rfl (unhide HI).2.1 hasz ?_)
        | (go_at_call 47; refine (unhide HSk _).mono ?_; rintro e w2 ⟨rfl, hE2⟩; have H2 := hide hE2; clear hE2)
        | (go_at_call 44; refine (unhide HAk _).mono ?_; rintro e w3 ⟨rfl, hE3⟩; have H3 := hide ((unhide H2).trans hE3); clear hE3)
        | (go_at_call 43; refine (unhide HWk _).mono ?_; rintro e w4 ⟨A4, c4, rfl, ho4, hE4⟩; have H4 := hide (And.intro ho4 ((unhide H3).trans hE4)); clear hE4 ho4)
        | (at_builtin; refine wpList_app rfl rfl u8_row rfl ((unhide HI).1.to (unhide H4).2).own rfl (unhide H4).1 (AllOne.u8 d) (by have := unhide HLk; omega) ((unhide HI).1.to (unhide H4).2).room ?_; intro A' c' w5 ho hc hv; have H5 := hide (And.intro ho hc); clear ho hc hv))
      go_roundw
      case rel =>
        have e16 : 16 * k + d.length = 16 * (k + 1) := by have := unhide HLk; omega
        refine ⟨k + 1, A', c', by omega, by go_num, by rw [e16], hide ⟨?_, (unhide HI).1.blk (unhide H4).2 (unhide H5).2 (unhide HI).2.1 (by omega), (unhide HI).1.blk (unhide H4).2 (unhide H5).2 (unhide HI).2.2 (by omega)⟩⟩
        have h5 := (unhide H5).1
        rw [← List.map_append] at h5
        rw [unhide HEk, ← e16]
        exact (unhide HI).1.step (unhide H4).2 (unhide H5).2 h5
      case measure => simp [intOf]; omega
    · obtain rfl : k = 68 := by omega
      have HX := hide (show GB w (w.heap.size + 2) (.slice A (F 68).length c) (F 68).length (F 68) wr from by rw [unhide HEL]; exact (unhide HI).1)
      have HZ2 := hide (unhide HI).2.2
      have e68 : 16 * 68 = (F 68).length := (unhide HEL).symm
      rw [e68]
      clear HI e68
      go_wp2_with (first
        | (go_at_call 38; refine (unhide HD _ A c _ (Reads.new1 _ _ _) ((unhide HX).reads.ext ((Ext.refl _).alloc _))).mono ?_; rintro e w5 ⟨rfl, hE5⟩; rw [(unhide HP).1]; have H5 := hide (((Ext.refl wr).alloc _).trans hE5); clear hE5)
        | (refine wpList_storeB (ty := 23) (t := 23) (x := .tmp 4) (y := .tmp 22) rfl rfl digest_wide rfl rfl ((unhide HZ2).ext (unhide H5)) rfl (by simpa using (unhide HP).2) (bytes_one _) ?_; intro w7 hb7 hc7 hz7; have H7 := hide (And.intro hb7 hc7); clear hb7 hc7 hz7))
      refine bodyPost_ret (v := .agg (res.map u8v).toArray) (results_blk digest_wide rfl (unhide H7).1 (by simpa using (unhide HP).2) rfl) rfl ⟨rfl, ?_⟩
      exact ((unhide HX).ext.trans (unhide H5)).trans' (unhide H7).2 (fun _ _ h => h) (fun i hi e => by omega)

end Go.Proofs.YtjemfefkgfoikaaDoor

/-
  The reference of one-time signatures: Sign, Recover.
-/
namespace Go.Proofs.YtjemfefkgfoikaaDoor
open Go.RowKit

def S3 (w : World) (v : Array Value) (dv : Value) (m : List UInt8) (W : World) : Prop := Ext w W ∧ Blk W w.heap.size 23 v ∧ Reads W 1 dv 68 (icells (digC m) 68)
theorem S3.ext {w : World} {v : Array Value} {dv : Value} {m : List UInt8} {W W' : World} (h : S3 w v dv m W) (hE : Ext W W') : S3 w v dv m W' := ⟨h.1.trans hE, h.2.1.ext hE, h.2.2.ext hE⟩
theorem S3.chg {w : World} {v : Array Value} {dv : Value} {m : List UInt8} {W W' : World} {S : Nat → Prop} {B : Nat} (h : S3 w v dv m W) (hc : Chg S W W') (hS : ∀ k, S k → B ≤ k) (hB : w.heap.size < B) (hd : ∀ k, dv.ownBlock = some k → k < B) : S3 w v dv m W' :=
  ⟨h.1.trans' hc (fun _ _ h => h.elim) (fun i hi e => by have := hS i e; omega), h.2.1.chg hc (fun e => by have := hS _ e; omega), h.2.2.chg hc (fun k _ hk e => by have := hS k e; have := hd k hk; omega)⟩

set_option maxRecDepth 100000 in
set_option maxHeartbeats 4000000 in
theorem rsign_any (seed : List UInt8) (index : Int) (m : List UInt8) (w : World) (hv : seed.length = 16) (hm : m.length = 16) (h1 : -9223372036854775808 ≤ index) (h2 : index < 9223372036854775808) :
    Calls Tryd.prog 24 #[.agg (seed.map u8v).toArray, .int .i64 index, .agg (m.map u8v).toArray] w fun e w' => ∃ A c, e = .returned (.slice A 68 c) ∧ GD w w.heap.size (.slice A 68 c) 68 (signS seed index m 68) w' := by
  have HDg := hide (fun (W : World) => rdigits_any m W hm)
  have HS := hide (fun k (hk : k < 68) (W : World) => rstart_any k seed index W hv (by omega) h1 h2)
  have HA := hide (fun k (hk : k < 68) (W : World) => radv_any k (digC m k) (startS seed index k) W (startS_length _ _ _) (by omega) (by have := digC_le m k; omega))
  have HL := hide (signAt_length seed index m)
  have HT := hide (signS_step seed index m)
  have HG := hide (fun k (hk : k < 68) => icells_get (digC m) hk)
  have HQ := hide (fun k => show advS k (startS seed index k) (digC m k) = signAt seed index m k from rfl)
  obtain ⟨arr, harr⟩ : ∃ r, (seed.map u8v).toArray = r := ⟨_, rfl⟩
  obtain ⟨marr, hmarr⟩ : ∃ r, (m.map u8v).toArray = r := ⟨_, rfl⟩
  rw [harr] at HS ⊢
  rw [hmarr] at HDg ⊢
  have hasz : arr.size = 16 := by rw [← harr]; simp; omega
  have hmsz : marr.size = 16 := by rw [← hmarr]; simp; omega
  clear harr hmarr hv hm
  go_enter Tryd.func24, Tryd.ntmps24
  go_wp2_with (refine wpList_loadB (ty := 23) (t := 23) (x := .tmp 5) rfl rfl digest_wide rfl (Blk.new' _ _ _ (by simp)) hmsz ?_)
  refine (unhide HDg _).mono ?_
  rintro e w1 ⟨A0, c0, rfl, hr1, hE1⟩
  have H1 := hide (show S3 w arr (.slice A0 68 c0) m w1 from ⟨(((Ext.refl w).alloc _).alloc _).trans hE1, ((Blk.new w 23 arr).alloc _).ext hE1, hr1⟩)
  have hol := hr1.own_lt (by omega) (by omega)
  obtain ⟨b0, o0, cc, u, hv0, _⟩ := hr1.at1 (k := 0) (by omega)
  cases hv0
  have HOL := hide hol
  clear hr1 hE1 hol
  go_wp2_with fail
  go_loopw [8, 9] (fun b i wr => ∃ (k : Nat) (A : Option Addr) (c : Nat), k ≤ 68 ∧ i = .int .i64 k ∧ b = .slice A k c ∧ Hid (GD w w1.heap.size (.slice A k c) k (signS seed index m k) wr ∧ S3 w arr (.slice (some ⟨b0, o0, none⟩) 68 c0) m wr)) (fun _ i _ => 68 - (intOf i).toNat)
  case atStart => exact ⟨0, none, 0, by omega, rfl, rfl, hide ⟨GD.nil (unhide H1).1 (unhide H1).1.size' (Nat.le_refl _), unhide H1⟩⟩
  case round =>
    obtain ⟨k, A, c, hk, rfl, rfl, HI⟩ := hrel
    by_cases hlt : k < 68
    · have HF : Hid (∀ W, S3 w arr (.slice (some ⟨b0, o0, none⟩) 68 c0) m W → W.cell? ⟨b0, o0 + k, none⟩ = some (.int .i64 ((digC m k : Nat) : Int))) := hide (fun W hW => hW.2.2.at_ (unhide HG k hlt))
      have HSk := hide (unhide HS k hlt)
      have HAk := hide (unhide HA k hlt)
      have HLk := hide (unhide HL k)
      have HTk := hide (unhide HT k)
      rw [unhide HQ k] at HAk
      generalize digC m k = dk at *
      generalize hst : ((startS seed index k).map u8v).toArray = st at *
      generalize signAt seed index m k = d at *
      have hkI : (k : Int) < 68 := by omega
      go_upto_region 6 with fail
      refine wp_region_held_drew (S := S3 w arr (.slice (some ⟨b0, o0, none⟩) 68 c0) m) (by kernel_rfl) ((unhide HI).2.ext ((Ext.refl _).drew)) (fun hHeld => ?_)
      refine wpAnyH_take (i := 0) (oi := _) (v := ?_) rfl (by kernel_rfl) (by kernel_rfl) (by kernel_rfl) (fun _ _ _ h => h) (Or.inl ⟨by rfl, fun wz hSz => ?_⟩) (by assumption) ?_
      rotate_left
      · (first | (go_simp; done) | (go_simp; with_reducible rfl) | (obtain f1 := (unhide HF) wz hSz; clear hSz; first | (go_simp; done) | (go_simp; with_reducible rfl)))
      try simp only [Act.put, List.setIfInBounds_toArray, List.set_cons_zero, List.set_cons_succ, List.getElem_toArray, List.getElem_cons_succ, List.getElem_cons_zero]
      refine wpAnyH_take (i := 1) (oi := _) (v := ?_) rfl (by kernel_rfl) (by kernel_rfl) (by kernel_rfl) (fun _ _ _ h => h) (Or.inl ⟨by rfl, fun wz hSz => ?_⟩) (by assumption) ?_
      rotate_left
      · (first | (go_simp; done) | (go_simp; with_reducible rfl) | (obtain f1 := (unhide HF) wz hSz; clear hSz; first | (go_simp; done) | (go_simp; with_reducible rfl)))
      try simp only [Act.put, List.setIfInBounds_toArray, List.set_cons_zero, List.set_cons_succ, List.getElem_toArray, List.getElem_cons_succ, List.getElem_cons_zero]
      refine wpAnyH_take (i := 2) (oi := _) (v := _) rfl (by kernel_rfl) (by kernel_rfl) (by kernel_rfl) (fun _ _ _ h => h) (ylb digest_wide rfl (by rfl) rfl hasz (fun w' hw => hw.2.1)) (by assumption) ?_
      try simp only [Act.put, List.setIfInBounds_toArray, List.set_cons_zero, List.set_cons_succ, List.getElem_toArray, List.getElem_cons_succ, List.getElem_cons_zero]
      refine wpAnyH_take (i := 3) (oi := _) (v := ?_) rfl (by kernel_rfl) (by kernel_rfl) (by kernel_rfl) (fun _ _ _ h => h) (Or.inl ⟨by rfl, fun wz hSz => ?_⟩) (by assumption) ?_
      rotate_left
      · (first | (go_simp; done) | (go_simp; with_reducible rfl) | (obtain f1 := (unhide HF) wz hSz; clear hSz; first | (go_simp; done) | (go_simp; with_reducible rfl)))
      try simp only [Act.put, List.setIfInBounds_toArray, List.set_cons_zero, List.set_cons_succ, List.getElem_toArray, List.getElem_cons_succ, List.getElem_cons_zero]
      refine wpAnyH_take (i := 4) (oi := _) (v := ?_) rfl (by kernel_rfl) (by kernel_rfl) (by kernel_rfl) (fun _ _ _ h => h) (Or.inl ⟨by rfl, fun wz hSz => ?_⟩) (by assumption) ?_
      rotate_left
      · (first | (go_simp; done) | (go_simp; with_reducible rfl) | (obtain f1 := (unhide HF) wz hSz; clear hSz; first | (go_simp; done) | (go_simp; with_reducible rfl)))
      try simp only [Act.put, List.setIfInBounds_toArray, List.set_cons_zero, List.set_cons_succ, List.getElem_toArray, List.getElem_cons_succ, List.getElem_cons_zero]
      refine wpAnyH_take (i := 6) (oi := _) (v := ?_) rfl (by kernel_rfl) (by kernel_rfl) (by kernel_rfl) (fun _ _ _ h => h) (Or.inl ⟨by rfl, fun wz hSz => ?_⟩) (by assumption) ?_
      rotate_left
      · (first | (go_simp; done) | (go_simp; with_reducible rfl) | (obtain f1 := (unhide HF) wz hSz; clear hSz; first | (go_simp; done) | (go_simp; with_reducible rfl)))
      try simp only [Act.put, List.setIfInBounds_toArray, List.set_cons_zero, List.set_cons_succ, List.getElem_toArray, List.getElem_cons_succ, List.getElem_cons_zero]
      refine wpAnyH_take (i := 7) (oi := _) (v := ?_) rfl (by kernel_rfl) (by kernel_rfl) (by kernel_rfl) (fun _ _ _ h => h) (Or.inl ⟨by rfl, fun wz hSz => ?_⟩) (by assumption) ?_
      rotate_left
      · (first | (go_simp; done) | (go_simp; with_reducible rfl) | (obtain f1 := (unhide HF) wz hSz; clear hSz; first | (go_simp; done) | (go_simp; with_reducible rfl)))
      try simp only [Act.put, List.setIfInBounds_toArray, List.set_cons_zero, List.set_cons_succ, List.getElem_toArray, List.getElem_cons_succ, List.getElem_cons_zero]
      refine wpAnyH_take (i := 8) (oi := _) (v := ?_) rfl (by kernel_rfl) (by kernel_rfl) (by kernel_rfl) (fun _ _ _ h => h) (Or.inl ⟨by rfl, fun wz hSz => ?_⟩) (by assumption) ?_
      rotate_left
      · (first | (go_simp; done) | (go_simp; with_reducible rfl) | (obtain f1 := (unhide HF) wz hSz; clear hSz; first | (go_simp; done) | (go_simp; with_reducible rfl)))
      try simp only [Act.put, List.setIfInBounds_toArray, List.set_cons_zero, List.set_cons_succ, List.getElem_toArray, List.getElem_cons_succ, List.getElem_cons_zero]
      refine wpAnyH_take (i := 9) (oi := _) (v := ?_) rfl (by kernel_rfl) (by kernel_rfl) (by kernel_rfl) (fun _ _ _ h => h) (Or.inl ⟨by rfl, fun wz hSz => ?_⟩) (by assumption) ?_
      rotate_left
      · (first | (go_simp; done) | (go_simp; with_reducible rfl) | (obtain f1 := (unhide HF) wz hSz; clear hSz; first | (go_simp; done) | (go_simp; with_reducible rfl)))
      try simp only [Act.put, List.setIfInBounds_toArray, List.set_cons_zero, List.set_cons_succ, List.getElem_toArray, List.getElem_cons_succ, List.getElem_cons_zero]
      refine wpAnyH_ready (rs := [5]) (by kernel_rfl) (by simp) (AllReadyH.cons (o := _) rfl (fun K hK => ?_) AllReadyH.nil)
      try go_simp
      (refine (unhide HSk _).mono ?_; rintro e w2 ⟨rfl, hE2⟩; have hS := hHeld.ext hE2; have H2 := hide (((Ext.refl wr).drew).trans hE2); clear hHeld hE2)
      refine hK.out _ _ ?_ (fun hHeld => ?_)
      · exact hS
      clear hK K
      try simp only [Act.put, List.setIfInBounds_toArray, List.set_cons_zero, List.set_cons_succ, List.getElem_toArray, List.getElem_cons_succ, List.getElem_cons_zero]
      refine wpAnyH_ready (rs := [10]) (by kernel_rfl) (by simp) (AllReadyH.cons (o := _) rfl (fun K hK => ?_) AllReadyH.nil)
      try go_simp
      (refine (unhide HAk _).mono ?_; rintro e w3 ⟨rfl, hE3⟩; have hS := hHeld.ext hE3; have H3 := hide ((unhide H2).trans hE3); clear hHeld hE3 H2)
      refine hK.out _ _ ?_ (fun hHeld => ?_)
      · exact hS
      clear hK K
      try simp only [Act.put, List.setIfInBounds_toArray, List.set_cons_zero, List.set_cons_succ, List.getElem_toArray, List.getElem_cons_succ, List.getElem_cons_zero]
      refine wpAnyH_ready (rs := [11]) (by kernel_rfl) (by simp) (AllReadyH.cons (o := _) rfl (fun K hK => ?_) AllReadyH.nil)
      (rw [if_pos (by rfl)]; refine wp_build1 (t := 24) (x := .tmp 26) digs_row (by omega) rfl rfl (by simpa using unhide HLk) ?_; have hS := hHeld.ext ((Ext.refl w3).alloc (.cells (d.map u8v).toArray 23)); clear hHeld)
      refine hK.out _ _ ?_ (fun hHeld => ?_)
      · exact hS
      clear hK K
      try simp only [Act.put, List.setIfInBounds_toArray, List.set_cons_zero, List.set_cons_succ, List.getElem_toArray, List.getElem_cons_succ, List.getElem_cons_zero]
      refine wpAnyH_ready (rs := [12]) (by kernel_rfl) (by simp) (AllReadyH.cons (o := _) rfl (fun K hK => ?_) AllReadyH.nil)
      (refine step_app rfl rfl digs_row rfl ((unhide HI).1.to ((unhide H3).alloc _)).own rfl (Reads.newD _ _ _ (unhide HLk) rfl) (AllOne.u8 d) (by omega) ((unhide HI).1.to ((unhide H3).alloc _)).room ?_; intro A' c' w4 ho hc4 hv; have hS := hHeld.chg (B := w1.heap.size) hc4 (fun j hj => ((unhide HI).1.own.lt j hj).1) (unhide H1).2.1.lt (unhide HOL); have H4 := hide ((unhide HI).1.step (unhide HLk) ((unhide H3).alloc _) hc4 ho); clear ho hc4 hv hHeld)
      refine hK.out _ _ ?_ (fun hHeld => ?_)
      · exact hS
      clear hK K
      try simp only [Act.put, List.setIfInBounds_toArray, List.set_cons_zero, List.set_cons_succ, List.getElem_toArray, List.getElem_cons_succ, List.getElem_cons_zero]
      refine wpAnyH_take (i := 13) (oi := _) (v := ?_) rfl (by kernel_rfl) (by kernel_rfl) (by kernel_rfl) (fun _ _ _ h => h) (Or.inl ⟨by rfl, fun wz hSz => ?_⟩) (by assumption) ?_
      rotate_left
      · (first | (go_simp; done) | (go_simp; with_reducible rfl) | (obtain f1 := (unhide HF) wz hSz; clear hSz; first | (go_simp; done) | (go_simp; with_reducible rfl)))
      try simp only [Act.put, List.setIfInBounds_toArray, List.set_cons_zero, List.set_cons_succ, List.getElem_toArray, List.getElem_cons_succ, List.getElem_cons_zero]
      refine wpAnyH_done (by kernel_rfl) ?_ _
      have H5 := hide hHeld
      clear hHeld
      go_wp2
      go_roundw
      case rel => exact ⟨k + 1, A', c', by omega, by go_num, rfl, hide ⟨by rw [unhide HTk]; exact unhide H4, unhide H5⟩⟩
      case measure => simp [intOf]; omega
    · obtain rfl : k = 68 := by omega
      go_wp2
      go_ret
      exact ⟨A, c, rfl, ⟨ownsRow_base (unhide HI).1.own (unhide H1).1.size', (unhide HI).1.all, (unhide HI).1.ext, Nat.le_refl _, (unhide HI).1.ext.size'⟩⟩

end Go.Proofs.YtjemfefkgfoikaaDoor

/-
  The reference of one-time signatures: Recover.
-/
namespace Go.Proofs.YtjemfefkgfoikaaDoor
open Go.RowKit

def S4 (w : World) (cv : Value) (c : List (List UInt8)) (dv : Value) (m : List UInt8) (W : World) : Prop := Ext w W ∧ Digs W cv c ∧ Reads W 1 dv 68 (icells (digC m) 68) ∧ Blk W (w.heap.size + 1) 23 (Array.replicate 16 (.int .u8 0))
theorem S4.ext {w : World} {cv : Value} {c : List (List UInt8)} {dv : Value} {m : List UInt8} {W W' : World} (h : S4 w cv c dv m W) (hE : Ext W W') : S4 w cv c dv m W' := ⟨h.1.trans hE, h.2.1.ext hE, h.2.2.1.ext hE, h.2.2.2.ext hE⟩
theorem S4.chg {w : World} {cv : Value} {c : List (List UInt8)} {dv : Value} {m : List UInt8} {W W' : World} {S : Nat → Prop} {B : Nat} (h : S4 w cv c dv m W) (hc : Chg S W W') (hS : ∀ k, S k → B ≤ k) (hB : w.heap.size + 1 < B) (hd : ∀ k, dv.ownBlock = some k → k < B) (hcv : ∀ k, cv.ownBlock = some k → k < B) : S4 w cv c dv m W' :=
  ⟨h.1.trans' hc (fun _ _ h => h.elim) (fun i hi e => by have := hS i e; omega), h.2.1.chg hc (fun k hk e => by have := hS k e; have := hcv k hk; omega), h.2.2.1.chg hc (fun k _ hk e => by have := hS k e; have := hd k hk; omega), h.2.2.2.chg hc (fun e => by have := hS _ e; omega)⟩

set_option maxRecDepth 100000 in
set_option maxHeartbeats 4000000 in
theorem rrecover_no (m : List UInt8) (c : List (List UInt8)) (cv : Value) (w : World) (hc : ¬ c.length = 68) (hD : Digs w cv c) :
    Calls Tryd.prog 19 #[.agg (m.map u8v).toArray, cv] w fun e w' => e = .returned (.tuple #[.agg (z16.map u8v).toArray, .int .i64 9]) ∧ Ext w w' := by
  obtain ⟨A, c', rfl, _, _⟩ := hD.form
  obtain ⟨arr, harr⟩ : ∃ r, (m.map u8v).toArray = r := ⟨_, rfl⟩
  rw [harr]
  clear hD harr
  have hcI : ¬ (c.length : Int) = 68 := by omega
  generalize c.length = n at *
  go_enter Tryd.func19, Tryd.ntmps19
  go_wp2
  refine bodyPost_ret (v := .tuple #[.agg (z16.map u8v).toArray, .int .i64 9]) (results_two digest_wide rfl (Blk.new' _ _ _ (by simp)) rfl rfl rfl) rfl ⟨rfl, ?_⟩
  exact ((Ext.refl w).alloc _).alloc _

set_option maxRecDepth 100000 in
set_option maxHeartbeats 4000000 in
theorem rrecover_yes (m : List UInt8) (c : List (List UInt8)) (cv : Value) (w : World) (hm : m.length = 16) (hc : c.length = 68) (hD : Digs w cv c) :
    Calls Tryd.prog 19 #[.agg (m.map u8v).toArray, cv] w fun e w' => e = .returned (.tuple #[.agg ((recoverS m (chainAt c)).map u8v).toArray, .int .i64 0]) ∧ Ext w w' := by
  have hlt := hD.own_lt (by omega)
  obtain ⟨bc, oc, c', rfl, _, _, _, _⟩ := hD.at (k := 0) (by omega)
  have HDD := hide hD
  have HLT := hide hlt
  have HDg := hide (fun (W : World) => rdigits_any m W hm)
  have HA := hide (fun k (W : World) => radv_any k (3 - digC m k) (chainAt c k) W (chainAt_length hD.1 k))
  have HW := hide (fun k (W : World) => rraw_any (advS k (chainAt c k) (3 - digC m k)) W (advS_length k _ (chainAt_length hD.1 k) _))
  have HL := hide (fun k => advS_length k _ (chainAt_length hD.1 k) (3 - digC m k))
  have HCL := hide (fun k => chainAt_length hD.1 k)
  have HG := hide (fun k (hk : k < 68) => icells_get (digC m) hk)
  have H3' := hide (digC_le m)
  have HE := hide (endsS_step (fun k => advS k (chainAt c k) (3 - digC m k)))
  have HEL := hide (endsS_length (fun k => advS k (chainAt c k) (3 - digC m k)) (unhide HL) 68)
  have HP := hide (show digestS 4 [endsS (fun k => advS k (chainAt c k) (3 - digC m k)) 68] = recoverS m (chainAt c) ∧ (recoverS m (chainAt c)).length = 16 from ⟨rfl, digestS_length _ _⟩)
  have HAT := hide (fun k (W : World) (hk : k < 68) (h : Digs W (.slice (some ⟨bc, oc, none⟩) c.length c') c) => show W.rangeAt bc (oc + k * 16) ((chainAt c k).map u8v) from by
    obtain ⟨b2, o2, c2, e, _, _, _, hr⟩ := h.at (k := k) (by omega)
    cases e
    rw [chainAt_get (by omega)]
    exact hr)
  obtain ⟨F, hF⟩ : ∃ F, endsS (fun k => advS k (chainAt c k) (3 - digC m k)) = F := ⟨_, rfl⟩
  have hF0 : F 0 = [] := by rw [← hF]; rfl
  rw [hF] at HE HEL HP
  obtain ⟨arr, harr⟩ : ∃ r, (m.map u8v).toArray = r := ⟨_, rfl⟩
  rw [harr] at HDg ⊢
  have hasz : arr.size = 16 := by rw [← harr]; simpa using hm
  obtain ⟨res, hres⟩ : ∃ r, recoverS m (chainAt c) = r := ⟨_, rfl⟩
  rw [hres] at HP ⊢
  have HD := hide (fun (W : World) (A : Option Addr) (c : Nat) (pv : Value) (h1 : Reads W 1 pv 1 [.slice A (F 68).length c]) (h2 : Reads W 1 (.slice A (F 68).length c) (F 68).length ((F 68).map u8v)) =>
    rdigest_any 4 [F 68] pv W (Parts.one h1 h2) (by simp) (fun p hp => by have := unhide HEL; simp at hp; subst hp; omega))
  rw [hc] at HDD HLT HAT ⊢
  clear harr hres hF hm hD hlt
  go_enter Tryd.func19, Tryd.ntmps19
  go_wp2_with (refine wpList_loadB (ty := 23) (t := 23) (x := .tmp 2) rfl rfl digest_wide rfl ((Blk.new w _ _).alloc _) hasz ?_)
  refine (unhide HDg _).mono ?_
  rintro e w1 ⟨A0, c0, rfl, hr1, hE1⟩
  have hol := hr1.own_lt (by omega) (by omega)
  obtain ⟨b0, o0, cc, u, hv0, _⟩ := hr1.at1 (k := 0) (by omega)
  cases hv0
  have H1 := hide (show S4 w (.slice (some ⟨bc, oc, none⟩) 68 c') c (.slice (some ⟨b0, o0, none⟩) 68 c0) m w1 from ⟨(((Ext.refl w).alloc _).alloc _).trans hE1, (unhide HDD).ext ((((Ext.refl w).alloc _).alloc _).trans hE1), hr1, (Blk.new' (w.alloc (.cells arr 23)) 23 (Array.replicate 16 (.int .u8 0)) (g := w.heap.size + 1) (by simp)).ext hE1⟩)
  have HOL := hide hol
  clear hr1 hE1 hol
  go_wp2_with fail
  go_loopw [7, 8] (fun b i wr => ∃ (k : Nat) (A : Option Addr) (c1 : Nat), k ≤ 68 ∧ i = .int .i64 k ∧ b = .slice A (16 * k) c1 ∧ Hid (GB w w1.heap.size b (16 * k) (F k) wr ∧ S4 w (.slice (some ⟨bc, oc, none⟩) 68 c') c (.slice (some ⟨b0, o0, none⟩) 68 c0) m wr)) (fun _ i _ => 68 - (intOf i).toNat)
  case atStart => exact ⟨0, none, 0, by omega, rfl, rfl, hide ⟨by rw [hF0]; exact GB.nil (unhide H1).1 (unhide H1).1.size' (Nat.le_refl _), unhide H1⟩⟩
  case round =>
    obtain ⟨k, A, c1, hk, rfl, rfl, HI⟩ := hrel
    by_cases hlt : k < 68
    · have HF : Hid (∀ W, S4 w (.slice (some ⟨bc, oc, none⟩) 68 c') c (.slice (some ⟨b0, o0, none⟩) 68 c0) m W → W.cell? ⟨b0, o0 + k, none⟩ = some (.int .i64 ((digC m k : Nat) : Int))) := hide (fun W hW => hW.2.2.1.at_ (unhide HG k hlt))
      have HAT' := hide (fun (W : World) (h : S4 w (.slice (some ⟨bc, oc, none⟩) 68 c') c (.slice (some ⟨b0, o0, none⟩) 68 c0) m W) => unhide HAT k W hlt h.2.1)
      have HAk := hide (fun W => unhide HA k W (by omega) (by omega))
      have HWk := hide (unhide HW k)
      have HLk := hide (unhide HL k)
      have HCk := hide (show ((chainAt c k).map u8v).length = 16 from by rw [List.length_map]; exact unhide HCL k)
      have HEk := hide (unhide HE k)
      have h3 := unhide H3' k
      have e3 : IntKind.i64.wrap (3 - ((digC m k : Nat) : Int)) = ((3 - digC m k : Nat) : Int) := by rw [IntKind.wrap_i64]; omega
      generalize hd : advS k (chainAt c k) (3 - digC m k) = d at *
      generalize digC m k = dk at *
      generalize hst : (chainAt c k).map u8v = st at *
      generalize 3 - dk = sk at *
      have hkI : (k : Int) < 68 := by omega
      clear hd hst
      go_upto_region 8 with fail
      refine wp_region_held_drew (S := S4 w (.slice (some ⟨bc, oc, none⟩) 68 c') c (.slice (some ⟨b0, o0, none⟩) 68 c0) m) (by kernel_rfl) ((unhide HI).2.ext ((Ext.refl _).drew)) (fun hHeld => ?_)
      refine wpAnyH_take (i := 0) (oi := _) (v := ?_) rfl (by kernel_rfl) (by kernel_rfl) (by kernel_rfl) (fun _ _ _ h => h) (Or.inl ⟨by rfl, fun wz hSz => ?_⟩) (by assumption) ?_
      rotate_left
      · (first | (go_simp; done) | (go_simp; with_reducible rfl) | (obtain f1 := (unhide HF) wz hSz; clear hSz; first | (go_simp; done) | (go_simp; with_reducible rfl)))
      try simp only [Act.put, List.setIfInBounds_toArray, List.set_cons_zero, List.set_cons_succ, List.getElem_toArray, List.getElem_cons_succ, List.getElem_cons_zero]
      refine wpAnyH_take (i := 1) (oi := _) (v := ?_) rfl (by kernel_rfl) (by kernel_rfl) (by kernel_rfl) (fun _ _ _ h => h) (Or.inl ⟨by rfl, fun wz hSz => ?_⟩) (by assumption) ?_
      rotate_left
      · (first | (go_simp; done) | (go_simp; with_reducible rfl) | (obtain f1 := (unhide HF) wz hSz; clear hSz; first | (go_simp; done) | (go_simp; with_reducible rfl)))
      try simp only [Act.put, List.setIfInBounds_toArray, List.set_cons_zero, List.set_cons_succ, List.getElem_toArray, List.getElem_cons_succ, List.getElem_cons_zero]
      refine wpAnyH_take (i := 2) (oi := _) (v := ?_) rfl (by kernel_rfl) (by kernel_rfl) (by kernel_rfl) (fun _ _ _ h => h) (Or.inl ⟨by rfl, fun wz hSz => ?_⟩) (by assumption) ?_
      rotate_left
      · (first | (go_simp; done) | (go_simp; with_reducible rfl) | (obtain f1 := (unhide HF) wz hSz; clear hSz; first | (go_simp; done) | (go_simp; with_reducible rfl)))
      try simp only [Act.put, List.setIfInBounds_toArray, List.set_cons_zero, List.set_cons_succ, List.getElem_toArray, List.getElem_cons_succ, List.getElem_cons_zero]
      refine wpAnyH_take (i := 3) (oi := _) (v := ?_) rfl (by kernel_rfl) (by kernel_rfl) (by kernel_rfl) (fun _ _ _ h => h) (Or.inl ⟨by rfl, fun wz hSz => ?_⟩) (by assumption) ?_
      rotate_left
      · (first | (go_simp; done) | (go_simp; with_reducible rfl) | (obtain f1 := (unhide HF) wz hSz; clear hSz; first | (go_simp; done) | (go_simp; with_reducible rfl)))
      try simp only [Act.put, List.setIfInBounds_toArray, List.set_cons_zero, List.set_cons_succ, List.getElem_toArray, List.getElem_cons_succ, List.getElem_cons_zero]
      refine wpAnyH_take (i := 4) (oi := _) (v := ?_) rfl (by kernel_rfl) (by kernel_rfl) (by kernel_rfl) (fun _ _ _ h => h) (Or.inl ⟨by rfl, fun wz hSz => ?_⟩) (by assumption) ?_
      rotate_left
      · (first | (go_simp; done) | (go_simp; with_reducible rfl) | (obtain f1 := (unhide HF) wz hSz; clear hSz; first | (go_simp; done) | (go_simp; with_reducible rfl)))
      try simp only [Act.put, List.setIfInBounds_toArray, List.set_cons_zero, List.set_cons_succ, List.getElem_toArray, List.getElem_cons_succ, List.getElem_cons_zero]
      refine wpAnyH_take (i := 5) (oi := _) (v := _) rfl (by kernel_rfl) (by kernel_rfl) (by kernel_rfl) (fun _ _ _ h => h) (ylm digest_wide rfl (by rfl) rfl (unhide HCk) (fun w' hw => unhide HAT' w' hw)) (by assumption) ?_
      try simp only [Act.put, List.setIfInBounds_toArray, List.set_cons_zero, List.set_cons_succ, List.getElem_toArray, List.getElem_cons_succ, List.getElem_cons_zero]
      refine wpAnyH_take (i := 6) (oi := _) (v := ?_) rfl (by kernel_rfl) (by kernel_rfl) (by kernel_rfl) (fun _ _ _ h => h) (Or.inl ⟨by rfl, fun wz hSz => ?_⟩) (by assumption) ?_
      rotate_left
      · (first | (go_simp; done) | (go_simp; with_reducible rfl) | (obtain f1 := (unhide HF) wz hSz; clear hSz; first | (go_simp; done) | (go_simp; with_reducible rfl)))
      try simp only [Act.put, List.setIfInBounds_toArray, List.set_cons_zero, List.set_cons_succ, List.getElem_toArray, List.getElem_cons_succ, List.getElem_cons_zero]
      refine wpAnyH_take (i := 7) (oi := _) (v := ?_) rfl (by kernel_rfl) (by kernel_rfl) (by kernel_rfl) (fun _ _ _ h => h) (Or.inl ⟨by rfl, fun wz hSz => ?_⟩) (by assumption) ?_
      rotate_left
      · (first | (go_simp; done) | (go_simp; with_reducible rfl) | (obtain f1 := (unhide HF) wz hSz; clear hSz; first | (go_simp; done) | (go_simp; with_reducible rfl)))
      try simp only [Act.put, List.setIfInBounds_toArray, List.set_cons_zero, List.set_cons_succ, List.getElem_toArray, List.getElem_cons_succ, List.getElem_cons_zero]
      refine wpAnyH_take (i := 8) (oi := _) (v := ?_) rfl (by kernel_rfl) (by kernel_rfl) (by kernel_rfl) (fun _ _ _ h => h) (Or.inl ⟨by rfl, fun wz hSz => ?_⟩) (by assumption) ?_
      rotate_left
      · (first | (go_simp; done) | (go_simp; with_reducible rfl) | (obtain f1 := (unhide HF) wz hSz; clear hSz; first | (go_simp; done) | (go_simp; with_reducible rfl)))
      try simp only [Act.put, List.setIfInBounds_toArray, List.set_cons_zero, List.set_cons_succ, List.getElem_toArray, List.getElem_cons_succ, List.getElem_cons_zero]
      refine wpAnyH_take (i := 9) (oi := _) (v := ?_) rfl (by kernel_rfl) (by kernel_rfl) (by kernel_rfl) (fun _ _ _ h => h) (Or.inl ⟨by rfl, fun wz hSz => ?_⟩) (by assumption) ?_
      rotate_left
      · (first | (go_simp; done) | (go_simp; with_reducible rfl) | (obtain f1 := (unhide HF) wz hSz; clear hSz; first | (go_simp; done) | (go_simp; with_reducible rfl)))
      try simp only [Act.put, List.setIfInBounds_toArray, List.set_cons_zero, List.set_cons_succ, List.getElem_toArray, List.getElem_cons_succ, List.getElem_cons_zero]
      refine wpAnyH_take (i := 10) (oi := _) (v := ?_) rfl (by kernel_rfl) (by kernel_rfl) (by kernel_rfl) (fun _ _ _ h => h) (Or.inl ⟨by rfl, fun wz hSz => ?_⟩) (by assumption) ?_
      rotate_left
      · (first | (go_simp; done) | (go_simp; with_reducible rfl) | (obtain f1 := (unhide HF) wz hSz; clear hSz; first | (go_simp; done) | (go_simp; with_reducible rfl)))
      try simp only [Act.put, List.setIfInBounds_toArray, List.set_cons_zero, List.set_cons_succ, List.getElem_toArray, List.getElem_cons_succ, List.getElem_cons_zero]
      refine wpAnyH_ready (rs := [11]) (by kernel_rfl) (by simp) (AllReadyH.cons (o := _) rfl (fun K hK => ?_) AllReadyH.nil)
      try go_simp
      (refine (unhide HAk _).mono ?_; rintro e w2 ⟨rfl, hE2⟩; have hS := hHeld.ext hE2; have H2 := hide (((Ext.refl wr).drew).trans hE2); clear hHeld hE2)
      refine hK.out _ _ ?_ (fun hHeld => ?_)
      · exact hS
      clear hK K
      try simp only [Act.put, List.setIfInBounds_toArray, List.set_cons_zero, List.set_cons_succ, List.getElem_toArray, List.getElem_cons_succ, List.getElem_cons_zero]
      refine wpAnyH_ready (rs := [12]) (by kernel_rfl) (by simp) (AllReadyH.cons (o := _) rfl (fun K hK => ?_) AllReadyH.nil)
      try go_simp
      (refine (unhide HWk _).mono ?_; rintro e w4 ⟨A4, c4, rfl, ho4, hE4⟩; have hS := hHeld.ext hE4; have H4 := hide (And.intro ho4 ((unhide H2).trans hE4)); clear hHeld hE4 H2 ho4)
      refine hK.out _ _ ?_ (fun hHeld => ?_)
      · exact hS
      clear hK K
      try simp only [Act.put, List.setIfInBounds_toArray, List.set_cons_zero, List.set_cons_succ, List.getElem_toArray, List.getElem_cons_succ, List.getElem_cons_zero]
      refine wpAnyH_ready (rs := [13]) (by kernel_rfl) (by simp) (AllReadyH.cons (o := _) rfl (fun K hK => ?_) AllReadyH.nil)
      (refine step_app rfl rfl u8_row rfl ((unhide HI).1.to (unhide H4).2).own rfl (unhide H4).1 (AllOne.u8 d) (by have := unhide HLk; omega) ((unhide HI).1.to (unhide H4).2).room ?_; intro A' c5 w5 ho hc5 hv; have hS := hHeld.chg (B := w1.heap.size) hc5 (fun j hj => ((unhide HI).1.own.lt j hj).1) (unhide H1).2.2.2.lt (unhide HOL) (fun j hj => by have := unhide HLT j hj; have := (unhide H1).1.size'; omega); have H5 := hide ((unhide HI).1.step (unhide H4).2 hc5 (l' := F k ++ d) (by rw [List.map_append]; exact ho)); clear ho hc5 hv hHeld)
      refine hK.out _ _ ?_ (fun hHeld => ?_)
      · exact hS
      clear hK K
      try simp only [Act.put, List.setIfInBounds_toArray, List.set_cons_zero, List.set_cons_succ, List.getElem_toArray, List.getElem_cons_succ, List.getElem_cons_zero]
      refine wpAnyH_take (i := 14) (oi := _) (v := ?_) rfl (by kernel_rfl) (by kernel_rfl) (by kernel_rfl) (fun _ _ _ h => h) (Or.inl ⟨by rfl, fun wz hSz => ?_⟩) (by assumption) ?_
      rotate_left
      · (first | (go_simp; done) | (go_simp; with_reducible rfl) | (obtain f1 := (unhide HF) wz hSz; clear hSz; first | (go_simp; done) | (go_simp; with_reducible rfl)))
      try simp only [Act.put, List.setIfInBounds_toArray, List.set_cons_zero, List.set_cons_succ, List.getElem_toArray, List.getElem_cons_succ, List.getElem_cons_zero]
      refine wpAnyH_done (by kernel_rfl) ?_ _
      have H6 := hide hHeld
      clear hHeld
      go_wp2
      go_roundw
      case rel =>
        have e16 : 16 * k + d.length = 16 * (k + 1) := by have := unhide HLk; omega
        refine ⟨k + 1, A', c5, by omega, by go_num, by rw [e16], hide ⟨?_, unhide H6⟩⟩
        rw [unhide HEk, ← e16]
        exact unhide H5
      case measure => simp [intOf]; omega
    · obtain rfl : k = 68 := by omega
      have HX := hide (show GB w w1.heap.size (.slice A (F 68).length c1) (F 68).length (F 68) wr from by rw [unhide HEL]; exact (unhide HI).1)
      have HZ2 := hide (unhide HI).2.2.2.2
      have e68 : 16 * 68 = (F 68).length := (unhide HEL).symm
      rw [e68]
      clear HI e68
      go_wp2_with (first
        | (go_at_call 38; refine (unhide HD _ A c1 _ (Reads.new1 _ _ _) ((unhide HX).reads.ext ((Ext.refl _).alloc _))).mono ?_; rintro e w5 ⟨rfl, hE5⟩; rw [(unhide HP).1]; have H5 := hide (((Ext.refl wr).alloc _).trans hE5); clear hE5)
        | (refine wpList_storeB (ty := 23) (t := 23) (x := .tmp 4) (y := .tmp 35) rfl rfl digest_wide rfl rfl ((unhide HZ2).ext (unhide H5)) rfl (by simpa using (unhide HP).2) (bytes_one _) ?_; intro w7 hb7 hc7 hz7; have H7 := hide (And.intro hb7 hc7); clear hb7 hc7 hz7))
      refine bodyPost_ret (v := .tuple #[.agg (res.map u8v).toArray, .int .i64 0]) (results_two digest_wide rfl (unhide H7).1 (by simpa using (unhide HP).2) rfl rfl) rfl ⟨rfl, ?_⟩
      exact ((unhide HX).ext.trans (unhide H5)).trans' (unhide H7).2 (fun _ _ h => h) (fun i hi e => by omega)

theorem rrecover_any (m : List UInt8) (c : List (List UInt8)) (cv : Value) (w : World) (hm : m.length = 16) (hD : Digs w cv c) :
    Calls Tryd.prog 19 #[.agg (m.map u8v).toArray, cv] w fun e w' => e = .returned (recV m c) ∧ Ext w w' := by
  unfold recV
  split
  · rename_i h; exact rrecover_yes m c cv w hm h hD
  · rename_i h; exact rrecover_no m c cv w h hD

end Go.Proofs.YtjemfefkgfoikaaDoor
