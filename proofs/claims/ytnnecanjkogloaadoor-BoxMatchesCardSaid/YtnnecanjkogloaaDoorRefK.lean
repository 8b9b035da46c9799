/-
  The reference's Seal and Open.
-/
import Derived.Test.YtnnecanjkogloaaDoorRefJ
namespace Go.Proofs.YtnnecanjkogloaaDoor
open Go.RowKit

set_option maxRecDepth 100000 in
set_option maxHeartbeats 2000000 in
theorem rseal_any (key : List UInt8) (nonce : Int) (s : ByteArray) (w : World) (hk : key.length = 16) (h1 : -9223372036854775808 ≤ nonce) (h2 : nonce < 9223372036854775808) (hs : s.size ≤ 10000) :
    Calls Tryd.prog 33 #[.agg (key.map u8v).toArray, .int .i64 nonce, .string s] w fun e w' => e = .returned (.agg (boxV nonce (strOf (applyS key nonce s.data.toList)) (tagS key nonce (applyS key nonce s.data.toList)))) ∧ Ext w w' := by
  obtain ⟨arr, harr⟩ : ∃ r, (key.map u8v).toArray = r := ⟨_, rfl⟩
  have HAp := hide (fun W => rapply_any key nonce s W hk h1 h2 (by omega))
  rw [harr] at HAp ⊢
  have hasz : arr.size = 16 := by rw [← harr]; simpa using hk
  have h1c : arr.all (·.oneCell') = true := by rw [← harr]; exact bytes_one _
  have HA := hide harr
  clear harr
  go_enter Tryd.func33, Tryd.ntmps33
  obtain ⟨cs, hcs⟩ : ∃ c, strOf (applyS key nonce s.data.toList) = c := ⟨_, rfl⟩
  have hcl : cs.data.toList = applyS key nonce s.data.toList := by rw [← hcs]; exact strOf_list _
  have hcz : cs.size ≤ 100000 := by have h : cs.data.toList.length = s.data.toList.length := by rw [hcl, applyS_length]
                                    rw [Array.length_toList, Array.length_toList] at h
                                    have h2 : cs.size = s.size := h
                                    omega
  have HTg := hide (fun W => rtag_any key nonce cs W hk h1 h2 hcz)
  rw [unhide HA, hcl] at HTg
  rw [hcs] at HAp ⊢
  have HTL := hide (tagS_length key nonce (applyS key nonce s.data.toList))
  generalize tagS key nonce (applyS key nonce s.data.toList) = tg at *
  clear hcs hcl
  obtain ⟨t0, t1, t2, t3, t4, t5, t6, t7, t8, t9, t10, t11, t12, t13, t14, t15, rfl⟩ := list16 (unhide HTL)
  go_wp2_with (first
    | (refine wpList_loadB (x := .tmp 3) rfl rfl digest_wide rfl (cs := arr) (g := w.heap.size) (by first | exact (Blk.new w _ _).alloc _ | assumption) hasz ?_)
    | (go_at_call 53; refine (unhide HAp _).mono ?_; rintro e w1 ⟨rfl, hE1⟩
       have hba : Blk w1 w.heap.size 32 arr := ((Blk.new w _ _).alloc _).ext hE1
       have hbb := (Blk.new' (g := w.heap.size + 1) (w.alloc (.cells arr 32)) _ _ (by simp)).ext hE1
       have H1 := hide (show Ext w w1 ∧ Blk w1 (w.heap.size + 1) 47 (#[.int .i64 0, .string { data := #[] }] ++ Array.replicate 16 (.int .u8 0)) from And.intro ((((Ext.refl w).alloc _).alloc _).trans hE1) hbb); clear hE1 hbb)
    | (go_at_call 52; refine (unhide HTg _).mono ?_; rintro e w2 ⟨rfl, hE2⟩; have H2 := hide (And.intro ((unhide H1).1.trans hE2) ((unhide H1).2.ext hE2)); clear hE2)
    | (refine wpList_storeB (ty := 47) (t := 47) (x := .tmp 6) (y := .tmp 18) rfl rfl box_wide rfl rfl (unhide H2).2 (by simp) rfl (by rw [← Array.all_toList]; rfl) ?_; intro w3 hb3 hc3 hz3; have H3 := hide (And.intro hb3 hc3); clear hb3 hc3 hz3))
  refine bodyPost_ret (results_blk box_wide rfl (unhide H3).1 rfl rfl) rfl ⟨rfl, ?_⟩
  exact (unhide H2).1.trans' (unhide H3).2 (fun _ _ h => h) (fun i hi e => by omega)


set_option maxRecDepth 100000 in
set_option maxHeartbeats 2000000 in
theorem ropen_no (key : List UInt8) (nonce : Int) (c : ByteArray) (t : List UInt8) (w : World) (hk : key.length = 16) (ht : t.length = 16) (h1 : -9223372036854775808 ≤ nonce) (h2 : nonce < 9223372036854775808) (hs : c.size ≤ 10000)
    (hno : ¬ tagS key nonce c.data.toList = t) :
    Calls Tryd.prog 31 #[.agg (key.map u8v).toArray, .agg (boxV nonce c t)] w fun e w' => e = .returned (.tuple #[.string { data := #[] }, .int .i64 8]) ∧ Ext w w' := by
  obtain ⟨arr, harr⟩ : ∃ r, (key.map u8v).toArray = r := ⟨_, rfl⟩
  have HAp := hide (fun W => rapply_any key nonce c W hk h1 h2 hs)
  have HTg := hide (fun W => rtag_any key nonce c W hk h1 h2 (by omega))
  rw [harr] at HAp HTg ⊢
  have hasz : arr.size = 16 := by rw [← harr]; simpa using hk
  have hne := fun W => ne16 (tagS_length key nonce c.data.toList) ht W
  rw [decide_eq_false hno] at hne
  obtain ⟨tv, htv⟩ : ∃ l, t.map u8v = l := ⟨_, rfl⟩
  have HTL := hide (show tv.length = 16 from by rw [← htv]; simpa using ht)
  rw [boxV_eq, htv]
  obtain ⟨tg, htg⟩ : ∃ l, ((tagS key nonce c.data.toList).map u8v).toArray = l := ⟨_, rfl⟩
  have HTG := hide (show tg.size = 16 ∧ tg.all (·.oneCell') = true from by rw [← htg]; exact ⟨by simpa using tagS_length _ _ _, bytes_one _⟩)
  rw [htg] at HTg
  rw [htg, htv] at hne
  have HQ := hide (show Blk ((w.alloc (.cells arr 32)).alloc (.cells (boxL nonce c tv) 47)) w.heap.size 32 arr ∧
      Blk ((w.alloc (.cells arr 32)).alloc (.cells (boxL nonce c tv) 47)) (w.heap.size + 1) 47 (boxL nonce c tv) from ⟨(Blk.new w _ _).alloc _, Blk.new' _ _ _ (by simp)⟩)
  have c1 : ((w.alloc (.cells arr 32)).alloc (.cells (boxL nonce c tv) 47)).cell? ⟨w.heap.size + 1, 0, none⟩ = some (.int .i64 nonce) := by rw [(unhide HQ).2.cell]; rfl
  have c2 : ((w.alloc (.cells arr 32)).alloc (.cells (boxL nonce c tv) 47)).cell? ⟨w.heap.size + 1, 1, none⟩ = some (.string c) := by rw [(unhide HQ).2.cell]; rfl
  have HP := hide (((Ext.refl w).alloc (.cells arr 32)).alloc (.cells (boxL nonce c tv) 47))
  clear harr htv htg
  go_enter Tryd.func31, Tryd.ntmps31
  go_upto_region 1 with fail
  generalize (w.alloc (.cells arr 32)).alloc (.cells (boxL nonce c tv) 47) = W0 at *
  go_upto_region 2 with (first
    | (refine wpList_loadB (x := .tmp 2) rfl rfl digest_wide rfl (cs := arr) (unhide HQ).1 hasz ?_)
    | (go_at_call 52; refine (unhide HTg _).mono ?_; rintro e w1 ⟨rfl, hE1⟩; have H1 := hide (And.intro ((unhide HP).trans hE1) (And.intro ((unhide HQ).1.ext hE1) ((unhide HQ).2.ext hE1))); clear hE1)
    | (refine wpList_storeB (ty := 32) (t := 32) (x := .tmp 6) (y := .tmp 12) rfl rfl digest_wide rfl rfl (Blk.new w1 _ _) rfl (unhide HTG).1 (unhide HTG).2 ?_; intro w2 hb2 hc2 hz2; have H2 := hide (And.intro (made_ext (unhide H1).1 hc2) (And.intro ((unhide H1).2.1.ext (made_ext1 hc2)) (And.intro ((unhide H1).2.2.ext (made_ext1 hc2)) hb2))); clear hb2 hc2 hz2))
  clear c1 c2
  have c1 : w2.cell? ⟨w.heap.size + 1, 0, none⟩ = some (.int .i64 nonce) := by rw [(unhide H2).2.2.1.cell]; rfl
  have c2 : w2.cell? ⟨w.heap.size + 1, 1, none⟩ = some (.string c) := by rw [(unhide H2).2.2.1.cell]; rfl
  go_wp2_with (first
    | (refine wpList_loadB (x := .tmp 2) rfl rfl digest_wide rfl (cs := arr) (unhide H2).2.1 hasz ?_)
    | (refine wpList_loadB (x := .tmp 6) rfl rfl digest_wide rfl (cs := tg) (unhide H2).2.2.2 (unhide HTG).1 ?_)
    | (refine wpList_loadMG (x := .tmp 14) (by rfl) rfl digest_wide rfl (boxL_range (unhide H2).2.2.1) (unhide HTL) ?_)
    | (go_at_call 53; refine (unhide HAp _).mono ?_; rintro e w6 ⟨rfl, hE6⟩; have H6 := hide ((unhide H2).1.trans hE6); clear hE6))
  go_ret2
  exact ⟨rfl, (unhide H2).1⟩

set_option maxRecDepth 100000 in
set_option maxHeartbeats 2000000 in
theorem ropen_yes (key : List UInt8) (nonce : Int) (c : ByteArray) (t : List UInt8) (w : World) (hk : key.length = 16) (ht : t.length = 16) (h1 : -9223372036854775808 ≤ nonce) (h2 : nonce < 9223372036854775808) (hs : c.size ≤ 10000)
    (hyes : tagS key nonce c.data.toList = t) :
    Calls Tryd.prog 31 #[.agg (key.map u8v).toArray, .agg (boxV nonce c t)] w fun e w' => e = .returned (.tuple #[.string (strOf (applyS key nonce c.data.toList)), .int .i64 0]) ∧ Ext w w' := by
  obtain ⟨arr, harr⟩ : ∃ r, (key.map u8v).toArray = r := ⟨_, rfl⟩
  have HAp := hide (fun W => rapply_any key nonce c W hk h1 h2 hs)
  have HTg := hide (fun W => rtag_any key nonce c W hk h1 h2 (by omega))
  rw [harr] at HAp HTg ⊢
  have hasz : arr.size = 16 := by rw [← harr]; simpa using hk
  have hne := fun W => ne16 (tagS_length key nonce c.data.toList) ht W
  rw [decide_eq_true hyes] at hne
  obtain ⟨tv, htv⟩ : ∃ l, t.map u8v = l := ⟨_, rfl⟩
  have HTL := hide (show tv.length = 16 from by rw [← htv]; simpa using ht)
  rw [boxV_eq, htv]
  obtain ⟨tg, htg⟩ : ∃ l, ((tagS key nonce c.data.toList).map u8v).toArray = l := ⟨_, rfl⟩
  have HTG := hide (show tg.size = 16 ∧ tg.all (·.oneCell') = true from by rw [← htg]; exact ⟨by simpa using tagS_length _ _ _, bytes_one _⟩)
  rw [htg] at HTg
  rw [htg, htv] at hne
  have HQ := hide (show Blk ((w.alloc (.cells arr 32)).alloc (.cells (boxL nonce c tv) 47)) w.heap.size 32 arr ∧
      Blk ((w.alloc (.cells arr 32)).alloc (.cells (boxL nonce c tv) 47)) (w.heap.size + 1) 47 (boxL nonce c tv) from ⟨(Blk.new w _ _).alloc _, Blk.new' _ _ _ (by simp)⟩)
  have c1 : ((w.alloc (.cells arr 32)).alloc (.cells (boxL nonce c tv) 47)).cell? ⟨w.heap.size + 1, 0, none⟩ = some (.int .i64 nonce) := by rw [(unhide HQ).2.cell]; rfl
  have c2 : ((w.alloc (.cells arr 32)).alloc (.cells (boxL nonce c tv) 47)).cell? ⟨w.heap.size + 1, 1, none⟩ = some (.string c) := by rw [(unhide HQ).2.cell]; rfl
  have HP := hide (((Ext.refl w).alloc (.cells arr 32)).alloc (.cells (boxL nonce c tv) 47))
  clear harr htv htg
  go_enter Tryd.func31, Tryd.ntmps31
  go_upto_region 1 with fail
  generalize (w.alloc (.cells arr 32)).alloc (.cells (boxL nonce c tv) 47) = W0 at *
  go_upto_region 2 with (first
    | (refine wpList_loadB (x := .tmp 2) rfl rfl digest_wide rfl (cs := arr) (unhide HQ).1 hasz ?_)
    | (go_at_call 52; refine (unhide HTg _).mono ?_; rintro e w1 ⟨rfl, hE1⟩; have H1 := hide (And.intro ((unhide HP).trans hE1) (And.intro ((unhide HQ).1.ext hE1) ((unhide HQ).2.ext hE1))); clear hE1)
    | (refine wpList_storeB (ty := 32) (t := 32) (x := .tmp 6) (y := .tmp 12) rfl rfl digest_wide rfl rfl (Blk.new w1 _ _) rfl (unhide HTG).1 (unhide HTG).2 ?_; intro w2 hb2 hc2 hz2; have H2 := hide (And.intro (made_ext (unhide H1).1 hc2) (And.intro ((unhide H1).2.1.ext (made_ext1 hc2)) (And.intro ((unhide H1).2.2.ext (made_ext1 hc2)) hb2))); clear hb2 hc2 hz2))
  clear c1 c2
  have c1 : w2.cell? ⟨w.heap.size + 1, 0, none⟩ = some (.int .i64 nonce) := by rw [(unhide H2).2.2.1.cell]; rfl
  have c2 : w2.cell? ⟨w.heap.size + 1, 1, none⟩ = some (.string c) := by rw [(unhide H2).2.2.1.cell]; rfl
  go_wp2_with (first
    | (refine wpList_loadB (x := .tmp 2) rfl rfl digest_wide rfl (cs := arr) (unhide H2).2.1 hasz ?_)
    | (refine wpList_loadB (x := .tmp 6) rfl rfl digest_wide rfl (cs := tg) (unhide H2).2.2.2 (unhide HTG).1 ?_)
    | (refine wpList_loadMG (x := .tmp 14) (by rfl) rfl digest_wide rfl (boxL_range (unhide H2).2.2.1) (unhide HTL) ?_)
    | (go_at_call 53; refine (unhide HAp _).mono ?_; rintro e w6 ⟨rfl, hE6⟩; have H6 := hide ((unhide H2).1.trans hE6); clear hE6))
  go_ret2
  exact ⟨rfl, unhide H6⟩

theorem eq_in (l : List UInt8) (hl : l.length = 16) (w : World) : (Op.equalIn 9999 32 (.agg (l.map byteV).toArray) (.agg (l.map byteV).toArray)).run Tryd.prog w = .ok true w := by
  obtain ⟨inf, hi⟩ : ∃ inf, Tryd.prog.info? 5 = some inf := ⟨_, rfl⟩
  have h := run_equalIn_array (P := Tryd.prog) w 9998 (l.map byteV).toArray (l.map byteV).toArray Tryd.underlying32 hi
  rw [u8_one, run_eqItems_u8 Tryd.underlying5 u8_plain 9997 l l w _ (fun i hm => by rw [List.mem_range] at hm; omega), all_eq l l 16 hl hl] at h
  simpa using h
theorem box_eql (n : Int) (c : ByteArray) (l : List UInt8) (hl : l.length = 16) : ∀ W, (binOp .eql 47 (.agg (boxL n c (l.map u8v))) (.agg (boxL n c (l.map u8v)))).run Tryd.prog W = .ok (.bool true) W := by
  have hin := fun W => eq_in l hl W
  obtain ⟨t0, t1, t2, t3, t4, t5, t6, t7, t8, t9, t10, t11, t12, t13, t14, t15, rfl⟩ := list16 hl
  intro W
  simp only [boxL, List.map_cons, List.map_nil, u8v]
  simp only [List.map_cons, List.map_nil, byteV] at hin
  go_simp

end Go.Proofs.YtnnecanjkogloaaDoor
