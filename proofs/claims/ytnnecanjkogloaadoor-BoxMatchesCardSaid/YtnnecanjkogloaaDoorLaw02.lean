/-
  The laws' sanity, Short, and how digests are compared.
-/
import Derived.Test.YtnnecanjkogloaaDoorShaL
import Derived.Test.YtnnecanjkogloaaDoorEqB
namespace Go.Proofs.YtnnecanjkogloaaDoor
open Go.RowKit

theorem u8_plain : Tryd.prog.plainKey 5 = true := by kernel_rfl
theorem u8_one : Tryd.prog.cellsOf 5 = 1 := by kernel_rfl
theorem eq32 {a b : List UInt8} (ha : a.length = 32) (hb : b.length = 32) (w : World) : (binOp .eql 27 (.agg (a.map u8v).toArray) (.agg (b.map u8v).toArray)).run Tryd.prog w = .ok (.bool (decide (a = b))) w :=
  run_eql_bytes (inf := _) Tryd.underlying27 Tryd.underlying5 u8_plain rfl u8_one ha hb w
theorem eq16 {a b : List UInt8} (ha : a.length = 16) (hb : b.length = 16) (w : World) : (binOp .eql 32 (.agg (a.map u8v).toArray) (.agg (b.map u8v).toArray)).run Tryd.prog w = .ok (.bool (decide (a = b))) w :=
  run_eql_bytes (inf := _) Tryd.underlying32 Tryd.underlying5 u8_plain rfl u8_one ha hb w
theorem ne16 {a b : List UInt8} (ha : a.length = 16) (hb : b.length = 16) (w : World) : (binOp .neq 32 (.agg (a.map u8v).toArray) (.agg (b.map u8v).toArray)).run Tryd.prog w = .ok (.bool (!decide (a = b))) w :=
  run_neq_bytes (inf := _) Tryd.underlying32 Tryd.underlying5 u8_plain rfl u8_one ha hb w

theorem take4 {l : List UInt8} {a b c d : UInt8} (h : l.take 4 = [a, b, c, d]) : ((l.map u8v).toArray)[0]? = some (u8v a) ∧ ((l.map u8v).toArray)[1]? = some (u8v b) ∧ ((l.map u8v).toArray)[2]? = some (u8v c) ∧ ((l.map u8v).toArray)[3]? = some (u8v d) := by
  have e : ∀ i, i < 4 → l[i]? = [a, b, c, d][i]? := fun i hi => by rw [← h, List.getElem?_take, if_pos hi]
  have e0 := e 0 (by omega)
  have e1 := e 1 (by omega)
  have e2 := e 2 (by omega)
  have e3 := e 3 (by omega)
  simp only [List.getElem?_toArray, List.getElem?_map, e0, e1, e2, e3]
  exact ⟨rfl, rfl, rfl, rfl⟩
set_option maxRecDepth 100000 in
set_option maxHeartbeats 2000000 in
theorem sanity_any (w : World) (hM : ShaMem w) : Calls Tryd.prog 14 #[] w fun e w' => e = .returned (.bool true) ∧ Ext w w' := by
  have HM := hide hM
  clear hM
  obtain ⟨r0, hr0⟩ : ∃ r, ((sha []).map u8v).toArray = r := ⟨_, rfl⟩
  obtain ⟨r1, hr1⟩ : ∃ r, ((sha [97, 98, 99]).map u8v).toArray = r := ⟨_, rfl⟩
  have H0 := hide hr0
  have H1 := hide hr1
  have HV := hide (show (r0[0]? = some (.int .u8 227) ∧ r0[1]? = some (.int .u8 176) ∧ r0[2]? = some (.int .u8 196) ∧ r0[3]? = some (.int .u8 66)) ∧ (r1[0]? = some (.int .u8 186) ∧ r1[1]? = some (.int .u8 120) ∧ r1[2]? = some (.int .u8 22) ∧ r1[3]? = some (.int .u8 191)) from by rw [← hr0, ← hr1]; exact ⟨take4 sha_nil, take4 sha_abc⟩)
  have HS := hide (show (r0.size = 32 ∧ r0.all (·.oneCell') = true) ∧ r1.size = 32 ∧ r1.all (·.oneCell') = true from by rw [← hr0, ← hr1]; exact ⟨⟨by simpa using sha_length _, bytes_one _⟩, by simpa using sha_length _, bytes_one _⟩)
  clear hr0 hr1
  have kc := fun (w : World) (C : Array Value) (n c : Nat) => Lib.run_convert_bytes_const (P := Tryd.prog) w 22 5 C n c Tryd.underlying22 Tryd.underlying5
  go_enter Tryd.func14, Tryd.ntmps14
  go_wp2_with fail
  refine (sum_any [] _ _ (unhide HM) (Reads.nil w 1) (by simp)).mono ?_
  rintro e w1 ⟨rfl, hE1⟩
  rw [unhide H0]
  have HE1 := hide hE1
  clear hE1
  go_wp2_with (first
    | (refine wpList_storeB (ty := 27) (t := 27) (x := .tmp 1) (y := .tmp 3) rfl rfl arr32_wide rfl rfl (Blk.new w1 _ _) rfl (unhide HS).1.1 (unhide HS).1.2 ?_; intro w2 hb2 hc2 hz2; have H2 := hide (And.intro hb2 (And.intro hc2 hz2)); clear hb2 hc2 hz2)
    | (go_at_call 18; refine (sum_any [97, 98, 99] _ _ ((unhide HM).ext ((unhide HE1).trans (((Ext.refl w1).alloc _).trans' (unhide H2).2.1 (fun _ _ h => h) (fun i hi e => by omega)) |>.alloc _)) (Reads.newM _ _ _ _ 3 3 _ rfl rfl (Nat.le_refl _) (by unfold maxLen; omega) rfl) (by simp)).mono ?_; rintro e w3 ⟨rfl, hE3⟩; rw [unhide H1]; have H3 := hide hE3; clear hE3)
    | (refine wpList_storeB (ty := 27) (t := 27) (x := .tmp 2) (y := .tmp 6) rfl rfl arr32_wide rfl rfl (Blk.new _ _ _) rfl (unhide HS).2.1 (unhide HS).2.2 ?_; intro w4 hb4 hc4 hz4
       have hs3 : w1.heap.size < w3.heap.size := by have := (unhide H3).size'; have := (unhide H2).2.2; simp at *; omega
       have hB1 : Blk w4 w1.heap.size 27 r0 := ((((unhide H2).1.alloc _).ext (unhide H3)).alloc _).chg hc4 (by omega)
       have a0 := (hB1.cell 0).trans (unhide HV).1.1
       have a1 := (hB1.cell 1).trans (unhide HV).1.2.1
       have a2 := (hB1.cell 2).trans (unhide HV).1.2.2.1
       have a3 := (hB1.cell 3).trans (unhide HV).1.2.2.2
       have b0 := (hb4.cell 0).trans (unhide HV).2.1
       have b1 := (hb4.cell 1).trans (unhide HV).2.2.1
       have b2 := (hb4.cell 2).trans (unhide HV).2.2.2.1
       have b3 := (hb4.cell 3).trans (unhide HV).2.2.2.2
       have H4 := hide (show Ext w w4 from (((((unhide HE1).trans (((Ext.refl w1).alloc _).trans' (unhide H2).2.1 (fun _ _ h => h) (fun i hi e => by omega))).alloc _).trans (unhide H3)).alloc _).trans' hc4 (fun _ _ h => h) (fun i hi e => by have := (unhide HE1).size'; omega))
       clear hb4 hc4 hz4 hB1 hs3)
    | (go_at_call 15; refine (stream_pos [] _ 40 _ ((unhide HM).ext (unhide H4)) (Reads.nil _ 1) (by simp) (by omega)).mono ?_; rintro e w5 ⟨A5, c5, rfl, ho5, hE5⟩; have H5 := hide hE5; clear ho5 hE5))
  go_ret
  exact ⟨rfl, (unhide H4).trans (unhide H5)⟩

end Go.Proofs.YtnnecanjkogloaaDoor
