
/-
  The sanity of the laws of boxes.
-/
import Derived.Test.YtoefmncdloffaaaDoorBoxD
import Derived.Test.YtoefmncdloffaaaDoorBoxE
namespace Go.Proofs.YtoefmncdloffaaaDoor
open Go.RowKit

theorem xor_back (a x : UInt8) : (a ^^^ x) ^^^ x = a := by rw [UInt8.xor_assoc, UInt8.xor_self, UInt8.xor_zero]
theorem zip_back (s x : List UInt8) (h : s.length ≤ x.length) : List.zipWith (· ^^^ ·) (List.zipWith (· ^^^ ·) s x) x = s := by
  induction s generalizing x with
  | nil => simp
  | cons a s ih =>
    cases x with
    | nil => simp at h
    | cons b x =>
      simp only [List.zipWith_cons_cons]
      rw [xor_back, ih x (by simpa using h)]
theorem apply_back (key : List UInt8) (nonce : Int) (s : List UInt8) : applyS key nonce (applyS key nonce s) = s := by
  have hl := applyS_length key nonce s
  unfold applyS at hl ⊢
  rw [hl]
  exact zip_back _ _ (by rw [streamS_length]; simp)

def boxL (n : Int) (c : ByteArray) (l : List Value) : Array Value := (Value.int .i64 n :: Value.string c :: l).toArray
theorem boxV_eq (n : Int) (c : ByteArray) (t : List UInt8) : boxV n c t = boxL n c (t.map u8v) := rfl
theorem boxL_size {n : Int} {c : ByteArray} {l : List Value} (h : l.length = 16) : (boxL n c l).size = 18 := by unfold boxL; simp [h]
theorem boxL_one {n : Int} {c : ByteArray} {t : List UInt8} : (boxL n c (t.map u8v)).all (·.oneCell') = true := by
  unfold boxL
  rw [← Array.all_toList]
  simp [u8v]
  exact ⟨rfl, rfl, fun _ _ => rfl⟩

theorem boxL_set (n : Int) (c : ByteArray) (u v : Value) (r : List Value) : (boxL n c (u :: r)).setIfInBounds 2 v = boxL n c (v :: r) := by simp [boxL]
theorem boxL_range {w : World} {g : Nat} {t : TypeId} {n : Int} {c : ByteArray} {l : List Value} (h : Blk w g t (boxL n c l)) : w.rangeAt g 2 l := range_from (pre := [Value.int .i64 n, Value.string c]) h
def secretB : ByteArray := { data := #[115, 101, 99, 114, 101, 116] }
def emptyB : ByteArray := { data := #[] }
theorem seal7 (s : ByteArray) (w : World) (hM : ShaMem w) (hs : s.size ≤ 1000) : Calls Tryd.prog 13 #[.agg (kk7.map u8v).toArray, .int .i64 3, .string s] w fun e w' =>
    e = .returned (.agg (boxL 3 (strOf (applyS kk7 3 s.data.toList)) ((tagS kk7 3 (applyS kk7 3 s.data.toList)).map u8v))) ∧ Ext w w' := seal_any kk7 3 s w hM rfl (by omega) (by omega) (by omega)

set_option maxRecDepth 100000 in
set_option maxHeartbeats 1000000 in
theorem sanity6_any (w : World) (hM : ShaMem w) : Calls Tryd.prog 12 #[] w fun e w' => e = .returned (.bool true) ∧ Ext w w' := by
  have HM := hide hM
  clear hM
  have hfacts := box_facts
  simp only [Bool.and_eq_true, bne_iff_ne, ne_eq] at hfacts
  obtain ⟨hb1, hb2, hb3⟩ := hfacts
  obtain ⟨cs, hcs⟩ : ∃ c, strOf cc7 = c := ⟨_, rfl⟩
  have hcl : cs.data.toList = cc7 := by rw [← hcs]; exact strOf_list _
  have hcz : cs.size = 6 := by rw [← hcs, strOf_size, cc7, applyS_length]; rfl
  have hcn : ¬ cs = secretB := fun e => hb1 (by rw [← hcl, e]; rfl)
  obtain ⟨t0, tr, ht⟩ : ∃ a l, tt7 = a :: l := by
    have := tagS_length kk7 3 cc7
    cases h : tt7 with
    | nil => rw [← tt7, h] at this; cases this
    | cons a l => exact ⟨a, l, rfl⟩
  have htl : (t0 :: tr).length = 16 := by rw [← ht]; exact tagS_length _ _ _
  have HSeal := hide (fun W hW => seal7 secretB W hW (by decide))
  rw [show applyS kk7 3 secretB.data.toList = cc7 from rfl, hcs, ← tt7, ht] at HSeal
  have HSealE := hide (fun W hW => seal7 emptyB W hW (by decide))
  obtain ⟨te, hte⟩ : ∃ l, tagS kk7 3 [] = l := ⟨_, rfl⟩
  have hae : applyS kk7 3 emptyB.data.toList = [] := List.length_eq_zero_iff.1 (applyS_length _ _ _)
  rw [hae, hte] at HSealE
  have htel : te.length = 16 := by rw [← hte]; exact tagS_length _ _ _
  rw [hte] at hb3
  have HOpen := hide (fun W hW => open_yes kk7 3 cs (t0 :: tr) W hW rfl htl (by omega) (by omega) (by omega) (by rw [hcl, ← ht]; rfl))
  rw [hcl, show applyS kk7 3 cc7 = secretS from apply_back _ _ _, show strOf secretS = { data := #[115, 101, 99, 114, 101, 116] } from rfl] at HOpen
  have HBad := hide (fun W hW => open_no kk7 3 cs ((t0 ^^^ 1) :: tr) W hW rfl (by simpa using htl) (by omega) (by omega) (by omega) (by
    rw [hcl]
    show ¬ tt7 = _
    rw [ht]
    intro e
    injection e with e1
    have : (t0 ^^^ 1) ^^^ 1 = t0 := xor_back t0 1
    have h2 : t0 ^^^ t0 = t0 ^^^ (t0 ^^^ 1) := by rw [← e1]
    rw [UInt8.xor_self, ← UInt8.xor_assoc, UInt8.xor_self] at h2
    cases h2))
  have HNo := hide (fun W hW => open_no kk8 3 cs (t0 :: tr) W hW rfl htl (by omega) (by omega) (by omega) (by rw [hcl, ← ht]; exact hb2))
  have hne : ∀ W, (binOp .neq 23 (.agg (te.map u8v).toArray) (.agg ((t0 :: tr).map u8v).toArray)).run Tryd.prog W = .ok (.bool true) W := fun W => by
    rw [ne16 htel htl]
    rw [ht] at hb3
    rw [decide_eq_false hb3]
    rfl
  have hxx : bits BinOp.xor IntKind.u8 (t0.toNat : Int) 1 = ((t0 ^^^ 1).toNat : Int) := xor8 t0 1
  obtain ⟨t1, ht1⟩ : ∃ x, t0 ^^^ 1 = x := ⟨_, rfl⟩
  rw [ht1] at hxx HBad
  clear ht1
  obtain ⟨k7, hk7⟩ : ∃ r, (kk7.map u8v).toArray = r := ⟨_, rfl⟩
  obtain ⟨k8, hk8⟩ : ∃ r, (kk8.map u8v).toArray = r := ⟨_, rfl⟩
  obtain ⟨tv, htv⟩ : ∃ r, (t0 :: tr).map u8v = r := ⟨_, rfl⟩
  obtain ⟨tb, htb⟩ : ∃ r, (t1 :: tr).map u8v = r := ⟨_, rfl⟩
  obtain ⟨tev, htev⟩ : ∃ r, te.map u8v = r := ⟨_, rfl⟩
  have HK7 := hide (show k7 = #[.int .u8 7, .int .u8 0, .int .u8 0, .int .u8 0, .int .u8 0, .int .u8 0, .int .u8 0, .int .u8 0, .int .u8 0, .int .u8 0, .int .u8 0, .int .u8 0, .int .u8 0, .int .u8 0, .int .u8 0, .int .u8 0] ∧ k7.size = 16 ∧ k7.all (·.oneCell') = true from by rw [← hk7]; exact ⟨rfl, rfl, bytes_one _⟩)
  have HK8 := hide (show k8 = #[.int .u8 8, .int .u8 0, .int .u8 0, .int .u8 0, .int .u8 0, .int .u8 0, .int .u8 0, .int .u8 0, .int .u8 0, .int .u8 0, .int .u8 0, .int .u8 0, .int .u8 0, .int .u8 0, .int .u8 0, .int .u8 0] from by rw [← hk8]; rfl)
  have HTV := hide (show tv = u8v t0 :: tr.map u8v ∧ tb = u8v t1 :: tr.map u8v ∧ tv.length = 16 ∧ tb.length = 16 ∧ tev.length = 16 from by
    rw [← htv, ← htb, ← htev]
    exact ⟨rfl, rfl, by simpa using htl, by simpa using htl, by simpa using htel⟩)
  have HB1 := hide (show (boxL 3 cs tv).all (·.oneCell') = true ∧ (boxL 3 emptyB tev).all (·.oneCell') = true from by rw [← htv, ← htev]; exact ⟨boxL_one, boxL_one⟩)
  rw [hk7, htv] at HSeal
  rw [hk7, htev, show strOf [] = emptyB from rfl] at HSealE
  rw [hk7, boxV_eq, htv] at HOpen
  rw [hk7, boxV_eq, htb] at HBad
  rw [hk8, boxV_eq, htv] at HNo
  rw [htev, htv] at hne
  have hcn4 : ¬ cs.toList = [115, 101, 99, 114, 101, 116] := by rw [ByteArray.toList_eq, hcl]; exact hb1
  have hcn5 : (cs.toList == [115, 101, 99, 114, 101, 116]) = false := by simpa using hcn4
  clear hb1 hb2 hb3 hcs hcl hcn ht htl hte hae htel hk7 hk8 htv htb htev
  go_enter Tryd.func12, Tryd.ntmps12
  go_upto_region 3 with (first
    | (refine wpList_storeB (ty := 23) (t := 23) (x := .tmp 1) (y := .tmp 11) (cs := k7) rfl rfl digest_wide rfl (by rw [(unhide HK7).1]; rfl) (Blk.new w _ _) rfl (unhide HK7).2.1 (unhide HK7).2.2 ?_; intro w1 hb1 hc1 hz1; have H1 := hide (And.intro (made_ext (Ext.refl w) hc1) hb1); clear hb1 hc1 hz1)
    | (refine wpList_loadB (x := .tmp 1) rfl rfl digest_wide rfl (cs := k7) (unhide H1).2 (unhide HK7).2.1 ?_)
    | (go_at_call 13; refine (unhide HSeal _ ((unhide HM).ext (unhide H1).1)).mono ?_; rintro e w2 ⟨rfl, hE2⟩; have H2 := hide (And.intro ((unhide H1).1.trans hE2) ((unhide H1).2.ext hE2)); clear hE2)
    | (refine wpList_storeB (ty := 27) (t := 27) (x := .tmp 2) (y := .tmp 13) (cs := boxL 3 cs tv) rfl rfl box_wide rfl rfl (Blk.new w2 _ _) rfl (boxL_size (unhide HTV).2.2.1) (unhide HB1).1 ?_; intro w3 hb3 hc3 hz3; have H3 := hide (And.intro (made_ext (unhide H2).1 hc3) (And.intro ((unhide H2).2.ext (made_ext1 hc3)) hb3)); clear hb3 hc3 hz3))
  have HL1 := hide (unhide H2).2.lt
  clear H1 H2 HSeal
  go_upto_region 5 with (first
    | (refine wpList_loadB (x := .tmp 1) rfl rfl digest_wide rfl (cs := k7) (unhide H3).2.1 (unhide HK7).2.1 ?_)
    | (refine wpList_loadB (x := .tmp 2) rfl rfl box_wide rfl (cs := boxL 3 cs tv) (unhide H4).2.2 (boxL_size (unhide HTV).2.2.1) ?_)
    | (refine wpList_loadB (x := .tmp 2) rfl rfl box_wide rfl (cs := boxL 3 cs tv) (unhide H3).2.2 (boxL_size (unhide HTV).2.2.1) ?_)
    | (go_at_call 14; refine (unhide HOpen _ ((unhide HM).ext (unhide H3).1)).mono ?_; rintro e w4 ⟨rfl, hE4⟩; have H4 := hide (And.intro ((unhide H3).1.trans hE4) (And.intro ((unhide H3).2.1.ext hE4) ((unhide H3).2.2.ext hE4))); clear hE4)
    | (refine wpList_storeB (ty := 27) (t := 27) (x := .tmp 5) (y := .tmp 20) (cs := boxL 3 cs tv) rfl rfl box_wide rfl rfl (Blk.new w4 _ _) rfl (boxL_size (unhide HTV).2.2.1) (unhide HB1).1 ?_; intro w5 hb5 hc5 hz5; have H5 := hide (And.intro (made_ext (unhide H4).1 hc5) (And.intro ((unhide H4).2.1.ext (made_ext1 hc5)) (And.intro ((unhide H4).2.2.ext (made_ext1 hc5)) hb5))); clear hb5 hc5 hz5))
  have HLT := hide (show w.heap.size < w2.heap.size ∧ w2.heap.size < w4.heap.size from ⟨unhide HL1, (unhide H4).2.2.lt⟩)
  have TK := hide True.intro
  clear H3 H4 HOpen
  have c5 : w5.cell? ⟨w4.heap.size, 2, none⟩ = some (.int .u8 (t0.toNat : Int)) := by rw [(unhide H5).2.2.2.cell, (unhide HTV).1]; rfl
  have f5 := (unhide H5).2.2.2.frozen 2
  go_upto_region 6 with fail
  clear c5 f5 hxx
  have H6 := hide (show Ext w (w5.setCell ⟨w4.heap.size, 2, none⟩ (.int .u8 (t1.toNat : Int))) ∧ Blk (w5.setCell ⟨w4.heap.size, 2, none⟩ (.int .u8 (t1.toNat : Int))) w.heap.size 23 k7 ∧ Blk (w5.setCell ⟨w4.heap.size, 2, none⟩ (.int .u8 (t1.toNat : Int))) w2.heap.size 27 (boxL 3 cs tv) ∧ Blk (w5.setCell ⟨w4.heap.size, 2, none⟩ (.int .u8 (t1.toNat : Int))) w4.heap.size 27 (boxL 3 cs tb) ∧ w.heap.size < w2.heap.size ∧ w2.heap.size < w4.heap.size from by
    obtain ⟨q1, q2, q3, q4⟩ := unhide H5
    obtain ⟨l1, l2⟩ := unhide HLT
    refine ⟨q1.setCell (by simp; omega) _, q2.far' (by omega) _ _, q3.far' (by omega) _ _, ?_, l1, l2⟩
    have := q4.set_ 2 (.int .u8 (t1.toNat : Int))
    rw [(unhide HTV).1, boxL_set] at this
    rw [(unhide HTV).2.1]
    exact this)
  clear H5
  generalize w5.setCell ⟨w4.heap.size, 2, none⟩ (.int .u8 (t1.toNat : Int)) = w6 at *
  go_upto_region 8 with (first
    | (refine wpList_loadB (x := .tmp 1) rfl rfl digest_wide rfl (cs := k7) (unhide H6).2.1 (unhide HK7).2.1 ?_)
    | (refine wpList_loadB (x := .tmp 5) rfl rfl box_wide rfl (cs := boxL 3 cs tb) (unhide H6).2.2.2.1 (boxL_size (unhide HTV).2.2.2.1) ?_)
    | (refine wpList_loadB (x := .tmp 2) rfl rfl box_wide rfl (cs := boxL 3 cs tv) (unhide H7).2.2.1 (boxL_size (unhide HTV).2.2.1) ?_)
    | (have TT := unhide TK; clear TK; go_at_call 14; clear TT; refine (unhide HBad _ ((unhide HM).ext (unhide H6).1)).mono ?_; rintro e w7 ⟨rfl, hE7⟩; have H7 := hide (And.intro ((unhide H6).1.trans hE7) (And.intro ((unhide H6).2.1.ext hE7) (And.intro ((unhide H6).2.2.1.ext hE7) (unhide H6).2.2.2.2))); clear hE7)
    | (go_at_call 14; rw [← unhide HK8]; refine (unhide HNo _ ((unhide HM).ext (unhide H7).1)).mono ?_; rintro e w8 ⟨rfl, hE8⟩; have H8 := hide (And.intro ((unhide H7).1.trans hE8) (And.intro ((unhide H7).2.1.ext hE8) (And.intro ((unhide H7).2.2.1.ext hE8) (unhide H7).2.2.2))); clear hE8))
  clear H6 H7 HBad HNo HK8
  go_upto_region 9 with (first
    | (refine wpList_loadB (x := .tmp 1) rfl rfl digest_wide rfl (cs := k7) (unhide H8).2.1 (unhide HK7).2.1 ?_)
    | (go_at_call 13; refine (unhide HSealE _ ((unhide HM).ext (unhide H8).1)).mono ?_; rintro e w9 ⟨rfl, hE9⟩; have H9 := hide (And.intro ((unhide H8).1.trans hE9) ((unhide H8).2.2.1.ext hE9)); clear hE9)
    | (refine wpList_storeB (ty := 27) (t := 27) (x := .tmp 10) (y := .tmp 40) (cs := boxL 3 emptyB tev) rfl rfl box_wide rfl rfl (Blk.new w9 _ _) rfl (boxL_size (unhide HTV).2.2.2.2) (unhide HB1).2 ?_; intro w10 hb10 hc10 hz10; have H10 := hide (And.intro (made_ext (unhide H9).1 hc10) (And.intro ((unhide H9).2.ext (made_ext1 hc10)) hb10)); clear hb10 hc10 hz10))
  clear H8 H9
  have d0 : w10.cell? ⟨w2.heap.size, 0, none⟩ = some (.int .i64 3) := by rw [(unhide H10).2.1.cell]; rfl
  have d1 : w10.cell? ⟨w2.heap.size, 1, none⟩ = some (.string cs) := by rw [(unhide H10).2.1.cell]; rfl
  have d2 : w10.cell? ⟨w9.heap.size, 1, none⟩ = some (.string emptyB) := by rw [(unhide H10).2.2.cell]; rfl
  have hcz6 : (cs.size : Int) = 6 := by omega
  unfold emptyB at d2
  go_wp2_with (first
    | (refine wpList_loadMG (x := .tmp 77) (g := w9.heap.size) (off := 2) ?_ rfl digest_wide ?_ (boxL_range (unhide H10).2.2) (unhide HTV).2.2.2.2 ?_; (focus (first | rfl | (go_simp; done) | simp [Region.wanted, yielded, hcn4])); (focus rfl))
    | (refine wpList_loadMG (x := .tmp 79) (g := w2.heap.size) (off := 2) ?_ rfl digest_wide ?_ (boxL_range (unhide H10).2.1) (unhide HTV).2.2.1 ?_; (focus (first | rfl | (go_simp; done) | simp [Region.wanted, yielded, hcn4])); (focus rfl)))
  go_ret
  exact ⟨rfl, (unhide H10).1⟩

end Go.Proofs.YtoefmncdloffaaaDoor
