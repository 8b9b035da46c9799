/-
  The law's own functions: next, Fault.
-/
import Derived.Test.YtmlekdmnpljcoaaClo
import Derived.Test.YtmlekdmnpljcoaaFuse
namespace Go.Proofs.Ytmlekdmnpljcoaa
open Go.RowKit

/-- The outcome of a session's program on a log. -/
def nextR (raise : Bool) (target : Int) (bits : Nat) (log : List Res) : EStateM.Result Acc Nat (Nat × Int) :=
  if raise then raiseR 0 bits (target % (bits + 1)) log else levelR 0 bits log

set_option maxHeartbeats 400000 in
theorem next_any (raise : Bool) (target : Int) (fl : Value) (bits : Nat) (lv : Value) (log : List Res) (w : World) (hl : Reads w 2 lv log.length (logCells log)) (ht : 0 ≤ target ∧ target < 256) (hb : bits ≤ 16) :
    Calls Try.prog 28 #[.agg #[.bool raise, .int .u8 target, fl], .int .i64 bits, lv] w fun e w' => e = .returned (ranV (nextR raise target bits log)) ∧ Ext w w' := by
  have HL := hide hl
  obtain ⟨_, B, c, rfl, _, _, _⟩ := hl
  obtain ⟨ht0, ht1⟩ := ht
  have e1 : (0 : Int) < (bits : Int) + 1 := by omega
  have e2 : IntKind.i64.wrap ((bits : Int) + 1) = (bits : Int) + 1 := IntWalk.i64_in _ (by omega)
  have e3 : IntKind.i64.wrap target = target := IntWalk.i64_in _ (by omega)
  go_enter Try.func28, Try.ntmps28
  cases raise with
  | true =>
    go_wp2_with fail
    refine (raise_any 0 bits _ _ log _ ((unhide HL).ext ?_)).mono ?_
    · repeat' (first | (with_reducible exact Chg.refl _ _) | (with_reducible exact Ext.refl _) | (with_reducible assumption) | (with_reducible refine Chg.alloc ?_ _) | (with_reducible refine Chg.drew ?_) | (with_reducible refine Chg.drewN ?_ _) | (with_reducible refine Chg.setCell ?_ ?_ _) | (with_reducible refine Ext.alloc ?_ _) | (with_reducible refine Ext.drew ?_) | (with_reducible refine Ext.drewN ?_ _) | (with_reducible refine Ext.setCell ?_ ?_ _) | (simp; done) | (simp; omega) | omega)
    rintro e w1 ⟨he, hE⟩
    replace he : e = .returned (ranV (nextR true target bits log)) := he
    have hA := ((Blk.new' (w.alloc (.cells #[.bool true, .int .u8 target, fl] 47)) 27 #[.int .i64 0, .int .i64 0, .int .i64 0, .string { data := #[] }] (g := w.heap.size + 1) (by simp)).alloc (.cells #[.int .i64 0, .int .i64 0] 30)).ext hE
    have hO := (Blk.new' ((w.alloc (.cells #[.bool true, .int .u8 target, fl] 47)).alloc (.cells #[.int .i64 0, .int .i64 0, .int .i64 0, .string { data := #[] }] 27)) 30 #[.int .i64 0, .int .i64 0] (g := w.heap.size + 1 + 1) (by simp)).ext hE
    obtain ⟨a0, a1, a2, a3, fA, lA⟩ := hA.cells4
    obtain ⟨o0, o1, fO, lO⟩ := hO.cells2
    have hx := hide (Ext.trans (Chg.alloc (Chg.alloc (Chg.alloc (Ext.refl w) _) _) _) hE)
    have HA := hide hA
    have HO := hide hO
    clear hE hA hO
    obtain ⟨ak, ab, ac, ax, p1, p2, d, hv⟩ := ranV_parts (nextR true target bits log)
    have HV := hide hv
    rw [hv] at he
    subst he
    clear hv
    go_wp2
    refine bodyPost_ret (v := .tuple #[.agg #[.int .i64 ak, .int .i64 ab, .int .i64 ac, .string ax], .agg #[.int .i64 p1, .int .i64 p2], .bool d]) (by simp [results, Try.results28, go_sem, a0, a1, a2, a3, o0, o1]) rfl ⟨by rw [unhide HV], ?_⟩
    have hx1 := unhide hx
    clear hx
    repeat' (first | (with_reducible exact Chg.refl _ _) | (with_reducible exact Ext.refl _) | (with_reducible assumption) | (with_reducible refine Chg.alloc ?_ _) | (with_reducible refine Chg.drew ?_) | (with_reducible refine Chg.drewN ?_ _) | (with_reducible refine Chg.setCell ?_ ?_ _) | (with_reducible refine Ext.alloc ?_ _) | (with_reducible refine Ext.drew ?_) | (with_reducible refine Ext.drewN ?_ _) | (with_reducible refine Ext.setCell ?_ ?_ _) | (simp; done) | (simp; omega) | omega)
  | false =>
    go_wp2_with fail
    refine (level_any 0 bits _ log _ ((unhide HL).ext ?_)).mono ?_
    · repeat' (first | (with_reducible exact Chg.refl _ _) | (with_reducible exact Ext.refl _) | (with_reducible assumption) | (with_reducible refine Chg.alloc ?_ _) | (with_reducible refine Chg.drew ?_) | (with_reducible refine Chg.drewN ?_ _) | (with_reducible refine Chg.setCell ?_ ?_ _) | (with_reducible refine Ext.alloc ?_ _) | (with_reducible refine Ext.drew ?_) | (with_reducible refine Ext.drewN ?_ _) | (with_reducible refine Ext.setCell ?_ ?_ _) | (simp; done) | (simp; omega) | omega)
    rintro e w1 ⟨he, hE⟩
    replace he : e = .returned (ranV (nextR false target bits log)) := he
    have hA := ((Blk.new' (w.alloc (.cells #[.bool false, .int .u8 target, fl] 47)) 27 #[.int .i64 0, .int .i64 0, .int .i64 0, .string { data := #[] }] (g := w.heap.size + 1) (by simp)).alloc (.cells #[.int .i64 0, .int .i64 0] 30)).ext hE
    have hO := (Blk.new' ((w.alloc (.cells #[.bool false, .int .u8 target, fl] 47)).alloc (.cells #[.int .i64 0, .int .i64 0, .int .i64 0, .string { data := #[] }] 27)) 30 #[.int .i64 0, .int .i64 0] (g := w.heap.size + 1 + 1) (by simp)).ext hE
    obtain ⟨a0, a1, a2, a3, fA, lA⟩ := hA.cells4
    obtain ⟨o0, o1, fO, lO⟩ := hO.cells2
    have hx := hide (Ext.trans (Chg.alloc (Chg.alloc (Chg.alloc (Ext.refl w) _) _) _) hE)
    have HA := hide hA
    have HO := hide hO
    clear hE hA hO
    obtain ⟨ak, ab, ac, ax, p1, p2, d, hv⟩ := ranV_parts (nextR false target bits log)
    have HV := hide hv
    rw [hv] at he
    subst he
    clear hv
    go_wp2
    refine bodyPost_ret (v := .tuple #[.agg #[.int .i64 ak, .int .i64 ab, .int .i64 ac, .string ax], .agg #[.int .i64 p1, .int .i64 p2], .bool d]) (by simp [results, Try.results28, go_sem, a0, a1, a2, a3, o0, o1]) rfl ⟨by rw [unhide HV], ?_⟩
    have hx1 := unhide hx
    clear hx
    repeat' (first | (with_reducible exact Chg.refl _ _) | (with_reducible exact Ext.refl _) | (with_reducible assumption) | (with_reducible refine Chg.alloc ?_ _) | (with_reducible refine Chg.drew ?_) | (with_reducible refine Chg.drewN ?_ _) | (with_reducible refine Chg.setCell ?_ ?_ _) | (with_reducible refine Ext.alloc ?_ _) | (with_reducible refine Ext.drew ?_) | (with_reducible refine Ext.drewN ?_ _) | (with_reducible refine Ext.setCell ?_ ?_ _) | (simp; done) | (simp; omega) | omega)

/-- The fault with number i: whether power is cut, whether the read is noisy. -/
def faultAt (l : List Int) (i : Nat) : Bool × Bool := match l[i]? with | some x => (x % 2 == 1, x / 2 % 2 == 1) | none => (false, false)
def faultV (f : Bool × Bool) : Value := .agg #[.bool f.1, .int .i64 0, .bool f.2]
def isU8 (x : Int) : Prop := 0 ≤ x ∧ x < 256

set_option maxHeartbeats 400000 in
theorem fault_any (l : List Int) (fl : Value) (i : Nat) (w : World) (hl : Reads w 1 fl l.length (l.map (Value.int .u8))) (h8 : ∀ x ∈ l, isU8 x) (hi : i ≤ 1000000) :
    Calls Try.prog 29 #[fl, .int .i64 i] w fun e w' => e = .returned (faultV (faultAt l i)) ∧ Ext w w' := by
  by_cases hlt : i < l.length
  · obtain ⟨b, o, c, u, rfl, _, _, hb, hu, hc⟩ := hl.at1 hlt
    have hm := hl.len_le
    rw [List.getElem?_map, List.getElem?_eq_getElem hlt] at hu
    cases hu
    obtain ⟨g0, g1⟩ := h8 _ (List.getElem_mem hlt)
    have HF := hide (show faultAt l i = _ from by unfold faultAt; rw [List.getElem?_eq_getElem hlt])
    generalize l[i] = x at *
    have hlt' : (i : Int) < (l.length : Int) := by omega
    have hi0 : (0 : Int) ≤ (i : Int) := by omega
    clear hl
    go_enter Try.func29, Try.ntmps29
    go_wp2
    go_region
    all_goals
      go_wp2
      refine bodyPost_ret (v := .agg #[.bool (x % 2 == 1), .int .i64 0, .bool (x / 2 % 2 == 1)]) (by simp [results, Try.results29, go_sem]) rfl ⟨by rw [unhide HF]; rfl, ?_⟩
      repeat' (first | (with_reducible exact Chg.refl _ _) | (with_reducible exact Ext.refl _) | (with_reducible assumption) | (with_reducible refine Chg.alloc ?_ _) | (with_reducible refine Chg.drew ?_) | (with_reducible refine Chg.drewN ?_ _) | (with_reducible refine Chg.setCell ?_ ?_ _) | (with_reducible refine Ext.alloc ?_ _) | (with_reducible refine Ext.drew ?_) | (with_reducible refine Ext.drewN ?_ _) | (with_reducible refine Ext.setCell ?_ ?_ _) | (simp; done) | (simp; omega) | omega)
  · have HF := hide (show faultAt l i = (false, false) from by unfold faultAt; rw [List.getElem?_eq_none (by omega)])
    have hm := hl.len_le
    obtain ⟨_, B, c, rfl, _, _, _⟩ := hl
    have hle : (l.length : Int) ≤ (i : Int) := by omega
    go_enter Try.func29, Try.ntmps29
    go_wp2
    refine bodyPost_ret (v := .agg #[.bool false, .int .i64 0, .bool false]) (by simp [results, Try.results29, go_sem]) rfl ⟨by rw [unhide HF]; rfl, ?_⟩
    repeat' (first | (with_reducible exact Chg.refl _ _) | (with_reducible exact Ext.refl _) | (with_reducible assumption) | (with_reducible refine Chg.alloc ?_ _) | (with_reducible refine Chg.drew ?_) | (with_reducible refine Chg.drewN ?_ _) | (with_reducible refine Chg.setCell ?_ ?_ _) | (with_reducible refine Ext.alloc ?_ _) | (with_reducible refine Ext.drew ?_) | (with_reducible refine Ext.drewN ?_ _) | (with_reducible refine Ext.setCell ?_ ?_ _) | (simp; done) | (simp; omega) | omega)

end Go.Proofs.Ytmlekdmnpljcoaa
