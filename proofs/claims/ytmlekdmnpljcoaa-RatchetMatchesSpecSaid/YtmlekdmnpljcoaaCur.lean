/-
  bootchainref08.Cur, reading from a log: Do, Fuse, Pulse; and how a function that uses it carries out a step program.
-/
import Derived.Test.YtmlekdmnpljcoaaPlay
namespace Go.Proofs.Ytmlekdmnpljcoaa
open Go.RowKit

/-- The state of a Cur that reads from a log. -/
structure CurSt where
  i : Nat
  ask : Acc
  stop : Bool
def zeroAcc : Acc := ⟨0, 0, 0, noBytes⟩
def curCells (lv : Value) (s : CurSt) : Array Value :=
  #[lv, .int .i64 (s.i : Int), .int .i64 s.ask.kind, .int .i64 s.ask.bank, .int .i64 s.ask.cell, .string s.ask.bytes, .bool s.stop, .bool false, .slice none 0 0, .slice none 0 0,
    .int .u8 0, .int .u8 0, .int .u8 0, .int .u8 0, .int .u8 0, .int .u8 0, .int .u8 0, .int .u8 0, .int .u8 0, .int .u8 0, .int .u8 0, .int .u8 0, .int .u8 0, .int .u8 0, .int .u8 0, .int .u8 0, .slice none 0 0, .bool false]
structure CurInv (c : Nat) (lv : Value) (log : List Res) (s : CurSt) (w : World) : Prop where
  blk : Blk w c 68 (curCells lv s)
  reads : Reads w 2 lv log.length (logCells log)
  own : 0 < log.length → lv.ownBlock ≠ some c
  le : s.i ≤ log.length

theorem CurInv.ext {c : Nat} {lv : Value} {log : List Res} {s : CurSt} {w w' : World} (h : CurInv c lv log s w) (hc : Ext w w') : CurInv c lv log s w' := ⟨h.blk.ext hc, h.reads.ext hc, h.own, h.le⟩
theorem CurInv.chg {c : Nat} {lv : Value} {log : List Res} {s s' : CurSt} {w w' : World} (h : CurInv c lv log s w) (hc : Chg (fun k => k = c) w w') (hb : Blk w' c 68 (curCells lv s')) (hi : s'.i ≤ log.length) : CurInv c lv log s' w' :=
  ⟨hb, h.reads.chg hc (fun k hn hk e => h.own hn (e ▸ hk)), h.own, hi⟩

/-- One access. -/
def curStep (log : List Res) (a : Acc) (s : CurSt) : Res × CurSt :=
  if s.stop then (⟨0, noBytes⟩, s) else match log[s.i]? with
    | some r => (r, { s with i := s.i + 1 })
    | none => (⟨0, noBytes⟩, { s with stop := true, ask := a })

set_option maxRecDepth 100000 in
set_option maxHeartbeats 1000000 in
theorem cur_do (c : Nat) (lv : Value) (log : List Res) (a : Acc) (s : CurSt) (w : World) (h : CurInv c lv log s w) :
    Calls Try.prog 49 #[.pointer (some ⟨c, 0, none⟩), a.v] w fun e w' => e = .returned (curStep log a s).1.v ∧ CurInv c lv log (curStep log a s).2 w' ∧ Chg (fun k => k = c) w w' := by
  have c0 := h.blk.cell 0
  have c1 := h.blk.cell 1
  have c2 := h.blk.cell 2
  have c3 := h.blk.cell 3
  have c4 := h.blk.cell 4
  have c5 := h.blk.cell 5
  have c6 := h.blk.cell 6
  have c7 := h.blk.cell 7
  simp only [curCells, List.getElem?_toArray, List.getElem?_cons_zero, List.getElem?_cons_succ] at c0 c1 c2 c3 c4 c5 c6 c7
  have f0 := h.blk.frozen
  have lc := h.blk.lt
  have hmx := h.reads.len_le
  unfold maxLen at hmx
  have HH := hide h
  obtain ⟨i, sk, stop⟩ := s
  obtain ⟨ak, ab, ac, ax⟩ := a
  obtain ⟨_, B, cp, rfl, hnc, hcm, _⟩ := h.reads
  clear h hnc hcm
  simp only [Acc.v] at *
  cases stop with
  | true =>
    go_enter Try.func49, Try.ntmps49
    go_wp2
    refine bodyPost_ret (v := .agg #[.int .i64 0, .string { data := #[] }]) (by simp [results, Try.results49, go_sem]) rfl ⟨rfl, (unhide HH).ext ?_, ?_⟩
    · repeat' (first | (with_reducible exact Chg.refl _ _) | (with_reducible exact Ext.refl _) | (with_reducible assumption) | (with_reducible refine Chg.alloc ?_ _) | (with_reducible refine Chg.drew ?_) | (with_reducible refine Chg.drewN ?_ _) | (with_reducible refine Chg.setCell ?_ ?_ _) | (with_reducible refine Ext.alloc ?_ _) | (with_reducible refine Ext.drew ?_) | (with_reducible refine Ext.drewN ?_ _) | (with_reducible refine Ext.setCell ?_ ?_ _) | (simp; done) | (simp; omega) | omega)
    · repeat' (first | (with_reducible exact Chg.refl _ _) | (with_reducible exact Ext.refl _) | (with_reducible assumption) | (with_reducible refine Chg.alloc ?_ _) | (with_reducible refine Chg.drew ?_) | (with_reducible refine Chg.drewN ?_ _) | (with_reducible refine Chg.setCell ?_ ?_ _) | (with_reducible refine Ext.alloc ?_ _) | (with_reducible refine Ext.drew ?_) | (with_reducible refine Ext.drewN ?_ _) | (with_reducible refine Ext.setCell ?_ ?_ _) | (simp; done) | (simp; omega) | omega)
  | false =>
    by_cases hlt : i < log.length
    · obtain ⟨b, o, c', u1, u2, hv, _, _, hb, hu1, hu2, hc1, hc2⟩ := (unhide HH).reads.at2 hlt
      cases hv
      have hbc : ¬ b = c := fun e => (unhide HH).own (by omega) (by rw [e]; rfl)
      rw [(logCells_get log i).1, List.getElem?_eq_getElem hlt] at hu1
      rw [(logCells_get log i).2, List.getElem?_eq_getElem hlt] at hu2
      cases hu1
      cases hu2
      have R : Hid (log[i]? = some log[i]) := hide (List.getElem?_eq_getElem hlt)
      generalize log[i] = r at *
      have hli : ¬ log.length ≤ i := by omega
      have hi0 : (0 : Int) ≤ (i : Int) := by omega
      have hi1 : (i : Int) < (log.length : Int) := by omega
      go_enter Try.func49, Try.ntmps49
      go_wp2
      go_quiet (fail)
      go_wp2
      generalize hW : World.setCell (World.drewN _ _) _ _ = wx
      have hx : Chg (fun k => k = c) w wx := by
        subst hW
        repeat' (first | (with_reducible exact Chg.refl _ _) | (with_reducible exact Ext.refl _) | (with_reducible assumption) | (with_reducible refine Chg.alloc ?_ _) | (with_reducible refine Chg.drew ?_) | (with_reducible refine Chg.drewN ?_ _) | (with_reducible refine Chg.setCell ?_ ?_ _) | (with_reducible refine Ext.alloc ?_ _) | (with_reducible refine Ext.drew ?_) | (with_reducible refine Ext.drewN ?_ _) | (with_reducible refine Ext.setCell ?_ ?_ _) | (simp; done) | (simp; omega) | omega)
      have hcur : Blk wx c 68 (curCells (.slice (some ⟨b, o, none⟩) log.length cp) ⟨i + 1, sk, false⟩) := by
        subst hW
        exact (((unhide HH).blk.alloc _).alloc _).set_ 1 _
      have hres : Blk wx (w.heap.size + 1) 79 #[.int .i64 0, .string { data := #[] }] := by
        subst hW
        exact (Blk.new' _ _ _ (by simp)).far (by simp; omega) _
      have d1 := hx.cellv hc1 hbc
      have d2 := hx.cellv hc2 hbc
      have e0 := hcur.cell 0
      have e1 := hcur.cell 1
      simp only [curCells, List.getElem?_toArray, List.getElem?_cons_zero, List.getElem?_cons_succ] at e0 e1
      obtain ⟨r0, r1, fr, lr⟩ := hres.cells2
      have HX := hide (And.intro hx (And.intro hcur hres))
      clear hW hx hcur hres c0 c1 c2 c3 c4 c5 c6 c7 hc1 hc2 f0
      go_region
      all_goals go_wp2
      have hne : ¬ c = w.heap.size + 1 := by omega
      have he : curStep log ⟨ak, ab, ac, ax⟩ ⟨i, sk, false⟩ = (r, ⟨i + 1, sk, false⟩) := by unfold curStep; simp only [unhide R]; rfl
      refine bodyPost_ret (v := .agg #[.int .i64 r.val, .string r.bytes]) (by simp [results, Try.results49, go_sem, r0, r1]) rfl ?_
      rw [he]
      have hx := (unhide HX).1
      have hx2 : Chg (fun k => k = c) w (((wx.setCell ⟨w.heap.size + 1, 0, none⟩ (.int .i64 r.val)).setCell ⟨w.heap.size + 1, 1, none⟩ (.string r.bytes)).drew) := by
        repeat' (first | (with_reducible exact Chg.refl _ _) | (with_reducible exact Ext.refl _) | (with_reducible assumption) | (with_reducible refine Chg.alloc ?_ _) | (with_reducible refine Chg.drew ?_) | (with_reducible refine Chg.drewN ?_ _) | (with_reducible refine Chg.setCell ?_ ?_ _) | (with_reducible refine Ext.alloc ?_ _) | (with_reducible refine Ext.drew ?_) | (with_reducible refine Ext.drewN ?_ _) | (with_reducible refine Ext.setCell ?_ ?_ _) | (simp; done) | (simp; omega) | omega)
      exact ⟨rfl, (unhide HH).chg hx2 ((((unhide HX).2.1.far (p := ⟨w.heap.size + 1, 0, none⟩) hne _).far (p := ⟨w.heap.size + 1, 1, none⟩) hne _).drew) hlt, hx2⟩
    · have R : Hid (log[i]? = none) := hide (List.getElem?_eq_none (by omega))
      have hli : log.length ≤ i := by omega
      go_enter Try.func49, Try.ntmps49
      go_wp2
      go_quiet (fail)
      go_wp2
      refine bodyPost_ret (v := .agg #[.int .i64 0, .string { data := #[] }]) (by simp [results, Try.results49, go_sem]) rfl ?_
      have he : curStep log ⟨ak, ab, ac, ax⟩ ⟨i, sk, false⟩ = (⟨0, noBytes⟩, ⟨i, ⟨ak, ab, ac, ax⟩, true⟩) := by unfold curStep; simp only [unhide R]; rfl
      rw [he]
      refine ⟨rfl, (unhide HH).chg ?_ ?_ (unhide HH).le, ?_⟩
      · repeat' (first | (with_reducible exact Chg.refl _ _) | (with_reducible exact Ext.refl _) | (with_reducible assumption) | (with_reducible refine Chg.alloc ?_ _) | (with_reducible refine Chg.drew ?_) | (with_reducible refine Chg.drewN ?_ _) | (with_reducible refine Chg.setCell ?_ ?_ _) | (with_reducible refine Ext.alloc ?_ _) | (with_reducible refine Ext.drew ?_) | (with_reducible refine Ext.drewN ?_ _) | (with_reducible refine Ext.setCell ?_ ?_ _) | (simp; done) | (simp; omega) | omega)
      · have hne : ¬ c = w.heap.size + 1 := by omega
        exact ((((((((((unhide HH).blk.alloc _).alloc _).drewN nq).set_ 6 _).set_ 2 _).set_ 3 _).set_ 4 _).set_ 5 _).far (p := ⟨w.heap.size + 1, 0, none⟩) hne _).far (p := ⟨w.heap.size + 1, 1, none⟩) hne _
      · repeat' (first | (with_reducible exact Chg.refl _ _) | (with_reducible exact Ext.refl _) | (with_reducible assumption) | (with_reducible refine Chg.alloc ?_ _) | (with_reducible refine Chg.drew ?_) | (with_reducible refine Chg.drewN ?_ _) | (with_reducible refine Chg.setCell ?_ ?_ _) | (with_reducible refine Ext.alloc ?_ _) | (with_reducible refine Ext.drew ?_) | (with_reducible refine Ext.drewN ?_ _) | (with_reducible refine Ext.setCell ?_ ?_ _) | (simp; done) | (simp; omega) | omega)

/-- A step program read off by a Cur. -/
def curRun {α : Type} (log : List Res) (p : Prg α) (s : CurSt) : Option α × CurSt :=
  if s.stop then (none, s) else match p.run (replay log) s.i with
    | .ok a i => (some a, { s with i := i })
    | .error a i => (none, { s with i := i, stop := true, ask := a })
theorem curRun_stop {α : Type} {log : List Res} {p : Prg α} {s : CurSt} (h : s.stop = true) : curRun log p s = (none, s) := by unfold curRun; rw [if_pos h]
theorem curRun_ret {α : Type} {log : List Res} {a : α} {s : CurSt} (h : s.stop = false) : curRun log (.ret a) s = (some a, s) := by unfold curRun; rw [if_neg (by simp [h])]; rfl
theorem curRun_bind {α β : Type} {log : List Res} {p : Prg α} {f : α → Prg β} {s : CurSt} {a : α} (h : ∀ a', (curRun log p s).1 = some a' → a = a') : curRun log (p.bind f) s = curRun log (f a) (curRun log p s).2 := by
  by_cases hs : s.stop = true
  · rw [curRun_stop hs, curRun_stop hs]; exact (curRun_stop hs).symm
  · cases hr : p.run (replay log) s.i with
    | ok b i =>
      have e : curRun log p s = (some b, { s with i := i }) := by unfold curRun; rw [if_neg hs, hr]
      obtain rfl := h b (by rw [e])
      rw [e]
      unfold curRun
      rw [if_neg hs, if_neg (show ¬ ({ s with i := i } : CurSt).stop = true from hs), Prg.run_bind_ok hr]
    | error b i =>
      have e : curRun log p s = (none, { s with i := i, stop := true, ask := b }) := by unfold curRun; rw [if_neg hs, hr]
      rw [e, curRun_stop (s := { s with i := i, stop := true, ask := b }) rfl]
      unfold curRun
      rw [if_neg hs, Prg.run_bind_error hr]

/-- What a call leaves that carries out a step program with a Cur: behind a stop the value it returns means nothing. -/
structure CurPost {α : Type} (c : Nat) (lv : Value) (log : List Res) (val : α → Value) (p : Prg α) (s : CurSt) (w : World) (e : Ending) (w' : World) : Prop where
  ex : ∃ a : α, e = .returned (val a) ∧ ∀ a', (curRun log p s).1 = some a' → a = a'
  inv : CurInv c lv log (curRun log p s).2 w'
  chg : Chg (fun k => k = c) w w'

theorem curRun_ask {log : List Res} (a : Acc) (s : CurSt) : (∀ r, (curRun log (.ask a .ret) s).1 = some r → (curStep log a s).1 = r) ∧ (curRun log (.ask a .ret) s).2 = (curStep log a s).2 := by
  unfold curRun curStep
  by_cases hs : s.stop = true
  · rw [if_pos hs, if_pos hs]
    refine ⟨fun r h => ?_, rfl⟩
    cases h
  · rw [if_neg hs, if_neg hs]
    simp only [Prg.run, replay]
    cases h : log[s.i]? with
    | none =>
      refine ⟨fun r h => ?_, rfl⟩
      cases h
    | some r =>
      refine ⟨fun r' h => ?_, rfl⟩
      cases h
      rfl
theorem curRun_ret2 {α : Type} {log : List Res} {a : α} {s : CurSt} : (curRun log (.ret a) s).2 = s := by
  cases hs : s.stop
  · rw [curRun_ret hs]
  · rw [curRun_stop hs]
theorem curRun_ret1 {α : Type} {log : List Res} {a a' : α} {s : CurSt} (h : (curRun log (.ret a) s).1 = some a') : a = a' := by
  cases hs : s.stop
  · rw [curRun_ret hs] at h; cases h; rfl
  · rw [curRun_stop hs] at h; cases h

theorem cur_fuse (c : Nat) (lv : Value) (log : List Res) (a b : Int) (s : CurSt) (w : World) (h : CurInv c lv log s w) :
    Calls Try.prog 46 #[.pointer (some ⟨c, 0, none⟩), .int .i64 a, .int .i64 b] w (CurPost c lv log intV (Prg.fuse a b) s w) := by
  have HI := hide h
  clear h
  go_enter Try.func46, Try.ntmps46
  go_wp2_with fail
  refine (cur_do c lv log ⟨1, a, b, noBytes⟩ s w (unhide HI)).mono ?_
  rintro e w1 ⟨rfl, h1, h2⟩
  have hk := curRun_ask (log := log) ⟨1, a, b, noBytes⟩ s
  have hq : curRun log (Prg.fuse a b) s = curRun log (.ret (curStep log ⟨1, a, b, noBytes⟩ s).1.val) (curStep log ⟨1, a, b, noBytes⟩ s).2 := by
    rw [← hk.2]
    exact curRun_bind (p := .ask ⟨1, a, b, noBytes⟩ .ret) (f := fun r => .ret r.val) hk.1
  have HQ := hide hq
  have HC := hide (And.intro h1 h2)
  clear h1 h2 hk hq
  generalize curStep log ⟨1, a, b, noBytes⟩ s = q at *
  obtain ⟨⟨rv, rb⟩, s'⟩ := q
  simp only [Res.v]
  go_wp2
  go_ret
  refine ⟨⟨rv, rfl, fun a' ha => curRun_ret1 (by rw [← unhide HQ]; exact ha)⟩, ?_, ?_⟩
  · rw [unhide HQ, curRun_ret2]
    refine (unhide HC).1.ext ?_
    repeat' (first | (with_reducible exact Chg.refl _ _) | (with_reducible exact Ext.refl _) | (with_reducible assumption) | (with_reducible refine Chg.alloc ?_ _) | (with_reducible refine Chg.drew ?_) | (with_reducible refine Chg.drewN ?_ _) | (with_reducible refine Chg.setCell ?_ ?_ _) | (with_reducible refine Ext.alloc ?_ _) | (with_reducible refine Ext.drew ?_) | (with_reducible refine Ext.drewN ?_ _) | (with_reducible refine Ext.setCell ?_ ?_ _) | (simp; done) | (simp; omega) | omega)
  · have h1 := (unhide HC).2
    repeat' (first | (with_reducible exact Chg.refl _ _) | (with_reducible exact Ext.refl _) | (with_reducible assumption) | (with_reducible refine Chg.alloc ?_ _) | (with_reducible refine Chg.drew ?_) | (with_reducible refine Chg.drewN ?_ _) | (with_reducible refine Chg.setCell ?_ ?_ _) | (with_reducible refine Ext.alloc ?_ _) | (with_reducible refine Ext.drew ?_) | (with_reducible refine Ext.drewN ?_ _) | (with_reducible refine Ext.setCell ?_ ?_ _) | (simp; done) | (simp; omega) | omega)

theorem cur_pulse (c : Nat) (lv : Value) (log : List Res) (a b : Int) (s : CurSt) (w : World) (h : CurInv c lv log s w) :
    Calls Try.prog 47 #[.pointer (some ⟨c, 0, none⟩), .int .i64 a, .int .i64 b] w (CurPost c lv log unitV (Prg.pulse a b) s w) := by
  have HI := hide h
  clear h
  go_enter Try.func47, Try.ntmps47
  go_wp2_with fail
  refine (cur_do c lv log ⟨2, a, b, noBytes⟩ s w (unhide HI)).mono ?_
  rintro e w1 ⟨rfl, h1, h2⟩
  have hk := curRun_ask (log := log) ⟨2, a, b, noBytes⟩ s
  have hq : curRun log (Prg.pulse a b) s = curRun log (.ret ()) (curStep log ⟨2, a, b, noBytes⟩ s).2 := by
    rw [← hk.2]
    exact curRun_bind (p := .ask ⟨2, a, b, noBytes⟩ .ret) (f := fun r => .ret ()) hk.1
  have HQ := hide hq
  have HC := hide (And.intro h1 h2)
  clear h1 h2 hk hq
  generalize curStep log ⟨2, a, b, noBytes⟩ s = q at *
  obtain ⟨⟨rv, rb⟩, s'⟩ := q
  simp only [Res.v]
  go_wp2
  go_end0
  refine ⟨⟨(), rfl, fun a' ha => curRun_ret1 (by rw [← unhide HQ]; exact ha)⟩, ?_, (unhide HC).2⟩
  rw [unhide HQ, curRun_ret2]
  exact (unhide HC).1

end Go.Proofs.Ytmlekdmnpljcoaa
