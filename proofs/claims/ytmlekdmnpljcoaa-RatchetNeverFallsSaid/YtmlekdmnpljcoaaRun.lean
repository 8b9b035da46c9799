/-
  play.Run at a1668fc28a0f6719164f525e9383cc903f897663: the function 'do' that it hands to a program reads the log.
-/
import Derived.Test.YtmlekdmnpljcoaaPlay
namespace Go.Proofs.Ytmlekdmnpljcoaa
open Go.RowKit

/-- What the replaying 'do' leans on: its counter lies in block A, the log's slice lv in block L. -/
structure RunInv (A L : Nat) (lv : Value) (log : List Res) (i : Nat) (X : Nat → Prop) (w : World) : Prop where
  at_ : w.heap[A]? = some (.cells #[.int .i64 (i : Int)] 3 (0, 0))
  logv : w.heap[L]? = some (.cells #[lv] 22 (0, 0))
  reads : Reads w 2 lv log.length (logCells log)
  ne : A ≠ L
  own : 0 < log.length → lv.ownBlock ≠ some A
  le : i ≤ log.length
  mine : ∀ k, X k → k < w.heap.size ∧ k ≠ A ∧ k ≠ L ∧ (0 < log.length → lv.ownBlock ≠ some k)

def pending (a : Acc) : Value := .iface 84 a.v

theorem RunInv.chg {A L : Nat} {lv : Value} {log : List Res} {i : Nat} {X : Nat → Prop} {w w' : World} (h : RunInv A L lv log i X w) (hc : Chg X w w') : RunInv A L lv log i X w' :=
  ⟨Chg.blk hc h.at_ (fun hx => (h.mine _ hx).2.1 rfl), Chg.blk hc h.logv (fun hx => (h.mine _ hx).2.2.1 rfl), h.reads.chg hc (fun _ hn hk hx => (h.mine _ hx).2.2.2 hn hk), h.ne, h.own, h.le,
    fun k hk => ⟨Nat.lt_of_lt_of_le (h.mine k hk).1 hc.size, (h.mine k hk).2⟩⟩
theorem RunInv.step {A L : Nat} {lv : Value} {log : List Res} {i : Nat} {X : Nat → Prop} {w : World} (h : RunInv A L lv log i X w) (hi : i < log.length) : RunInv A L lv log (i + 1) X (w.setCell ⟨A, 0, none⟩ (.int .i64 ((i : Int) + 1))) := by
  have hc : Chg (fun k => k = A) w (w.setCell ⟨A, 0, none⟩ (.int .i64 ((i : Int) + 1))) := Chg.setCell (S := fun k => k = A) (p := ⟨A, 0, none⟩) (Chg.refl _ _) (.inl rfl) _
  refine ⟨?_, Chg.blk hc h.logv (fun e => h.ne e.symm), h.reads.chg hc (fun k hn hk e => h.own hn (e ▸ hk)), h.ne, h.own, hi, fun k hk => ⟨Nat.lt_of_lt_of_le (h.mine k hk).1 hc.size, (h.mine k hk).2⟩⟩
  exact one_setCell h.at_

set_option maxHeartbeats 400000 in
theorem run_do (A L : Nat) (lv : Value) (log : List Res) (a : Acc) (i : Nat) (X : Nat → Prop) (w : World) (h : RunInv A L lv log i X w) (F : Nat) (hF : F = 32) :
    Calls Try.prog F (#[a.v] ++ #[.pointer (some ⟨A, 0, none⟩), .pointer (some ⟨L, 0, none⟩)]) w (StepPost (RunInv A L lv log) (fun k => k = A) X pending w Res.v (replay log a i)) := by
  subst hF
  have hA := cell_of_one h.at_
  have hfA := free_of_one h.at_
  have hL := cell_of_one h.logv
  have hAw := lt_of_heap h.at_
  have hLw := lt_of_heap h.logv
  have hne : ¬ L = A := fun e => h.ne e.symm
  have hmx := h.reads.len_le
  have HH := hide h
  obtain ⟨_, B, c, rfl, hnc, hcm, _⟩ := h.reads
  clear h
  unfold maxLen at hmx
  obtain ⟨ak, ab, ac, ax⟩ := a
  simp only [Acc.v]
  by_cases hlt : i < log.length
  · obtain ⟨b, o, c', u1, u2, hv, _, _, hb, hu1, hu2, hc1, hc2⟩ := (unhide HH).reads.at2 hlt
    cases hv
    have hbA : ¬ b = A := fun e => (unhide HH).own (by omega) (by rw [e]; rfl)
    rw [(logCells_get log i).1, List.getElem?_eq_getElem hlt] at hu1
    rw [(logCells_get log i).2, List.getElem?_eq_getElem hlt] at hu2
    cases hu1
    cases hu2
    have R : Hid (replay log ⟨ak, ab, ac, ax⟩ i = .ok log[i] (i + 1)) := hide (by unfold replay; rw [List.getElem?_eq_getElem hlt])
    generalize log[i] = r at *
    have hli : ¬ log.length ≤ i := by omega
    go_enter Try.func32, Try.ntmps32
    go_wp2
    go_returns
    have hs := (unhide HH).step hlt
    refine StepPost.ok (unhide R) rfl ?_ ?_
    · exact (hs.chg (Chg.alloc (Chg.refl _ _) _)).chg (Chg.alloc (Chg.refl _ _) _)
    · exact ((Chg.setCell (S := fun k => k = A) (p := ⟨A, 0, none⟩) (Chg.refl _ _) (.inl rfl) _).alloc _).alloc _
  · have R : Hid (replay log ⟨ak, ab, ac, ax⟩ i = .error ⟨ak, ab, ac, ax⟩ i) := hide (by unfold replay; rw [List.getElem?_eq_none (by omega)])
    have hli : log.length ≤ i := by omega
    go_enter Try.func32, Try.ntmps32
    go_wp2
    refine ⟨rfl, StepPost.err (unhide R) rfl ?_ ?_⟩
    · exact ((unhide HH).chg (Chg.alloc (Chg.refl _ _) _)).chg (Chg.alloc (Chg.refl _ _) _)
    · exact ((Chg.refl _ _).alloc _).alloc _

theorem run_env (A L : Nat) (lv : Value) (log : List Res) :
    DoEnv Try.prog 32 #[.pointer (some ⟨A, 0, none⟩), .pointer (some ⟨L, 0, none⟩)] (replay log) pending (RunInv A L lv log) (fun k => k = A) where
  call := fun args w => by kernel_rfl
  step := fun a s X w h => run_do A L lv log a s X w h _ rfl
  chg := fun s X w w' h hc => h.chg hc
  add := fun s X w w' g h hc hg hg' => by
    have h' := h.chg hc
    refine ⟨h'.at_, h'.logv, h'.reads, h'.ne, h'.own, h'.le, ?_⟩
    rintro k (hk | rfl)
    · exact h'.mine k hk
    · refine ⟨hg', ?_, ?_, ?_⟩
      · have := lt_of_heap h.at_; omega
      · have := lt_of_heap h.logv; omega
      · intro hn hk; have := h.reads.own_lt (by omega) hn _ hk; omega
  weak := fun s X Y w h hy => ⟨h.at_, h.logv, h.reads, h.ne, h.own, h.le, fun k hk => h.mine k (hy k hk)⟩
  lt := fun s X w k h hk => (h.mine k hk).1
  notS := fun s X w k h hk => (h.mine k hk).2.1

theorem assert_pending (x : Value) (w : World) : (Instr.typeAssert (.iface 84 x) 20 84 true).run Try.prog w = .ok (.tuple #[x, .bool true]) w := by kernel_rfl
attribute [local go_sem] assert_pending

set_option maxRecDepth 100000 in
set_option maxHeartbeats 1000000 in
theorem catch_panicking (Ab Ob Db : Nat) (a : Acc) (x0 x1 x2 x3 y0 y1 z0 : Value) (older : List PanicEntry) (w : World)
    (hA : Blk w Ab 27 #[x0, x1, x2, x3]) (hO : Blk w Ob 30 #[y0, y1]) (hD : Blk w Db 4 #[z0]) (hAO : ¬ Ab = Ob) (hAD : ¬ Ab = Db) (hOD : ¬ Ob = Db) :
    CallsD Try.prog 33 #[.pointer (some ⟨Ab, 0, none⟩), .pointer (some ⟨Ob, 0, none⟩), .pointer (some ⟨Db, 0, none⟩)] (.panicking ({ v := pending a, recovered := false } :: older)) w fun e u' w' =>
      e = .returned (.tuple #[]) ∧ u' = .panicking ({ v := pending a, recovered := true } :: older) ∧ Chg (fun k => k = Ab ∨ k = Ob ∨ k = Db) w w' ∧
      Blk w' Ab 27 #[.int .i64 a.kind, .int .i64 a.bank, .int .i64 a.cell, .string a.bytes] ∧ Blk w' Ob 30 #[.int .i64 0, .int .i64 0] ∧ Blk w' Db 4 #[.bool false] := by
  have hA0 := hA.cell 0
  have hA1 := hA.cell 1
  have hA2 := hA.cell 2
  have hA3 := hA.cell 3
  have hO0 := hO.cell 0
  have hO1 := hO.cell 1
  have hD0 := hD.cell 0
  have fA := hA.frozen
  have fO := hO.frozen
  have fD := hD.frozen
  have lA := hA.lt
  have lO := hO.lt
  have lD := hD.lt
  simp only [List.getElem?_toArray, List.getElem?_cons_zero, List.getElem?_cons_succ] at hA0 hA1 hA2 hA3 hO0 hO1 hD0
  have HA := hide hA
  have HO := hide hO
  have HD := hide hD
  clear hA hO hD
  have hAO' : ¬ Ob = Ab := fun e => hAO e.symm
  have hAD' : ¬ Db = Ab := fun e => hAD e.symm
  have hOD' : ¬ Db = Ob := fun e => hOD e.symm
  obtain ⟨ak, ab, ac, ax⟩ := a
  simp only [pending, Acc.v]
  refine callsD_of_wpS Try.func33 rfl fun c₀ cs hu => ?_
  simp only [Try.ntmps33, List.size_toArray, List.length_cons, List.length_nil, Nat.reduceAdd, Nat.reduceSub, Array.replicate_succ, Array.replicate_zero, List.push_toArray, List.append_toArray, List.nil_append, List.cons_append]
  apply wpS_seq
  apply wpS_region
  simp [wpOpsS, go_sem, recoverD, hu, Exit.thenS]
  refine wpS_of_wp ?_
  go_wp2
  go_region
  go_wp2
  refine ⟨rfl, _, rfl, .tuple #[], results_none rfl _ _ _, rfl, rfl, ?_, ?_, ?_, ?_⟩
  · repeat' (first | (with_reducible exact Chg.refl _ _) | (with_reducible exact Ext.refl _) | (with_reducible assumption) | (with_reducible refine Chg.alloc ?_ _) | (with_reducible refine Chg.drew ?_) | (with_reducible refine Chg.drewN ?_ _) | (with_reducible refine Chg.setCell ?_ ?_ _) | (with_reducible refine Ext.alloc ?_ _) | (with_reducible refine Ext.drew ?_) | (with_reducible refine Ext.drewN ?_ _) | (with_reducible refine Ext.setCell ?_ ?_ _) | (simp; done) | (simp; omega) | omega)
  · exact ((((((((((unhide HA).set_ 0 _).set_ 1 _).set_ 2 _).set_ 3 _).far (p := ⟨Ob, 0, none⟩) hAO _).far (p := ⟨Ob, 1, none⟩) hAO _).far (p := ⟨Db, 0, none⟩) hAD _).alloc _).alloc _).drew
  · exact ((((((((((unhide HO).far (p := ⟨Ab, 0, none⟩) hAO' _).far (p := ⟨Ab, 1, none⟩) hAO' _).far (p := ⟨Ab, 2, none⟩) hAO' _).far (p := ⟨Ab, 3, none⟩) hAO' _).set_ 0 _).set_ 1 _).far (p := ⟨Db, 0, none⟩) hOD _).alloc _).alloc _).drew
  · exact ((((((((((unhide HD).far (p := ⟨Ab, 0, none⟩) hAD' _).far (p := ⟨Ab, 1, none⟩) hAD' _).far (p := ⟨Ab, 2, none⟩) hAD' _).far (p := ⟨Ab, 3, none⟩) hAD' _).far (p := ⟨Ob, 0, none⟩) hOD' _).far (p := ⟨Ob, 1, none⟩) hOD' _).set_ 0 _).alloc _).alloc _).drew

theorem catch_idle (x y z : Value) (w : World) :
    CallsD Try.prog 33 #[x, y, z] .returning w fun e u' w' => e = .returned (.tuple #[]) ∧ u' = .returning ∧ w = w' := by
  refine callsD_of_wpS Try.func33 rfl fun c₀ cs hu => ?_
  simp only [Try.ntmps33, List.size_toArray, List.length_cons, List.length_nil, Nat.reduceAdd, Nat.reduceSub, Array.replicate_succ, Array.replicate_zero, List.push_toArray, List.append_toArray, List.nil_append, List.cons_append]
  apply wpS_seq
  apply wpS_region
  simp [wpOpsS, go_sem, recoverD, hu, Exit.thenS]
  refine wpS_of_wp ?_
  go_wp2
  exact ⟨rfl, .returning, by cases c₀; simp_all, .tuple #[], results_none rfl _ _ _, rfl, rfl, rfl⟩

/-- The outcome of a level program, as it lies in memory. -/
def outV : Nat × Int → Value := fun p => .agg #[.int .i64 p.1, .int .i64 p.2]
/-- What play.Run returns. -/
def ranV : EStateM.Result Acc Nat (Nat × Int) → Value
  | .ok p _ => .tuple #[.agg #[.int .i64 0, .int .i64 0, .int .i64 0, .string noBytes], outV p, .bool true]
  | .error a _ => .tuple #[a.v, .agg #[.int .i64 0, .int .i64 0], .bool false]

/-- The world in which play.Run calls the program. -/
def runWorld (w : World) (lv : Value) : World :=
  ((((w.alloc (.cells #[lv] 22)).alloc (.cells #[.int .i64 0, .int .i64 0, .int .i64 0, .string { data := #[] }] 27)).alloc (.cells #[.int .i64 0, .int .i64 0] 30)).alloc (.cells #[.bool false] 4)).alloc (.cells #[.int .i64 0] 3)
theorem runWorld_facts (w : World) (lv : Value) (log : List Res) (hl : Reads w 2 lv log.length (logCells log)) :
    Ext w (runWorld w lv) ∧ (runWorld w lv).heap.size = w.heap.size + 5 ∧
    RunInv (w.heap.size + 1 + 1 + 1 + 1) w.heap.size lv log 0 (fun k => k = w.heap.size + 1 ∨ k = w.heap.size + 1 + 1 ∨ k = w.heap.size + 1 + 1 + 1) (runWorld w lv) ∧
    Blk (runWorld w lv) (w.heap.size + 1) 27 #[.int .i64 0, .int .i64 0, .int .i64 0, .string { data := #[] }] ∧
    Blk (runWorld w lv) (w.heap.size + 1 + 1) 30 #[.int .i64 0, .int .i64 0] ∧ Blk (runWorld w lv) (w.heap.size + 1 + 1 + 1) 4 #[.bool false] := by
  have hlt := fun k (hn : 0 < log.length) hk => hl.own_lt (by omega) hn k hk
  have hE : Ext w (runWorld w lv) := by
    unfold runWorld
    repeat' (first | (with_reducible exact Chg.refl _ _) | (with_reducible exact Ext.refl _) | (with_reducible assumption) | (with_reducible refine Chg.alloc ?_ _) | (with_reducible refine Chg.drew ?_) | (with_reducible refine Chg.drewN ?_ _) | (with_reducible refine Chg.setCell ?_ ?_ _) | (with_reducible refine Ext.alloc ?_ _) | (with_reducible refine Ext.drew ?_) | (with_reducible refine Ext.drewN ?_ _) | (with_reducible refine Ext.setCell ?_ ?_ _) | (simp; done) | (simp; omega) | omega)
  refine ⟨hE, by simp [runWorld], ⟨?_, ?_, hl.ext hE, by omega, ?_, by omega, ?_⟩, ?_, ?_, ?_⟩
  · exact Blk.new' _ _ _ (by simp)
  · exact ((((Blk.new w 22 #[lv]).alloc _).alloc _).alloc _).alloc _
  · intro hn hk
    have := hlt _ hn hk
    omega
  · rintro k hk
    refine ⟨by simp [runWorld]; omega, by omega, by omega, fun hn hk' => ?_⟩
    have := hlt _ hn hk'
    omega
  · exact (((Blk.new' _ _ _ (by simp)).alloc _).alloc _).alloc _
  · exact ((Blk.new' _ _ _ (by simp)).alloc _).alloc _
  · exact (Blk.new' _ _ _ (by simp)).alloc _

theorem run_results (tmps : Array Value) (w : World) (Ab Ob Db : Nat) (a0 a1 a2 a3 o0 o1 d0 : Value) (h4 : tmps[4]?.getD undef = .pointer (some ⟨Ab, 0, none⟩)) (h5 : tmps[5]?.getD undef = .pointer (some ⟨Ob, 0, none⟩)) (h6 : tmps[6]?.getD undef = .pointer (some ⟨Db, 0, none⟩))
    (hA : Blk w Ab 27 #[a0, a1, a2, a3]) (hO : Blk w Ob 30 #[o0, o1]) (hD : Blk w Db 4 #[d0]) :
    (results Try.f19 tmps).run Try.prog w = .ok (.tuple #[.agg #[a0, a1, a2, a3], .agg #[o0, o1], d0]) w := by
  have a0 := hA.cell 0
  have a1 := hA.cell 1
  have a2 := hA.cell 2
  have a3 := hA.cell 3
  have o0 := hO.cell 0
  have o1 := hO.cell 1
  have d0 := hD.cell 0
  simp only [List.getElem?_toArray, List.getElem?_cons_zero, List.getElem?_cons_succ] at a0 a1 a2 a3 o0 o1 d0
  simp [results, Try.results19, go_sem, h4, h5, h6, a0, a1, a2, a3, o0, o1, d0]

set_option maxHeartbeats 1000000 in
theorem run_any (G : Nat) (pc : Array Value) (lv : Value) (log : List Res) (p : Prg (Nat × Int)) (w : World) (hl : Reads w 2 lv log.length (logCells log)) (hG : ∀ (args : Array Value) (w : World), (callFunc G args).run Try.prog w = .ok (.enter G args) w)
    (hp : ∀ A L X w1, Ext w w1 → RunInv A L lv log 0 X w1 → Calls Try.prog G (#[.func (.func 32) #[] #[.pointer (some ⟨A, 0, none⟩), .pointer (some ⟨L, 0, none⟩)]] ++ pc) w1 (StepPost (RunInv A L lv log) (fun k => k = A) X pending w1 outV (p.run (replay log) 0))) :
    Calls Try.prog 19 #[.func (.func G) #[] pc, lv] w fun e w' => e = .returned (ranV (p.run (replay log) 0)) ∧ Ext w w' := by
  have hmf : ∀ (fn : Fn) (first cap : Array Value) (w : World), (Instr.makeFunc fn first cap).run Try.prog w = .ok (.func fn first cap) w := fun _ _ _ _ => rfl
  have HP := hide hp
  have HL := hide hl
  obtain ⟨_, B, c, rfl, hnc, hcm, _⟩ := hl
  clear hp hnc hcm
  go_enter_defers Try.func19, Try.ntmps19
  go_wp2_with fail
  obtain ⟨hE, hsz, hI, hBA, hBO, hBD⟩ := runWorld_facts w (.slice B log.length c) log (unhide HL)
  refine (unhide HP _ _ _ (runWorld w (.slice B log.length c)) hE hI).mono ?_
  intro e w1 hq
  have nA : ¬ (w.heap.size + 1 = w.heap.size + 1 + 1 + 1 + 1) := by omega
  have nO : ¬ (w.heap.size + 1 + 1 = w.heap.size + 1 + 1 + 1 + 1) := by omega
  have nD : ¬ (w.heap.size + 1 + 1 + 1 = w.heap.size + 1 + 1 + 1 + 1) := by omega
  cases hr : p.run (replay log) 0 with
  | ok a s =>
    obtain ⟨rfl, h1, h2⟩ := hq.of_ok hr
    have HR := hide hr
    have hA := hide (hBA.chg h2 nA)
    have hO := hide (hBO.chg h2 nO)
    have hD := hide (hBD.chg h2 nD)
    have hEx : Hid (Ext w w1) := hide (hE.trans' h2 (fun _ _ h => h) (fun i hi e => absurd e (by omega)))
    have a0 := (unhide hA).cell 0
    have a1 := (unhide hA).cell 1
    have a2 := (unhide hA).cell 2
    have a3 := (unhide hA).cell 3
    have o0 := (unhide hO).cell 0
    have o1 := (unhide hO).cell 1
    have d0 := (unhide hD).cell 0
    simp only [List.getElem?_toArray, List.getElem?_cons_zero, List.getElem?_cons_succ] at a0 a1 a2 a3 o0 o1 d0
    have fA := (unhide hA).frozen
    have fO := (unhide hO).frozen
    have fD := (unhide hD).frozen
    clear hq hr h1 h2 hE hsz hI hBA hBO hBD HP
    obtain ⟨n, er⟩ := a
    simp only [outV]
    go_wp2
    have e1 : ¬ w.heap.size + 1 = w.heap.size + 1 + 1 := by omega
    have e2 : ¬ w.heap.size + 1 = w.heap.size + 1 + 1 + 1 := by omega
    have e3 : ¬ w.heap.size + 1 + 1 = w.heap.size + 1 := by omega
    have e4 : ¬ w.heap.size + 1 + 1 = w.heap.size + 1 + 1 + 1 := by omega
    have e5 : ¬ w.heap.size + 1 + 1 + 1 = w.heap.size + 1 := by omega
    have e6 : ¬ w.heap.size + 1 + 1 + 1 = w.heap.size + 1 + 1 := by omega
    refine leaves_cons (f := 33) (args := #[.pointer (some ⟨w.heap.size + 1, 0, none⟩), .pointer (some ⟨w.heap.size + 1 + 1, 0, none⟩), .pointer (some ⟨w.heap.size + 1 + 1 + 1, 0, none⟩)]) (by simp) (by simp [go_sem]) ?_
    refine (catch_idle _ _ _ _).mono ?_
    rintro e u' w2 ⟨rfl, rfl, rfl⟩
    refine ⟨_, run_results _ _ (w.heap.size + 1) (w.heap.size + 1 + 1) (w.heap.size + 1 + 1 + 1) (.int .i64 0) (.int .i64 0) (.int .i64 0) (.string { data := #[] }) (.int .i64 n) (.int .i64 er) (.bool true) rfl rfl rfl ?_ ?_ ?_, ?_, ?_⟩
    · exact (((((((unhide hA).set_ 0 _).set_ 1 _).set_ 2 _).set_ 3 _).far (p := ⟨w.heap.size + 1 + 1, 0, none⟩) e1 _).far (p := ⟨w.heap.size + 1 + 1, 1, none⟩) e1 _).far (p := ⟨w.heap.size + 1 + 1 + 1, 0, none⟩) e2 _
    · exact (((((((unhide hO).far (p := ⟨w.heap.size + 1, 0, none⟩) e3 _).far (p := ⟨w.heap.size + 1, 1, none⟩) e3 _).far (p := ⟨w.heap.size + 1, 2, none⟩) e3 _).far (p := ⟨w.heap.size + 1, 3, none⟩) e3 _).set_ 0 _).set_ 1 _).far (p := ⟨w.heap.size + 1 + 1 + 1, 0, none⟩) e4 _
    · exact (((((((unhide hD).far (p := ⟨w.heap.size + 1, 0, none⟩) e5 _).far (p := ⟨w.heap.size + 1, 1, none⟩) e5 _).far (p := ⟨w.heap.size + 1, 2, none⟩) e5 _).far (p := ⟨w.heap.size + 1, 3, none⟩) e5 _).far (p := ⟨w.heap.size + 1 + 1, 0, none⟩) e6 _).far (p := ⟨w.heap.size + 1 + 1, 1, none⟩) e6 _).set_ 0 _
    · rw [unhide HR]
      rfl
    · have hx := unhide hEx
      repeat' (first | (with_reducible exact Chg.refl _ _) | (with_reducible exact Ext.refl _) | (with_reducible assumption) | (with_reducible refine Chg.alloc ?_ _) | (with_reducible refine Chg.drew ?_) | (with_reducible refine Chg.drewN ?_ _) | (with_reducible refine Chg.setCell ?_ ?_ _) | (with_reducible refine Ext.alloc ?_ _) | (with_reducible refine Ext.drew ?_) | (with_reducible refine Ext.drewN ?_ _) | (with_reducible refine Ext.setCell ?_ ?_ _) | (simp; done) | (simp; omega) | omega)
  | error a s =>
    obtain ⟨rfl, h1, h2⟩ := hq.of_err hr
    have HR := hide hr
    have hA := hide (hBA.chg h2 nA)
    have hO := hide (hBO.chg h2 nO)
    have hD := hide (hBD.chg h2 nD)
    have hEx : Hid (Ext w w1) := hide (hE.trans' h2 (fun _ _ h => h) (fun i hi e => absurd e (by omega)))
    clear hq hr h1 h2 hE hsz hI hBA hBO hBD HP
    go_wp2
    refine leaves_cons (f := 33) (args := #[.pointer (some ⟨w.heap.size + 1, 0, none⟩), .pointer (some ⟨w.heap.size + 1 + 1, 0, none⟩), .pointer (some ⟨w.heap.size + 1 + 1 + 1, 0, none⟩)]) (by simp) (by simp [go_sem]) ?_
    refine (catch_panicking _ _ _ a _ _ _ _ _ _ _ [] _ (unhide hA) (unhide hO) (unhide hD) (by omega) (by omega) (by omega)).mono ?_
    rintro e u' w2 ⟨rfl, rfl, hc, hA', hO', hD'⟩
    refine ⟨_, run_results _ _ _ _ _ _ _ _ _ _ _ _ rfl rfl rfl hA' hO' hD', ?_, ?_⟩
    · rw [unhide HR]
      rfl
    · exact (unhide hEx).trans' hc (fun _ _ h => h) (fun i hi e => absurd e (by omega))

end Go.Proofs.Ytmlekdmnpljcoaa
