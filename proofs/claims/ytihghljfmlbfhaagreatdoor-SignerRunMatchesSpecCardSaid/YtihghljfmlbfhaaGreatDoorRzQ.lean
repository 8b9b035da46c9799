/-
  Several texts in one file: each has its own heading below.
-/
import Derived.Test.YtihghljfmlbfhaaGreatDoorRzP
import Derived.Test.YtihghljfmlbfhaaGreatDoorRzH
import Derived.Test.YtihghljfmlbfhaaGreatDoorRzN
import Derived.Test.YtihghljfmlbfhaaGreatDoorRzA
import Derived.BigFrame
import Derived.Test.YtihghljfmlbfhaaGreatDoorRzF
import Derived.Test.YtihghljfmlbfhaaGreatDoorRzO
set_option maxRecDepth 100000
set_option maxHeartbeats 4000000
namespace Go.Proofs.YtihghljfmlbfhaaGreatDoor
open Go.RowKit
theorem sign_clo (seed m : Array Value) (h : Int) (w : World) (_ : seed.size = 16) (_ : m.size = 16) :
  Calls Tryz.prog 18 #[.agg seed, .int .i64 h, .agg m] w fun e w' =>
   e = .returned (.func (.func 32) #[] #[.pointer (some ⟨w.heap.size + 1, 0, none⟩), .pointer (some ⟨w.heap.size, 0, none⟩), .pointer (some ⟨w.heap.size + 1 + 1, 0, none⟩)]) ∧
   Ext w w' ∧ w'.heap.size = w.heap.size + 3 ∧ Blk w' w.heap.size 23 seed ∧ Blk w' (w.heap.size + 1) 3 #[.int .i64 h] ∧ Blk w' (w.heap.size + 1 + 1) 23 m := by
 have hmf : ∀ (fn : Fn) (first cap : Array Value) (w : World), (Instr.makeFunc fn first cap).run Tryz.prog w = .ok (.func fn first cap) w := fun _ _ _ _ => rfl
 go_enter Tryz.func18, Tryz.ntmps18
 go_wp2
 refine bodyPost_ret (v := .func (.func 32) #[] #[.pointer (some ⟨w.heap.size + 1, 0, none⟩), .pointer (some ⟨w.heap.size, 0, none⟩), .pointer (some ⟨w.heap.size + 1 + 1, 0, none⟩)]) (by simp [results, Tryz.results18, go_sem]) rfl ⟨rfl, ?_, ?_, ?_, ?_, ?_⟩
 ·repeat' (first | (with_reducible exact Chg.refl _ _) | (with_reducible exact Ext.refl _) | (with_reducible assumption) | (with_reducible refine Chg.alloc ?_ _) | (with_reducible refine Chg.drew ?_) | (with_reducible refine Chg.drewN ?_ _) | (with_reducible refine Chg.setCell ?_ ?_ _) | (with_reducible refine Ext.alloc ?_ _) | (with_reducible refine Ext.drew ?_) | (with_reducible refine Ext.drewN ?_ _) | (with_reducible refine Ext.setCell ?_ ?_ _) | (simp; done) | (simp; omega) | omega)
 ·simp
 ·exact ((Blk.new w _ _).alloc _).alloc _
 ·exact (Blk.new' _ _ _ (by simp)).alloc _
 ·exact Blk.new' _ _ _ (by simp)
def NextP (seed m : List UInt8) (h : Int) (log : List Res) (w : World) (e : Ending) (w' : World) : Prop :=
 (∃ p i z A1 n1 c1 A2 n2 c2 er, (Prg.signI h).run (replay log) 0 = .ok p i ∧ e = .returned (.tuple #[.agg #[.int .i64 0, .int .i64 0, .int .i64 0, .string bF], .agg #[.int .i64 z, .slice A1 n1 c1, .slice A2 n2 c2, .int .i64 er], .bool true]) ∧
   Pv.RL { w := w', ok := fun b => w.heap.size ≤ b, env := fun _ => none } (Pv.qF (Pv.sgO seed h m p).1 ++ [.lit (.int .i64 (Pv.sgO seed h m p).2)]) [.int .i64 z, .slice A1 n1 c1, .slice A2 n2 c2, .int .i64 er]) ∨
 ∃ c i, (Prg.signI h).run (replay log) 0 = .error c i ∧ e = .returned (.tuple #[c.v, .agg #[.int .i64 0, .slice none 0 0, .slice none 0 0, .int .i64 0], .bool false])
theorem aQt (seed m : List UInt8) (hs : seed.length = 16) (hm : m.length = 16) (h : Int) (lv : Value) (log : List Res) (g : Nat) (w0 w : World) (hw0 : Ext w0 w) (hgw : g + 3 ≤ w0.heap.size) (hlv : ∀ k, lv.ownBlock = some k → 0 < log.length → k < g) (hmem : ∀ w', Chg (fun b => g ≤ b) w w' → ShaMem w')
  (B0 : Blk w0 g 23 (seed.map u8v).toArray) (B1 : Blk w0 (g + 1) 3 #[.int .i64 h]) (B2 : Blk w0 (g + 1 + 1) 23 (m.map u8v).toArray)
  (A : Nat) (hA : w0.heap.size ≤ A) (L : Nat) (hL : w0.heap.size ≤ L) (X : Nat → Prop) (hR : RunInv A L lv log 0 X w) :
  Calls Tryz.prog 32 (#[.func (.func 30) #[] #[.pointer (some ⟨A, 0, none⟩), .pointer (some ⟨L, 0, none⟩)]] ++ #[.pointer (some ⟨g + 1, 0, none⟩), .pointer (some ⟨g, 0, none⟩), .pointer (some ⟨g + 1 + 1, 0, none⟩)]) w fun e w2 =>
   Chg (fun k => k = A ∨ (g ≤ k ∧ k < w0.heap.size)) w w2 ∧ ((∃ p i z A1 n1 c1 A2 n2 c2 er, (Prg.signI h).run (replay log) 0 = .ok p i ∧ e = .returned (.agg #[.int .i64 z, .slice A1 n1 c1, .slice A2 n2 c2, .int .i64 er]) ∧
    Pv.RL { w := w2, ok := fun b => w.heap.size ≤ b, env := fun _ => none } (Pv.qF (Pv.sgO seed h m p).1 ++ [.lit (.int .i64 (Pv.sgO seed h m p).2)]) [.int .i64 z, .slice A1 n1 c1, .slice A2 n2 c2, .int .i64 er]) ∨
    ∃ c i, (Prg.signI h).run (replay log) 0 = .error c i ∧ e = .panicked [{ v := pending c, recovered := false }]) := by
 have b0 := B0.ext hw0
 have b1 := B1.ext hw0
 have b2 := B2.ext hw0
 have hAw := lt_of_heap hR.at_
 have hLw := lt_of_heap hR.logv
 obtain ⟨bl, hbl⟩ : ∃ bl : Nat → Nat, bl 900001 = g + 1 ∧ bl 900002 = g ∧ bl 900003 = g + 1 + 1 := ⟨fun x => if x = 900001 then g + 1 else if x = 900002 then g else g + 1 + 1, rfl, rfl, rfl⟩
 obtain ⟨hb1, hb2, hb3⟩ := hbl
 have hX0 : (Pv.runD A L lv log).inv [] (fun k => X k ∨ k = g ∨ k = g + 1 ∨ k = g + 1 + 1) w := by
  refine ⟨hR.at_, hR.logv, hR.reads, hR.ne, hR.own, hR.le, fun k hk => ?_⟩
  rcases hk with hk | hk
  ·exact hR.mine k hk
  ·refine ⟨?_, by omega, by omega, fun hn hk' => ?_⟩
   ·have := b2.lt; omega
   ·have := hlv k hk' hn; omega
 have hobs : ∀ o ∈ Pv.aAw seed m h, (o.x = 900001 ∧ o.t = 3 ∧ o.l = [.lit (.int .i64 h)]) ∨ (o.x = 900002 ∧ o.t = 23 ∧ o.l = [.bs 16 seed]) ∨ (o.x = 900003 ∧ o.t = 23 ∧ o.l = [.bs 16 m]) := by
  intro o ho
  simp only [Pv.aAw, List.mem_cons, List.not_mem_nil, or_false] at ho
  rcases ho with rfl | rfl | rfl
  ·exact .inl ⟨rfl, rfl, rfl⟩
  ·exact .inr (.inl ⟨rfl, rfl, rfl⟩)
  ·exact .inr (.inr ⟨rfl, rfl, rfl⟩)
 have hSX : ∀ b, Pv.SX (Pv.aAw seed m h) bl (Pv.runD A L lv log) b → b = A ∨ b = g ∨ b = g + 1 ∨ b = g + 1 + 1 := by
  rintro b (hb | ⟨o, ho, rfl⟩)
  ·exact .inl hb
  ·rcases hobs o ho with ⟨e, _⟩ | ⟨e, _⟩ | ⟨e, _⟩ <;> rw [e] <;> omega
 have hgo := Pv.aTu log (Prg.signI h) [] (Nat.zero_le _)
 have e1 : Value.pointer (some ⟨g + 1, 0, none⟩) = .pointer (some ⟨bl 900001, 0, none⟩) := by rw [hb1]
 have e2 : Value.pointer (some ⟨g, 0, none⟩) = .pointer (some ⟨bl 900002, 0, none⟩) := by rw [hb2]
 have e3 : Value.pointer (some ⟨g + 1 + 1, 0, none⟩) = .pointer (some ⟨bl 900003, 0, none⟩) := by rw [hb3]
 refine (Pv.aFl seed m h (Pv.logO log) [] w (fun _ => False) [.func (.func 30) #[] #[.pointer (some ⟨A, 0, none⟩), .pointer (some ⟨L, 0, none⟩)], .pointer (some ⟨g + 1, 0, none⟩), .pointer (some ⟨g, 0, none⟩), .pointer (some ⟨g + 1 + 1, 0, none⟩)] bl (Pv.runD A L lv log) (fun k => X k ∨ k = g ∨ k = g + 1 ∨ k = g + 1 + 1)
  (fun w' hc => hmem w' (hc.mono fun b _ hb => by rcases hSX b hb with h | h | h | h <;> omega))
  (fun b hb => ⟨by have := b2.lt; rcases hSX b hb with h | h | h | h <;> omega, fun h => h⟩)
  (Pv.aRb A L lv log) (fun _ _ _ _ _ _ h _ _ => h) rfl (fun p hp => by cases hp; exact hX0) (fun h => by cases h)
  (fun o ho => ?_) (fun o ho o' ho' e => ?_) ⟨?_, ?_, ?_, ?_, trivial⟩).mono ?_
 ·rcases hobs o ho with ⟨k1, k2, k3⟩ | ⟨k1, k2, k3⟩ | ⟨k1, k2, k3⟩ <;> rw [k1, k2, k3]
  ·exact ⟨.inr (.inr (.inl hb1)), _, by rw [hb1]; exact b1, .cons (.lit rfl) .nil⟩
  ·refine ⟨.inr (.inl hb2), _, by rw [hb2]; exact b0, ?_⟩
   have := Pv.RL.cons (C := { w := w, ok := fun _ => False, env := fun _ => none }) (Pv.R.bs (n := 16) hs) Pv.RL.nil
   rw [List.append_nil] at this
   exact this
  ·refine ⟨.inr (.inr (.inr hb3)), _, by rw [hb3]; exact b2, ?_⟩
   have := Pv.RL.cons (C := { w := w, ok := fun _ => False, env := fun _ => none }) (Pv.R.bs (n := 16) hm) Pv.RL.nil
   rw [List.append_nil] at this
   exact this
 ·rcases hobs o ho with ⟨k1, _⟩ | ⟨k1, _⟩ | ⟨k1, _⟩ <;> rcases hobs o' ho' with ⟨k2, _⟩ | ⟨k2, _⟩ | ⟨k2, _⟩ <;> rw [k1, k2] at e ⊢ <;> first | rfl | (exfalso; omega)
 ·exact .w (.one (.dv rfl ⟨0, _, rfl, Nat.le_refl _, fun _ => rfl⟩))
 ·exact .w (.one (.pt ⟨_, _, rfl⟩ ⟨0, _, rfl, Nat.le_refl _, fun _ => ⟨_, rfl, e1⟩⟩))
 ·exact .w (.one (.pt ⟨_, _, rfl⟩ ⟨0, _, rfl, Nat.le_refl _, fun _ => ⟨_, rfl, e2⟩⟩))
 ·exact .w (.one (.pt ⟨_, _, rfl⟩ ⟨0, _, rfl, Nat.le_refl _, fun _ => ⟨_, rfl, e3⟩⟩))
 rintro e w2 ⟨hc, hq⟩
 refine ⟨hc.mono fun b _ hb => by rcases hSX b hb with h | h | h | h <;> omega, ?_⟩
 rcases hq with ⟨val, rfl, hres, _, hdv⟩ | ⟨chain, l, rfl, h1, h2, h3⟩
 ·refine .inl ?_
  have hinv := hdv _ rfl
  have hrun := hgo.1 hinv.le
  cases hres with
  | w hres => cases hres with
   | @agg _ cs hres =>
    obtain ⟨cs⟩ := cs
    dsimp only at hres
    have hok : Pv.RL { w := w2, ok := fun b => w.heap.size ≤ b, env := fun _ => none } _ cs := hres.le ⟨Nat.le_refl _, fun b _ hb => ⟨hb.elim (fun h => h.2.elim) id, rfl⟩, fun _ _ _ h => by cases h⟩
    have hok2 := hok
    unfold Pv.qF at hres
    cases hres with
    | cons k1 hres => cases hres with
     | cons k2 hres => cases hres with
      | cons k3 hres => cases hres with
       | cons k4 hres =>
        cases hres
        cases k1
        cases k4
        cases k2 with
        | sl r2 _ _ => cases k3 with
         | sl r3 _ _ =>
          obtain ⟨_, A1, c1, rfl, _⟩ := r2
          obtain ⟨_, A2, c2, rfl, _⟩ := r3
          exact ⟨_, _, _, _, _, _, _, _, _, _, hrun, rfl, hok2⟩
 ·obtain ⟨l', c, rfl, h4, rfl⟩ := h3
  refine .inr ⟨c, _, hgo.2 l' c h1.2 (List.nil_prefix) ?_, rfl⟩
  have h5 : Pv.logO log (l' ++ [c]) = none := h2
  rw [Pv.vJ, List.getElem?_eq_none_iff] at h5
  omega
theorem next_any (seed m : List UInt8) (hs : seed.length = 16) (hm : m.length = 16) (h : Int) (lv : Value) (log : List Res) (w : World) (hM : ShaMem w) (hl : Reads w 2 lv log.length (logCells log)) :
  Calls Tryz.prog 6 #[.agg (seed.map u8v).toArray, .int .i64 h, .agg (m.map u8v).toArray, lv] w fun e w' => Ext w w' ∧ NextP seed m h log w e w' := by
 have HSZ := hide (show (seed.map u8v).toArray.size = 16 ∧ (m.map u8v).toArray.size = 16 from ⟨by simpa using hs, by simpa using hm⟩)
 have HR := hide (fun W => sign_clo (seed.map u8v).toArray (m.map u8v).toArray h W (by simpa using hs) (by simpa using hm))
 have HL := hide (And.intro hM hl)
 have HS := hide (And.intro hs hm)
 obtain ⟨_, B, c, rfl, _, _, _⟩ := hl
 obtain ⟨arr, harr⟩ : ∃ x, (seed.map u8v).toArray = x := ⟨_, rfl⟩
 obtain ⟨mrr, hmrr⟩ : ∃ x, (m.map u8v).toArray = x := ⟨_, rfl⟩
 rw [harr] at HSZ HR ⊢
 rw [hmrr] at HSZ HR ⊢
 have HA := hide (And.intro harr hmrr)
 clear harr hmrr hM hs hm
 go_enter Tryz.func6, Tryz.ntmps6
 go_upto_region 1 with fail
 have HZ := hide (show Ext w ((((w.alloc (.cells arr 23)).alloc (.cells mrr 23)).alloc (.cells #[.int .i64 0, .int .i64 0, .int .i64 0, .string { data := #[] }] 29)).alloc (.cells #[.int .i64 0, .slice none 0 0, .slice none 0 0, .int .i64 0] 35)) ∧ Blk ((((w.alloc (.cells arr 23)).alloc (.cells mrr 23)).alloc (.cells #[.int .i64 0, .int .i64 0, .int .i64 0, .string { data := #[] }] 29)).alloc (.cells #[.int .i64 0, .slice none 0 0, .slice none 0 0, .int .i64 0] 35)) w.heap.size 23 arr ∧
   Blk ((((w.alloc (.cells arr 23)).alloc (.cells mrr 23)).alloc (.cells #[.int .i64 0, .int .i64 0, .int .i64 0, .string { data := #[] }] 29)).alloc (.cells #[.int .i64 0, .slice none 0 0, .slice none 0 0, .int .i64 0] 35)) (w.heap.size + 1) 23 mrr ∧
   Blk ((((w.alloc (.cells arr 23)).alloc (.cells mrr 23)).alloc (.cells #[.int .i64 0, .int .i64 0, .int .i64 0, .string { data := #[] }] 29)).alloc (.cells #[.int .i64 0, .slice none 0 0, .slice none 0 0, .int .i64 0] 35)) (w.heap.size + 1 + 1) 29 #[.int .i64 0, .int .i64 0, .int .i64 0, .string { data := #[] }] ∧
   Blk ((((w.alloc (.cells arr 23)).alloc (.cells mrr 23)).alloc (.cells #[.int .i64 0, .int .i64 0, .int .i64 0, .string { data := #[] }] 29)).alloc (.cells #[.int .i64 0, .slice none 0 0, .slice none 0 0, .int .i64 0] 35)) (w.heap.size + 1 + 1 + 1) 35 #[.int .i64 0, .slice none 0 0, .slice none 0 0, .int .i64 0] ∧
   ((((w.alloc (.cells arr 23)).alloc (.cells mrr 23)).alloc (.cells #[.int .i64 0, .int .i64 0, .int .i64 0, .string { data := #[] }] 29)).alloc (.cells #[.int .i64 0, .slice none 0 0, .slice none 0 0, .int .i64 0] 35)).heap.size = w.heap.size + 4
  from ⟨((((Ext.refl w).alloc _).alloc _).alloc _).alloc _, (((Blk.new w _ _).alloc _).alloc _).alloc _, ((Blk.new' _ _ _ (by simp)).alloc _).alloc _, (Blk.new' _ _ _ (by simp)).alloc _, Blk.new' _ _ _ (by simp), by simp⟩)
 generalize hW0 : ((((w.alloc (.cells arr 23)).alloc (.cells mrr 23)).alloc (.cells #[.int .i64 0, .int .i64 0, .int .i64 0, .string { data := #[] }] 29)).alloc (.cells #[.int .i64 0, .slice none 0 0, .slice none 0 0, .int .i64 0] 35)) = W0 at *
 clear hW0
 go_wp2_with (first
  | (refine aZ (ty := 23) (t := 23) (x := .tmp 4) rfl rfl aC rfl (cs := arr) (aA HZ).2.1 (aA HSZ).1 ?_)
  | (refine aZ (ty := 23) (t := 23) (x := .tmp 6) rfl rfl aC rfl (cs := mrr) (aA HZ).2.2.1 (aA HSZ).2 ?_)
  | (go_at_call 18; refine (aA HR W0).mono ?_; rintro e w1 ⟨rfl, k1, k2, k3, k4, k5⟩; have H1 := hide (And.intro k1 (And.intro k2 (And.intro k3 (And.intro k4 k5)))); clear k1 k2 k3 k4 k5))
 obtain ⟨_, k2, k3, k4, k5⟩ := And.intro trivial (aA H1)
 obtain ⟨z1, z2, z3, z4, z5, z6⟩ := aA HZ
 obtain ⟨hM, hl⟩ := aA HL
 have hsz : W0.heap.size + 3 = w1.heap.size := k3.symm
 have hl1 : Reads w1 2 (.slice B log.length c) log.length (logCells log) := (hl.ext z1).ext k2
 refine (runS_any (p := Prg.signI h) 32 _ _ log (fun p ys wz => Pv.RL { w := wz, ok := fun b => w1.heap.size + 5 ≤ b, env := fun _ => none } (Pv.qF (Pv.sgO seed h m p).1 ++ [.lit (.int .i64 (Pv.sgO seed h m p).2)]) ys.toList) W0.heap.size w1 hl1 (fun args w => by kernel_rfl) (fun p ys wa wb hv hc => ?_) (fun wa hE hsz2 hR => ?_)).mono ?_
 ·exact hv.le ⟨hc.size, fun b hb hb2 => ⟨hb2, hc.block b hb (fun hh => by omega)⟩, fun _ _ _ h => by cases h⟩
 ·have hq := aQt seed m (aA HS).1 (aA HS).2 h (.slice B log.length c) log W0.heap.size w1 wa hE (by omega) (fun k hk hn => ?_) (fun w' hc => ?_) (by rw [(aA HA).1]; exact k4) k5.1 (by rw [(aA HA).2]; exact k5.2) (w1.heap.size + 1 + 1 + 1 + 1) (by omega) w1.heap.size (Nat.le_refl _) _ hR
  ·refine hq.mono ?_
   rintro e w2 ⟨hc, hq⟩
   refine ⟨hc, ?_⟩
   rcases hq with ⟨p, i, z, A1, n1, c1, A2, n2, c2, er, q1, q2, q3⟩ | hq
   ·exact .inl ⟨p, i, z, A1, n1, c1, A2, n2, c2, er, q1, q2, q3.le ⟨Nat.le_refl _, fun b _ hb => ⟨by omega, rfl⟩, fun _ _ _ h => by cases h⟩⟩
   ·exact .inr hq
  ·have := hl.own_lt (by omega) hn k hk
   omega
  ·exact hM.past (by omega) (((hM.ext z1).ext k2).ext hE) hc
 rintro e w2 ⟨hc, hq⟩
 have hX : Hid (Ext w w2) := hide ((z1.trans k2).trans' hc (fun _ _ h => h) (fun i hi e => by omega))
 have hA2 := hide ((z4.ext k2).chg hc (by omega))
 have hO2 := hide ((z5.ext k2).chg hc (by omega))
 obtain ⟨a0, a1, a2, a3, fA, lA⟩ := (aA hA2).cells4
 obtain ⟨o0, o1, o2, o3, fO, lO⟩ := (aA hO2).cells4
 have HSZ2 := hide (show w1.heap.size ≤ w2.heap.size ∧ w.heap.size + 4 ≤ w1.heap.size from ⟨hc.size, by omega⟩)
 rcases hq with ⟨p, i, z, A1, n1, c1, A2, n2, c2, er, hr, rfl, hv⟩ | ⟨cc, i, hr, rfl⟩
 ·have HV := hide (And.intro hr hv)
  clear hr hv hc hl1 hsz hM hl z1 z2 z3 z4 z5 z6 k2 k3 k4 k5 H1 HZ HL HR
  go_wp2
  refine bodyPost_ret (v := .tuple #[.agg #[.int .i64 0, .int .i64 0, .int .i64 0, .string bF], .agg #[.int .i64 z, .slice A1 n1 c1, .slice A2 n2 c2, .int .i64 er], .bool true]) (by simp [results, Tryz.results6, go_sem, a0, a1, a2, a3, o0, o1, o2, o3]) rfl ⟨?_, ?_⟩
  ·have hx1 := aA hX
   repeat' (first | (with_reducible exact Chg.refl _ _) | (with_reducible exact Ext.refl _) | (with_reducible assumption) | (with_reducible refine Chg.alloc ?_ _) | (with_reducible refine Chg.drew ?_) | (with_reducible refine Chg.drewN ?_ _) | (with_reducible refine Chg.setCell ?_ ?_ _) | (with_reducible refine Ext.alloc ?_ _) | (with_reducible refine Ext.drew ?_) | (with_reducible refine Ext.drewN ?_ _) | (with_reducible refine Ext.setCell ?_ ?_ _) | (simp; done) | (simp; omega) | omega)
  ·refine .inl ⟨p, i, z, A1, n1, c1, A2, n2, c2, er, (aA HV).1, rfl, ?_⟩
   have hz := aA HSZ2
   refine (aA HV).2.le ?_
   generalize hw3 : World.setCell _ _ _ = w3
   have hcc : Chg (fun k => k = w.heap.size + 1 + 1 ∨ k = w.heap.size + 1 + 1 + 1) w2 w3 := by
    rw [← hw3]
    repeat' (first | (with_reducible exact Chg.refl _ _) | (with_reducible exact Ext.refl _) | (with_reducible assumption) | (with_reducible refine Chg.alloc ?_ _) | (with_reducible refine Chg.drew ?_) | (with_reducible refine Chg.drewN ?_ _) | (with_reducible refine Chg.setCell ?_ ?_ _) | (with_reducible refine Ext.alloc ?_ _) | (with_reducible refine Ext.drew ?_) | (with_reducible refine Ext.drewN ?_ _) | (with_reducible refine Ext.setCell ?_ ?_ _) | (simp; done) | (simp; omega) | omega)
   exact ⟨hcc.size, fun b hb (hok : w1.heap.size + 5 ≤ b) => ⟨(by show w.heap.size ≤ b; omega), hcc.block b hb (fun hh => by omega)⟩, fun _ _ _ h => by cases h⟩
 ·have HV := hide hr
  clear hr hc hl1 hsz hM hl z1 z2 z3 z4 z5 z6 k2 k3 k4 k5 H1 HZ HL HR
  obtain ⟨ck, cb, cc', cx⟩ := cc
  simp only [Acc.v]
  go_wp2
  refine bodyPost_ret (v := .tuple #[.agg #[.int .i64 ck, .int .i64 cb, .int .i64 cc', .string cx], .agg #[.int .i64 0, .slice none 0 0, .slice none 0 0, .int .i64 0], .bool false]) (by simp [results, Tryz.results6, go_sem, a0, a1, a2, a3, o0, o1, o2, o3]) rfl ⟨?_, ?_⟩
  ·have hx1 := aA hX
   repeat' (first | (with_reducible exact Chg.refl _ _) | (with_reducible exact Ext.refl _) | (with_reducible assumption) | (with_reducible refine Chg.alloc ?_ _) | (with_reducible refine Chg.drew ?_) | (with_reducible refine Chg.drewN ?_ _) | (with_reducible refine Chg.setCell ?_ ?_ _) | (with_reducible refine Ext.alloc ?_ _) | (with_reducible refine Ext.drew ?_) | (with_reducible refine Ext.drewN ?_ _) | (with_reducible refine Ext.setCell ?_ ?_ _) | (simp; done) | (simp; omega) | omega)
  ·exact .inr ⟨_, i, aA HV, rfl⟩
theorem Blk.loadVar_ {P : Program} {w : World} {b : Nat} {t : TypeId} {cs : Array Value} (hB : Blk w b t cs) {T : TypeId} {n : Nat} (W : Wide P T n) (hn : cs.size = n) : (loadVar T ⟨b, 0, none⟩).run P w = .ok (.agg cs) w := by
 obtain ⟨d, hu, hd⟩ := W.und
 have := run_loadVar_mid (P := P) w b 0 T cs.toList d hB.range hu hd (by rw [Array.length_toList, hn]; exact W.info)
 rw [Array.toArray_toList] at this
 exact this
theorem nG {P : Program} {fn : Func} {i j k : Tmp} {T1 T2 : TypeId} {n1 n2 : Nat} (W1 : Wide P T1 n1) (W2 : Wide P T2 n2) (hf : fn.results = #[.cell i T1, .cell j T2, .tmp k]) {tmps : Array Value} {w : World} {b1 b2 : Nat} {t1 t2 : TypeId} {c1 c2 : Array Value}
  (hB1 : Blk w b1 t1 c1) (hB2 : Blk w b2 t2 c2) (k1 : c1.size = n1) (k2 : c2.size = n2) (ei : tmps.getD i undef = .pointer (some ⟨b1, 0, none⟩)) (ej : tmps.getD j undef = .pointer (some ⟨b2, 0, none⟩)) :
  (results fn tmps).run P w = .ok (.tuple #[.agg c1, .agg c2, tmps.getD k undef]) w := by
 have h1 := hB1.loadVar_ W1 k1
 have h2 := hB2.loadVar_ W2 k2
 simp only [Array.getD_eq_getD_getElem?] at ei ej
 simp [results, hf, ei, ej, asAddr, h1, h2]
theorem aDh {P : Program} (hm : P.follows .mixedOrders = true) {T1 T2 T3 : TypeId} {n1 n2 : Nat} (W1 : Wide P T1 n1) (W2 : Wide P T2 n2) {id : Nat} {s1 s2 d1 d2 c : Operand} {x y z : Tmp} {p : String}
  {a : Act} {w : World} {K : Exit → Act → World → Prop} {t1 t2 t3 t4 : TypeId} {b1 b2 b3 b4 : Nat} {c1 c2 o1 o2 : Array Value}
  (hB1 : Blk w b1 t1 c1) (hB2 : Blk w b2 t2 c2) (hB3 : Blk w b3 t3 o1) (hB4 : Blk w b4 t4 o2)
  (k1 : c1.size = n1) (k2 : c2.size = n2) (k3 : o1.size = n1) (k4 : o2.size = n2) (l1 : c1.all (·.oneCell') = true) (l2 : c2.all (·.oneCell') = true)
  (f1 : ¬ b1 = b3 ∧ ¬ b1 = b4 ∧ ¬ b2 = b3 ∧ ¬ b2 = b4 ∧ ¬ b3 = b4)
  (e1 : a.eval s1 = .pointer (some ⟨b1, 0, none⟩)) (e2 : a.eval s2 = .pointer (some ⟨b2, 0, none⟩)) (e3 : a.eval d1 = .pointer (some ⟨b3, 0, none⟩)) (e4 : a.eval d2 = .pointer (some ⟨b4, 0, none⟩))
  (hx : x < a.tmps.size) (hy : y < a.tmps.size) (hxy : x ≠ y)
  (g1 : s1 ≠ .tmp y) (g2 : s2 ≠ .tmp x) (g3 : d1 ≠ .tmp x ∧ d1 ≠ .tmp y) (g4 : d2 ≠ .tmp x ∧ d2 ≠ .tmp y) (g5 : c ≠ .tmp x ∧ c ≠ .tmp y)
  (h : ∀ w', Chg (fun k => k = b3 ∨ k = b4) w w' → w'.heap.size = w.heap.size → Blk w' b3 t3 c1 → Blk w' b4 t4 c2 → K .normal (((a.put (some x) (.agg c1)).put (some y) (.agg c2)).put (some z) (a.eval c)) w') :
  (Code.region id #[⟨some x, .load T1 s1, T1, p, #[], none⟩,
   ⟨some y, .load T2 s2, T2, p, #[⟨2, .gcOnly .lateStores⟩], none⟩,
   ⟨none, .store T1 d1 (.tmp x), 0, p, #[⟨0, .data⟩, ⟨0, .phase⟩, ⟨1, .textOnly .lateStores⟩], none⟩,
   ⟨none, .store T2 d2 (.tmp y), 0, p, #[⟨1, .data⟩, ⟨2, .chain⟩, ⟨0, .phase⟩, ⟨1, .phase⟩, ⟨2, .phase⟩], none⟩,
   ⟨some z, .assign c, T3, p, #[⟨3, .chain⟩, ⟨0, .phase⟩, ⟨1, .phase⟩, ⟨2, .phase⟩, ⟨3, .phase⟩], none⟩] true).wp P K a w := by
 have vx : ∀ (b : Act) v, x < b.tmps.size → (b.put (some x) v).eval (.tmp x) = v := fun b v hb => by simp [Act.eval, Act.put, hb]
 have vy : ∀ (b : Act) v, y < b.tmps.size → (b.put (some y) v).eval (.tmp y) = v := fun b v hb => by simp [Act.eval, Act.put, hb]
 have sz : ∀ (b : Act) o v, (b.put o v).tmps.size = b.tmps.size := fun b o v => by cases o <;> simp [Act.put]
 have ne : ∀ (b : Act) (q : Operand) (i : Tmp) v, q ≠ .tmp i → (b.put (some i) v).eval q = b.eval q := fun b q i v hq => Act.eval_put fun d hd => by cases hd; exact hq
 have tne : ∀ (i j : Tmp), i ≠ j → (Operand.tmp i ≠ .tmp j) := fun i j h e => h (by cases e; rfl)
 have comm := Act.put_comm a (x := some x) (y := some y) (.agg c1) (.agg c2) (fun d hd e => hxy (by cases hd; cases e; rfl))
 obtain ⟨f13, f14, f23, f24, f34⟩ := f1
 have leaf : ∀ w1, Chg (fun k => k = b3) w w1 → w1.heap.size = w.heap.size → Blk w1 b3 t3 c1 → Blk w1 b4 t4 o2 →
   wpAny P .any #[⟨some x, .load T1 s1, T1, p, #[], none⟩,
   ⟨some y, .load T2 s2, T2, p, #[⟨2, .gcOnly .lateStores⟩], none⟩,
   ⟨none, .store T1 d1 (.tmp x), 0, p, #[⟨0, .data⟩, ⟨0, .phase⟩, ⟨1, .textOnly .lateStores⟩], none⟩,
   ⟨none, .store T2 d2 (.tmp y), 0, p, #[⟨1, .data⟩, ⟨2, .chain⟩, ⟨0, .phase⟩, ⟨1, .phase⟩, ⟨2, .phase⟩], none⟩,
   ⟨some z, .assign c, T3, p, #[⟨3, .chain⟩, ⟨0, .phase⟩, ⟨1, .phase⟩, ⟨2, .phase⟩, ⟨3, .phase⟩], none⟩] K 2 #[true, true, true, false, false] ((a.put (some x) (.agg c1)).put (some y) (.agg c2)) w1 := by
  intro w1 hc1 hz1 hb3 hb4
  refine wpAny_ready (rs := [3]) (by kernel_rfl) (by simp) (AllReady.cons rfl (fun J hJ => ?_) AllReady.nil)
  refine eP (t := t4) (old := o2) rfl rfl W2 ?_ ?_ hb4 k4 k2 l2 fun w2 hb4' hc2 hz2 => hJ _ _ ?_
  ·rw [ne _ _ _ _ g4.2, ne _ _ _ _ g4.1]; exact e4
  ·exact vy _ _ (by rw [sz]; exact hy)
  refine wpAny_ready (rs := [4]) (by kernel_rfl) (by simp) (AllReady.cons rfl (fun J hJ => ?_) AllReady.nil)
  rw [if_pos (by rfl)]
  refine BigFrame.wp_assign c rfl (hJ _ _ ?_)
  refine wpAny_done (by kernel_rfl) ?_ _
  have ec : (((a.put (some x) (.agg c1)).put (some y) (.agg c2)).put none undef).eval c = a.eval c :=
   (ne (a.put (some x) (.agg c1)) c y _ g5.2).trans (ne a c x _ g5.1)
  show K .normal ((((a.put (some x) (.agg c1)).put (some y) (.agg c2)).put none undef).put (some z) ((((a.put (some x) (.agg c1)).put (some y) (.agg c2)).put none undef).eval c)) w2
  rw [ec]
  refine h w2 ?_ (by rw [hz2, hz1]) (hb3.chg hc2 f34) hb4'
  exact (hc1.mono fun k _ hk => .inl hk).trans (hc2.mono fun k _ hk => .inr hk)
 have s3 : ∀ (fuel : Nat) (l : Array Bool) (J : Act → World → Prop) (b : Act), b.eval d1 = a.eval d1 → b.eval (.tmp x) = .agg c1 →
   (∀ w1, Chg (fun k => k = b3) w w1 → w1.heap.size = w.heap.size → Blk w1 b3 t3 c1 → Blk w1 b4 t4 o2 → Blk w1 b2 t2 c2 → J (b.put none undef) w1) →
   if Region.wanted ⟨none, .store T1 d1 (.tmp x), 0, p, #[⟨0, .data⟩, ⟨0, .phase⟩, ⟨1, .textOnly .lateStores⟩], none⟩ (yielded #[⟨some x, .load T1 s1, T1, p, #[], none⟩,
   ⟨some y, .load T2 s2, T2, p, #[⟨2, .gcOnly .lateStores⟩], none⟩,
   ⟨none, .store T1 d1 (.tmp x), 0, p, #[⟨0, .data⟩, ⟨0, .phase⟩, ⟨1, .textOnly .lateStores⟩], none⟩,
   ⟨none, .store T2 d2 (.tmp y), 0, p, #[⟨1, .data⟩, ⟨2, .chain⟩, ⟨0, .phase⟩, ⟨1, .phase⟩, ⟨2, .phase⟩], none⟩,
   ⟨some z, .assign c, T3, p, #[⟨3, .chain⟩, ⟨0, .phase⟩, ⟨1, .phase⟩, ⟨2, .phase⟩, ⟨3, .phase⟩], none⟩] b.tmps) = true
    then Oper.wp P ⟨none, .store T1 d1 (.tmp x), 0, p, #[⟨0, .data⟩, ⟨0, .phase⟩, ⟨1, .textOnly .lateStores⟩], none⟩ b w.drew J K else J (b.put none undef) w.drew := by
  intro fuel l J b hd hx' hK
  refine eP (t := t3) (old := o1) rfl rfl W1 (by rw [hd]; exact e3) hx' hB3.drew k3 k1 l1 fun w1 hb hc hz => ?_
  have hc' : Chg (fun k => k = b3) w w1 := (Chg.drew (Chg.refl _ _)).trans hc
  exact hK w1 hc' (hz.trans rfl) hb (hB4.chg hc' fun e => f34 e.symm) (hB2.chg hc' f23)
 refine wp_region_any hm ?_
 show wpAny P .any _ K 5 #[false, false, false, false, false] a w.drew
 refine wpAny_ready (rs := [0, 1]) (by kernel_rfl) (by simp) (AllReady.cons rfl (fun J hJ => ?_) (AllReady.cons rfl (fun J hJ => ?_) AllReady.nil))
 ·refine oC (t := t1) rfl rfl W1 e1 hB1.drew k1 (hJ _ _ ?_)
  refine wpAny_ready (rs := [1, 2]) (by kernel_rfl) (by simp) (AllReady.cons rfl (fun J hJ => ?_) (AllReady.cons rfl (fun J hJ => ?_) AllReady.nil))
  ·refine oC (t := t2) rfl rfl W2 ((ne _ _ _ _ g2).trans e2) hB2.drew k2 (hJ _ _ ?_)
   refine wpAny_ready (rs := [2]) (by kernel_rfl) (by simp) (AllReady.cons rfl (fun J hJ => ?_) AllReady.nil)
   refine s3 2 #[] J _ ?_ ?_ fun w1 h1 h2 h3 h4 _ => hJ _ _ (leaf w1 h1 h2 h3 h4)
   ·exact (ne (a.put (some x) (.agg c1)) d1 y _ g3.2).trans (ne a d1 x _ g3.1)
   ·exact (ne (a.put (some x) (.agg c1)) (.tmp x) y _ (tne _ _ hxy)).trans (vx _ _ hx)
  ·refine s3 2 #[] J _ (ne _ _ _ _ g3.1) (vx _ _ hx) fun w1 h1 h2 h3 h4 h5 => hJ _ _ ?_
   refine wpAny_ready (rs := [1]) (by kernel_rfl) (by simp) (AllReady.cons rfl (fun J hJ => ?_) AllReady.nil)
   refine oC (t := t2) rfl rfl W2 ((ne _ _ _ _ g2).trans e2) h5 k2 (hJ _ _ (leaf w1 h1 h2 h3 h4))
 ·refine oC (t := t2) rfl rfl W2 e2 hB2.drew k2 (hJ _ _ ?_)
  refine wpAny_ready (rs := [0]) (by kernel_rfl) (by simp) (AllReady.cons rfl (fun J hJ => ?_) AllReady.nil)
  refine oC (t := t1) rfl rfl W1 ((ne _ _ _ _ g1).trans e1) hB1.drew k1 (hJ _ _ ?_)
  have comm' : (a.put (some y) (.agg c2)).put (some x) (.agg c1) = (a.put (some x) (.agg c1)).put (some y) (.agg c2) := comm.symm
  show wpAny _ _ _ _ _ _ ((a.put (some y) (.agg c2)).put (some x) (.agg c1)) _
  rw [comm']
  refine wpAny_ready (rs := [2]) (by kernel_rfl) (by simp) (AllReady.cons rfl (fun J hJ => ?_) AllReady.nil)
  refine s3 2 #[] J _ ?_ ?_ fun w1 h1 h2 h3 h4 _ => hJ _ _ (leaf w1 h1 h2 h3 h4)
  ·exact (ne (a.put (some x) (.agg c1)) d1 y _ g3.2).trans (ne a d1 x _ g3.1)
  ·exact (ne (a.put (some x) (.agg c1)) (.tmp x) y _ (tne _ _ hxy)).trans (vx _ _ hx)
theorem jW : Wide Tryz.prog 54 18 := ⟨⟨_, Tryz.underlying54, rfl⟩, by kernel_rfl⟩
theorem iV : Wide Tryz.prog 79 2 := ⟨⟨_, Tryz.underlying79, rfl⟩, by kernel_rfl⟩
def hw0 : Array Value := #[.slice none 0 0, .slice none 0 0, .int .u8 0, .int .u8 0, .int .u8 0, .int .u8 0, .int .u8 0, .int .u8 0, .int .u8 0, .int .u8 0, .int .u8 0, .int .u8 0, .int .u8 0, .int .u8 0, .int .u8 0, .int .u8 0, .int .u8 0, .int .u8 0]
structure DoVars (h : Nat) (H : Array Value) (kd bk cl : Int) (bs : ByteArray) (cut : Bool) (fb : Int) (noise : Bool) (w : World) : Prop where
 b3 : Blk w h 54 H
 b4 : Blk w (h + 1) 29 #[.int .i64 kd, .int .i64 bk, .int .i64 cl, .string bs]
 b5 : Blk w (h + 1 + 1) 45 #[.bool cut, .int .i64 fb, .bool noise]
 b6 : ∃ old, Blk w (h + 1 + 1 + 1) 54 old ∧ old.size = 18
 b7 : Blk w (h + 1 + 1 + 1 + 1) 79 #[.int .i64 0, .string { data := #[] }]
 b9 : Blk w (h + 1 + 1 + 1 + 1 + 1) 54 H
theorem DoVars.ext {h : Nat} {H : Array Value} {kd bk cl : Int} {bs : ByteArray} {cut : Bool} {fb : Int} {noise : Bool} {w w' : World} (d : DoVars h H kd bk cl bs cut fb noise w) (e : Ext w w') : DoVars h H kd bk cl bs cut fb noise w' := by
 obtain ⟨old, h6, hs⟩ := d.b6
 exact ⟨d.b3.ext e, d.b4.ext e, d.b5.ext e, ⟨old, h6.ext e, hs⟩, d.b7.ext e, d.b9.ext e⟩
theorem aMd (w : World) (H : Array Value) (kd bk cl : Int) (bs : ByteArray) (cut : Bool) (fb : Int) (noise : Bool) (wa : World) (hb9 : Blk wa (w.heap.size + 1 + 1 + 1 + 1 + 1) 54 H)
  (hc : Chg (fun k => k = w.heap.size + 1 + 1 + 1 + 1 + 1) ((((((w.alloc (.cells H 54)).alloc (.cells #[.int .i64 kd, .int .i64 bk, .int .i64 cl, .string bs] 29)).alloc (.cells #[.bool cut, .int .i64 fb, .bool noise] 45)).alloc (.cells hw0 54)).alloc (.cells #[.int .i64 0, .string { data := #[] }] 79)).alloc (.cells hw0 54)) wa) :
  Ext w wa ∧ DoVars w.heap.size H kd bk cl bs cut fb noise wa := by
 refine ⟨Chg.trans' (S := Non) (T := fun k => k = w.heap.size + 1 + 1 + 1 + 1 + 1) ?_ hc (fun _ _ h => h) (fun i hi e => by omega), ?_⟩
 ·repeat' (first | (with_reducible exact Chg.refl _ _) | (with_reducible exact Ext.refl _) | (with_reducible assumption) | (with_reducible refine Chg.alloc ?_ _) | (with_reducible refine Chg.drew ?_) | (with_reducible refine Chg.drewN ?_ _) | (with_reducible refine Chg.setCell ?_ ?_ _) | (with_reducible refine Ext.alloc ?_ _) | (with_reducible refine Ext.drew ?_) | (with_reducible refine Ext.drewN ?_ _) | (with_reducible refine Ext.setCell ?_ ?_ _) | (simp; done) | (simp; omega) | omega)
 ·refine ⟨?_, ?_, ?_, ⟨hw0, ?_, rfl⟩, ?_, hb9⟩
  ·exact ((((((Blk.new w _ _).alloc _).alloc _).alloc _).alloc _).alloc _).chg hc (by omega)
  ·exact (((((Blk.new' _ _ _ (by simp)).alloc _).alloc _).alloc _).alloc _).chg hc (by omega)
  ·exact ((((Blk.new' _ _ _ (by simp)).alloc _).alloc _).alloc _).chg hc (by omega)
  ·exact (((Blk.new' _ _ _ (by simp)).alloc _).alloc _).chg hc (by omega)
  ·exact ((Blk.new' _ _ _ (by simp)).alloc _).chg hc (by omega)
theorem dev_read (H : Array Value) (fv : Value) (hH : H.size = 18) (hH1 : H.all (·.oneCell') = true) (hH0 : H[0]? = some fv) (banks : List (List Int)) (bank cell : Nat) (cut noise : Bool) (fb : Int) (w : World) (h : FusesIn w fv banks) (hb : bank < banks.length) (hc : cell < banks[bank].length) :
    Calls Tryz.prog 24 #[.agg H, .agg #[.int .i64 1, .int .i64 (bank : Int), .int .i64 (cell : Int), .string { data := #[] }], .agg #[.bool cut, .int .i64 fb, .bool noise]] w fun e w' =>
      e = .returned (.tuple #[.agg H, .agg #[.int .i64 (if cut then 0 else fG banks[bank][cell] noise), .string { data := #[] }], .int .i64 0]) ∧ Ext w w' := by
  have HF := hide h
  obtain ⟨_, ⟨_, A, c, rfl, _⟩, _⟩ := h.ex
  clear h
  have HH := hide (And.intro hH hH1)
  clear hH hH1
  go_enter Tryz.func24, Tryz.ntmps24
  go_wp2_with (first
    | ((with_reducible show wpList _ _ _ (_ :: _) _ _)
       (refine aZ (ty := 54) (t := 54) (x := .tmp 3) rfl rfl jW rfl ?_ (aA HH).1 ?_)
       · exact ((((Blk.new w _ _).alloc _).alloc _).alloc _).alloc _)
    | ((with_reducible show wpList _ _ _ (_ :: _) _ _)
       refine aH (ty := 54) (t := 54) (old := hw0) (x := .tmp 9) (y := .tmp 20) rfl rfl jW rfl rfl ?_ ?_ (aA HH).1 (aA HH).2 ?_
       · exact Blk.new' _ _ _ (by simp)
       · rfl
       intro wa hb9 hca hsa
       have hD := hide (aMd w H 1 bank cell { data := #[] } cut fb noise wa hb9 hca)
       have a0 := (aA hD).2.b4.cells4
       have b0 := (aA hD).2.b5.cells3
       have c0 := ((aA hD).2.b3.cell 0).trans hH0
       have hsz : wa.heap.size = w.heap.size + 6 := by rw [hsa]; simp
       clear hb9 hca hsa)
    | (go_at_call 62; fail))
  refine (aHd _ banks bank cell noise _ ((aA HF).ext ?_) hb hc).mono ?_
  · have := (aA hD).1
    repeat' (first | (with_reducible exact Chg.refl _ _) | (with_reducible exact Ext.refl _) | (with_reducible assumption) | (with_reducible refine Chg.alloc ?_ _) | (with_reducible refine Chg.drew ?_) | (with_reducible refine Chg.drewN ?_ _) | (with_reducible refine Chg.setCell ?_ ?_ _) | (with_reducible refine Ext.alloc ?_ _) | (with_reducible refine Ext.drew ?_) | (with_reducible refine Ext.drewN ?_ _) | (with_reducible refine Ext.setCell ?_ ?_ _) | (simp; done) | (simp; omega) | omega)
  rintro e w2 ⟨rfl, hE⟩
  generalize hxx : fG banks[bank][cell] noise = x at *
  have HX := hide hxx
  clear hxx
  have hD2 := hide (And.intro ((aA hD).1.trans ((Chg.alloc (Ext.refl _) _ : Ext wa (wa.alloc (.cells #[.int .i64 0, .string { data := #[] }] 79))).trans hE)) ((aA hD).2.ext ((Chg.alloc (Ext.refl _) _ : Ext wa (wa.alloc (.cells #[.int .i64 0, .string { data := #[] }] 79))).trans hE)))
  have hR := (Blk.new' wa 79 #[.int .i64 0, .string { data := #[] }] (g := w.heap.size + 1 + 1 + 1 + 1 + 1 + 1) (by omega)).ext hE
  have r0 := hR.cells2
  have HR := hide hR
  have b1 := (aA hD2).2.b5.cells3
  clear hE a0 b0 c0 hD hR HF
  cases cut with
  | true =>
    go_wp2
    generalize hW : World.setCell _ _ _ = wz
    have zb : Blk wz (w.heap.size + 6) 79 #[.int .i64 0, .string { data := #[] }] := by
      subst hW
      exact (((aA HR).set_ 0 _).set_ 0 _).set_ 1 _
    have ze : Ext w wz := by
      have := (aA hD2).1
      subst hW
      repeat' (first | (with_reducible exact Chg.refl _ _) | (with_reducible exact Ext.refl _) | (with_reducible assumption) | (with_reducible refine Chg.alloc ?_ _) | (with_reducible refine Chg.drew ?_) | (with_reducible refine Chg.drewN ?_ _) | (with_reducible refine Chg.setCell ?_ ?_ _) | (with_reducible refine Ext.alloc ?_ _) | (with_reducible refine Ext.drew ?_) | (with_reducible refine Ext.drewN ?_ _) | (with_reducible refine Ext.setCell ?_ ?_ _) | (simp; done) | (simp; omega) | omega)
    have z9 : Blk wz (w.heap.size + 1 + 1 + 1 + 1 + 1) 54 H := by
      subst hW
      exact (((aA hD2).2.b9.far (by simp) _).far (by simp) _).far (by simp) _
    have zt : Blk wz (w.heap.size + 1 + 1 + 1 + 1) 79 #[.int .i64 0, .string { data := #[] }] := by
      subst hW
      exact (((aA hD2).2.b7.far (by simp) _).far (by simp) _).far (by simp) _
    obtain ⟨zold, zo, zs⟩ := (aA hD2).2.b6
    have zo : Blk wz (w.heap.size + 1 + 1 + 1) 54 zold := by
      subst hW
      exact ((zo.far (by simp) _).far (by simp) _).far (by simp) _
    clear hW r0 b1 HR hD2
    obtain ⟨hN, hA⟩ := aA HH
    clear HH
    refine aDh (by kernel_rfl) jW iV z9 zb zo zt hN rfl zs rfl hA (by simp; exact ⟨rfl, rfl⟩) ⟨by omega, by omega, by omega, by omega, by omega⟩ rfl rfl rfl rfl (by simp) (by simp) (by simp) (by simp) (by simp) (by simp) (by simp) (by simp) fun w' hc hz z3 z4 => ?_
    clear z9 zb zo zt
    obtain ⟨m0, m1, mf, ml⟩ := z4.cells2
    have hE : Ext w w' := ze.trans' hc (fun _ _ h => h) (fun i hi e => by omega)
    have HE := hide hE
    have HN := hide (And.intro hN hA)
    have Z3 := hide z3
    clear hN hA z3 hE hc hz ze
    dsimp only [Exit.then]
    dsimp only [Act.put, Act.eval]
    go_wp2
    have hx := aA HX
    subst hx
    exact bodyPost_ret (nG jW iV rfl (aA Z3) z4 (aA HN).1 rfl rfl rfl) rfl ⟨rfl, aA HE⟩
  | false =>
    go_wp2
    generalize hW : World.setCell _ _ _ = wz
    have zb : Blk wz (w.heap.size + 6) 79 #[.int .i64 x, .string { data := #[] }] := by
      subst hW
      exact (aA HR).set_ 0 _
    have ze : Ext w wz := by
      have := (aA hD2).1
      subst hW
      repeat' (first | (with_reducible exact Chg.refl _ _) | (with_reducible exact Ext.refl _) | (with_reducible assumption) | (with_reducible refine Chg.alloc ?_ _) | (with_reducible refine Chg.drew ?_) | (with_reducible refine Chg.drewN ?_ _) | (with_reducible refine Chg.setCell ?_ ?_ _) | (with_reducible refine Ext.alloc ?_ _) | (with_reducible refine Ext.drew ?_) | (with_reducible refine Ext.drewN ?_ _) | (with_reducible refine Ext.setCell ?_ ?_ _) | (simp; done) | (simp; omega) | omega)
    have z9 : Blk wz (w.heap.size + 1 + 1 + 1 + 1 + 1) 54 H := by
      subst hW
      exact (aA hD2).2.b9.far (by simp) _
    have zt : Blk wz (w.heap.size + 1 + 1 + 1 + 1) 79 #[.int .i64 0, .string { data := #[] }] := by
      subst hW
      exact (aA hD2).2.b7.far (by simp) _
    obtain ⟨zold, zo, zs⟩ := (aA hD2).2.b6
    have zo : Blk wz (w.heap.size + 1 + 1 + 1) 54 zold := by
      subst hW
      exact zo.far (by simp) _
    clear hW r0 b1 HR hD2
    obtain ⟨hN, hA⟩ := aA HH
    clear HH
    refine aDh (by kernel_rfl) jW iV z9 zb zo zt hN rfl zs rfl hA (by simp; exact ⟨rfl, rfl⟩) ⟨by omega, by omega, by omega, by omega, by omega⟩ rfl rfl rfl rfl (by simp) (by simp) (by simp) (by simp) (by simp) (by simp) (by simp) (by simp) fun w' hc hz z3 z4 => ?_
    clear z9 zb zo zt
    obtain ⟨m0, m1, mf, ml⟩ := z4.cells2
    have hE : Ext w w' := ze.trans' hc (fun _ _ h => h) (fun i hi e => by omega)
    have HE := hide hE
    have HN := hide (And.intro hN hA)
    have Z3 := hide z3
    clear hN hA z3 hE hc hz ze
    dsimp only [Exit.then]
    dsimp only [Act.put, Act.eval]
    go_wp2
    have hx := aA HX
    subst hx
    exact bodyPost_ret (nG jW iV rfl (aA Z3) z4 (aA HN).1 rfl rfl rfl) rfl ⟨rfl, aA HE⟩
theorem aVb (H : Array Value) (fv : Value) (hH : H.size = 18) (hH1 : H.all (·.oneCell') = true) (hH0 : H[0]? = some fv) (banks : List (List Int)) (bank cell : Nat) (cut noise : Bool) (fb : Int) (w : World) (h : FusesIn w fv banks) (hb : bank < banks.length) (hc : cell < banks[bank].length)
    (hn : banks.length ≤ 1000) (hn2 : ∀ l ∈ banks, l.length ≤ 100000) :
    Calls Tryz.prog 24 #[.agg H, .agg #[.int .i64 2, .int .i64 (bank : Int), .int .i64 (cell : Int), .string { data := #[] }], .agg #[.bool cut, .int .i64 fb, .bool noise]] w fun e w' =>
      ∃ fv', e = .returned (.tuple #[.agg (H.setIfInBounds 0 fv'), .agg #[.int .i64 0, .string { data := #[] }], .int .i64 0]) ∧ dV w.heap.size w' fv' (banks.set bank (banks[bank].set cell (dK banks[bank][cell] cut))) ∧ Ext w w' := by
  have HF := hide h
  obtain ⟨_, ⟨_, A, c, rfl, _⟩, _⟩ := h.ex
  clear h
  have HH := hide (And.intro hH hH1)
  clear hH hH1
  go_enter Tryz.func24, Tryz.ntmps24
  go_wp2_with (first
    | ((with_reducible show wpList _ _ _ (_ :: _) _ _)
       (refine aZ (ty := 54) (t := 54) (x := .tmp 3) rfl rfl jW rfl ?_ (aA HH).1 ?_)
       · exact ((((Blk.new w _ _).alloc _).alloc _).alloc _).alloc _)
    | ((with_reducible show wpList _ _ _ (_ :: _) _ _)
       refine aH (ty := 54) (t := 54) (old := hw0) (x := .tmp 9) (y := .tmp 20) rfl rfl jW rfl rfl ?_ ?_ (aA HH).1 (aA HH).2 ?_
       · exact Blk.new' _ _ _ (by simp)
       · rfl
       intro wa hb9 hca hsa
       have hD := hide (aMd w H 2 bank cell { data := #[] } cut fb noise wa hb9 hca)
       have a0 := (aA hD).2.b4.cells4
       have b0 := (aA hD).2.b5.cells3
       have c0 := ((aA hD).2.b3.cell 0).trans hH0
       have hsz : wa.heap.size = w.heap.size + 6 := by rw [hsa]; simp
       clear hb9 hca hsa)
    | (go_at_call 62; fail))
  refine (aCf _ banks bank cell cut _ ((aA HF).ext ?_) hb hc hn hn2).mono ?_
  · have := (aA hD).1
    repeat' (first | (with_reducible exact Chg.refl _ _) | (with_reducible exact Ext.refl _) | (with_reducible assumption) | (with_reducible refine Chg.alloc ?_ _) | (with_reducible refine Chg.drew ?_) | (with_reducible refine Chg.drewN ?_ _) | (with_reducible refine Chg.setCell ?_ ?_ _) | (with_reducible refine Ext.alloc ?_ _) | (with_reducible refine Ext.drew ?_) | (with_reducible refine Ext.drewN ?_ _) | (with_reducible refine Ext.setCell ?_ ?_ _) | (simp; done) | (simp; omega) | omega)
  rintro e w2 ⟨fv', rfl, hF', hE⟩
  have hF' : dV (w.heap.size + 6 + 1) w2 fv' (banks.set bank (banks[bank].set cell (dK banks[bank][cell] cut))) := by
    rw [show w.heap.size + 6 + 1 = (wa.alloc (.cells #[.int .i64 0, .string { data := #[] }] 79)).heap.size from by simp [hsz]]
    exact hF'
  obtain ⟨_, ⟨_, A', c', rfl, _⟩, _⟩ := hF'.fuses.ex
  rw [List.length_set] at hF'
  have HF' := hide hF'
  clear hF'
  have hD2 := hide (And.intro ((aA hD).1.trans ((Chg.alloc (Ext.refl _) _ : Ext wa (wa.alloc (.cells #[.int .i64 0, .string { data := #[] }] 79))).trans hE)) ((aA hD).2.ext ((Chg.alloc (Ext.refl _) _ : Ext wa (wa.alloc (.cells #[.int .i64 0, .string { data := #[] }] 79))).trans hE)))
  have hR := (Blk.new' wa 79 #[.int .i64 0, .string { data := #[] }] (g := w.heap.size + 1 + 1 + 1 + 1 + 1 + 1) (by omega)).ext hE
  have r0 := hR.cells2
  have HR := hide hR
  have b1 := (aA hD2).2.b5.cells3
  have hsz2 : w.heap.size + 6 < w2.heap.size := (aA HR).lt
  clear hE a0 b0 c0 hD hR HF
  have k9 := ((aA hD2).2.b9.cell 0).trans hH0
  have f9 : w2.frozen? ⟨w.heap.size + 1 + 1 + 1 + 1 + 1, 0, none⟩ = false := by
    rw [(aA hD2).2.b9.frozen]
  have hs5 : w.heap.size + 1 + 1 + 1 + 1 + 1 < w2.heap.size := by omega
  cases cut with
  | true =>
    go_wp2
    generalize hW : World.alloc _ _ = wz
    have zb : Blk wz (w.heap.size + 6) 79 #[.int .i64 0, .string { data := #[] }] := by
      subst hW
      exact (((aA HR).far (by simp) _).set_ 0 _ |>.set_ 1 _).alloc _
    have ze : Ext w wz := by
      have := (aA hD2).1
      subst hW
      repeat' (first | (with_reducible exact Chg.refl _ _) | (with_reducible exact Ext.refl _) | (with_reducible assumption) | (with_reducible refine Chg.alloc ?_ _) | (with_reducible refine Chg.drew ?_) | (with_reducible refine Chg.drewN ?_ _) | (with_reducible refine Chg.setCell ?_ ?_ _) | (with_reducible refine Ext.alloc ?_ _) | (with_reducible refine Ext.drew ?_) | (with_reducible refine Ext.drewN ?_ _) | (with_reducible refine Ext.setCell ?_ ?_ _) | (simp; done) | (simp; omega) | omega)
    have z9 : Blk wz (w.heap.size + 1 + 1 + 1 + 1 + 1) 54 (H.setIfInBounds 0 (.slice A' banks.length c')) := by
      subst hW
      have z9a := (aA hD2).2.b9.set_ 0 (.slice A' banks.length c')
      repeat' (first | (with_reducible exact z9a) | (with_reducible refine Blk.alloc ?_ _) | (with_reducible refine Blk.far ?_ (by simp) _))
    have zf : dV (w.heap.size + 6 + 1) wz (.slice A' banks.length c') (banks.set bank (banks[bank].set cell (dK banks[bank][cell] true))) := (aA HF').chg (S := fun k => w.heap.size ≤ k ∧ k < w.heap.size + 7) (by
      subst hW
      repeat' (first | (with_reducible exact Chg.refl _ _) | (with_reducible exact Ext.refl _) | (with_reducible assumption) | (with_reducible refine Chg.alloc ?_ _) | (with_reducible refine Chg.drew ?_) | (with_reducible refine Chg.drewN ?_ _) | (with_reducible refine Chg.setCell ?_ ?_ _) | (with_reducible refine Ext.alloc ?_ _) | (with_reducible refine Ext.drew ?_) | (with_reducible refine Ext.drewN ?_ _) | (with_reducible refine Ext.setCell ?_ ?_ _) | (simp; done) | (simp; omega) | omega)
      ) (fun k h1 h2 => by omega)
    have zt : Blk wz (w.heap.size + 1 + 1 + 1 + 1) 79 #[.int .i64 0, .string { data := #[] }] := by
      subst hW
      have z9a := (aA hD2).2.b7
      repeat' (first | (with_reducible exact z9a) | (with_reducible refine Blk.alloc ?_ _) | (with_reducible refine Blk.far ?_ (by simp) _))
    obtain ⟨zold, zo, zs⟩ := (aA hD2).2.b6
    have zo : Blk wz (w.heap.size + 1 + 1 + 1) 54 zold := by
      subst hW
      repeat' (first | (with_reducible exact zo) | (with_reducible refine Blk.alloc ?_ _) | (with_reducible refine Blk.far ?_ (by simp) _))
    clear hW b1 HR hD2
    obtain ⟨hN0, hA0⟩ := aA HH
    have hN : (H.setIfInBounds 0 (.slice A' banks.length c')).size = 18 := by simpa using hN0
    have hA : (H.setIfInBounds 0 (.slice A' banks.length c')).all (·.oneCell') = true := by
      rw [Array.all_eq_true'] at hA0 ⊢
      intro v hv
      rcases Array.mem_or_eq_of_mem_setIfInBounds hv with h1 | rfl
      · exact hA0 _ h1
      · rfl
    clear HH hN0 hA0 HF'
    refine aDh (by kernel_rfl) jW iV z9 zb zo zt hN rfl zs rfl hA (by simp; exact ⟨rfl, rfl⟩) ⟨by omega, by omega, by omega, by omega, by omega⟩ rfl rfl rfl rfl (by simp) (by simp) (by simp) (by simp) (by simp) (by simp) (by simp) (by simp) fun w' hc hz z3 z4 => ?_
    clear z9 zb zo zt
    obtain ⟨m0, m1, mf, ml⟩ := z4.cells2
    have hE : Ext w w' := ze.trans' hc (fun _ _ h => h) (fun i hi e => by omega)
    have hF3 : dV w.heap.size w' (.slice A' banks.length c') (banks.set bank (banks[bank].set cell (dK banks[bank][cell] true))) := by
      obtain ⟨B', bvs, h1, h2, h3⟩ := zf.chg hc (fun k h1 h2 => by omega)
      exact ⟨B', bvs, by omega, h2, h3⟩
    have HE := hide (And.intro hF3 hE)
    have HN := hide (And.intro hN hA)
    have Z3 := hide z3
    clear hN hA z3 hE hc hz ze hF3 zf
    dsimp only [Exit.then]
    dsimp only [Act.put, Act.eval]
    go_wp2
    exact bodyPost_ret (nG jW iV rfl (aA Z3) z4 (aA HN).1 rfl rfl rfl) rfl ⟨_, rfl, aA HE⟩
  | false =>
    go_wp2
    generalize hW : World.alloc _ _ = wz
    have zb : Blk wz (w.heap.size + 6) 79 #[.int .i64 0, .string { data := #[] }] := by
      subst hW
      exact ((aA HR).far (by simp) _).alloc _
    have ze : Ext w wz := by
      have := (aA hD2).1
      subst hW
      repeat' (first | (with_reducible exact Chg.refl _ _) | (with_reducible exact Ext.refl _) | (with_reducible assumption) | (with_reducible refine Chg.alloc ?_ _) | (with_reducible refine Chg.drew ?_) | (with_reducible refine Chg.drewN ?_ _) | (with_reducible refine Chg.setCell ?_ ?_ _) | (with_reducible refine Ext.alloc ?_ _) | (with_reducible refine Ext.drew ?_) | (with_reducible refine Ext.drewN ?_ _) | (with_reducible refine Ext.setCell ?_ ?_ _) | (simp; done) | (simp; omega) | omega)
    have z9 : Blk wz (w.heap.size + 1 + 1 + 1 + 1 + 1) 54 (H.setIfInBounds 0 (.slice A' banks.length c')) := by
      subst hW
      have z9a := (aA hD2).2.b9.set_ 0 (.slice A' banks.length c')
      repeat' (first | (with_reducible exact z9a) | (with_reducible refine Blk.alloc ?_ _) | (with_reducible refine Blk.far ?_ (by simp) _))
    have zf : dV (w.heap.size + 6 + 1) wz (.slice A' banks.length c') (banks.set bank (banks[bank].set cell (dK banks[bank][cell] false))) := (aA HF').chg (S := fun k => w.heap.size ≤ k ∧ k < w.heap.size + 7) (by
      subst hW
      repeat' (first | (with_reducible exact Chg.refl _ _) | (with_reducible exact Ext.refl _) | (with_reducible assumption) | (with_reducible refine Chg.alloc ?_ _) | (with_reducible refine Chg.drew ?_) | (with_reducible refine Chg.drewN ?_ _) | (with_reducible refine Chg.setCell ?_ ?_ _) | (with_reducible refine Ext.alloc ?_ _) | (with_reducible refine Ext.drew ?_) | (with_reducible refine Ext.drewN ?_ _) | (with_reducible refine Ext.setCell ?_ ?_ _) | (simp; done) | (simp; omega) | omega)
      ) (fun k h1 h2 => by omega)
    have zt : Blk wz (w.heap.size + 1 + 1 + 1 + 1) 79 #[.int .i64 0, .string { data := #[] }] := by
      subst hW
      have z9a := (aA hD2).2.b7
      repeat' (first | (with_reducible exact z9a) | (with_reducible refine Blk.alloc ?_ _) | (with_reducible refine Blk.far ?_ (by simp) _))
    obtain ⟨zold, zo, zs⟩ := (aA hD2).2.b6
    have zo : Blk wz (w.heap.size + 1 + 1 + 1) 54 zold := by
      subst hW
      repeat' (first | (with_reducible exact zo) | (with_reducible refine Blk.alloc ?_ _) | (with_reducible refine Blk.far ?_ (by simp) _))
    clear hW b1 HR hD2
    obtain ⟨hN0, hA0⟩ := aA HH
    have hN : (H.setIfInBounds 0 (.slice A' banks.length c')).size = 18 := by simpa using hN0
    have hA : (H.setIfInBounds 0 (.slice A' banks.length c')).all (·.oneCell') = true := by
      rw [Array.all_eq_true'] at hA0 ⊢
      intro v hv
      rcases Array.mem_or_eq_of_mem_setIfInBounds hv with h1 | rfl
      · exact hA0 _ h1
      · rfl
    clear HH hN0 hA0 HF'
    refine aDh (by kernel_rfl) jW iV z9 zb zo zt hN rfl zs rfl hA (by simp; exact ⟨rfl, rfl⟩) ⟨by omega, by omega, by omega, by omega, by omega⟩ rfl rfl rfl rfl (by simp) (by simp) (by simp) (by simp) (by simp) (by simp) (by simp) (by simp) fun w' hc hz z3 z4 => ?_
    clear z9 zb zo zt
    obtain ⟨m0, m1, mf, ml⟩ := z4.cells2
    have hE : Ext w w' := ze.trans' hc (fun _ _ h => h) (fun i hi e => by omega)
    have hF3 : dV w.heap.size w' (.slice A' banks.length c') (banks.set bank (banks[bank].set cell (dK banks[bank][cell] false))) := by
      obtain ⟨B', bvs, h1, h2, h3⟩ := zf.chg hc (fun k h1 h2 => by omega)
      exact ⟨B', bvs, by omega, h2, h3⟩
    have HE := hide (And.intro hF3 hE)
    have HN := hide (And.intro hN hA)
    have Z3 := hide z3
    clear hN hA z3 hE hc hz ze hF3 zf
    dsimp only [Exit.then]
    dsimp only [Act.put, Act.eval]
    go_wp2
    exact bodyPost_ret (nG jW iV rfl (aA Z3) z4 (aA HN).1 rfl rfl rfl) rfl ⟨_, rfl, aA HE⟩
end Go.Proofs.YtihghljfmlbfhaaGreatDoor
namespace Go.Proofs.YtihghljfmlbfhaaGreatDoor.Pv
open Go.RowKit
def sgC (x : Sig × Int) : List PC := qF x.1 ++ [.lit (.int .i64 x.2)]
def qH (seed m : List UInt8) (h : Int) (log : List Res) : Acc × (Sig × Int) × Bool := match (Prg.signI h).run (replay log) 0 with
 | .ok p _ => (aCw, sgO seed h m p, true)
 | .error c _ => (c, (⟨0, [], []⟩, 0), false)
def nextPV (x : Acc × (Sig × Int) × Bool) : PV := .tup [.agg (nZ x.1), .agg (sgC x.2.1), .one (.lit (.bool x.2.2))]
theorem acc_rl {C : Ctx} (a : Acc) : RL C (nZ a) [.int .i64 a.kind, .int .i64 a.bank, .int .i64 a.cell, .string a.bytes] := .cons (xs := [_]) (.lit rfl) (.cons (xs := [_]) (.lit rfl) (.cons (xs := [_]) (.lit rfl) (.cons (xs := [_]) (.lit rfl) .nil)))
theorem aKv {C : Ctx} {l1 l2 : List PC} {c1 c2 : Array Value} {b : Bool} (h1 : RL C l1 c1.toList) (h2 : RL C l2 c2.toList) : RV C (.tup [.agg l1, .agg l2, .one (.lit (.bool b))]) (.tuple #[.agg c1, .agg c2, .bool b]) :=
 .tup rfl (fun i x hx => by
  match i, hx with
  | 0, hx => cases hx; exact ⟨_, rfl, .agg h1⟩
  | 1, hx => cases hx; exact ⟨_, rfl, .agg h2⟩
  | 2, hx => cases hx; exact ⟨_, rfl, .one (.lit rfl)⟩
  | i + 3, hx => cases hx)
theorem nextP_rv {seed m : List UInt8} {h : Int} {log : List Res} {w w' : World} {e : Ending} (hp : NextP seed m h log w e w') : ∃ val, e = .returned val ∧ RV { w := w', ok := fun b => (true = false ∧ True) ∨ w.heap.size ≤ b, env := fun _ => none } (nextPV (qH seed m h log)) val := by
 rcases hp with ⟨p, i, z, A1, n1, c1, A2, n2, c2, er, hr, rfl, hl⟩ | ⟨c, i, hr, rfl⟩
 ·refine ⟨_, rfl, ?_⟩
  unfold qH
  rw [hr]
  exact aKv (acc_rl aCw) (hl.le ⟨Nat.le_refl _, fun b _ hb => ⟨.inr hb, rfl⟩, fun _ _ _ h => by cases h⟩)
 ·refine ⟨_, rfl, ?_⟩
  unfold qH
  rw [hr]
  exact aKv (acc_rl c) (RL.append lW (.cons (xs := [_]) (.lit rfl) .nil))
def nextG : List PV → Option (Prop × PV)
 | [.w (.agg [.bs 16 seed]), .w (.one (.lit (.int .i64 h))), .w (.agg [.bs 16 m]), .w (.one c)] => (match rsOf c with
  | some (p, log) => some (p, nextPV (qH seed m h log))
  | none => none)
 | _ => none
theorem aGo : SpecOk Tryz.prog ShaMem 6 (bD true nextG) := by
 refine bM (aF Tryz.func6 (by kernel_rfl) rfl) (fun xs p r hg hp w ok0 vs hI hv => ?_)
 unfold nextG at hg
 split at hg
 ·rename_i seed h m c
  cases hq : rsOf c with
  | none => rw [hq] at hg; cases hg
  | some q =>
   obtain ⟨p', log⟩ := q
   rw [hq] at hg
   cases hg
   match vs, hv with
   | [v1, v2, v3, v4], ⟨k1, k2, k3, k4, _⟩ =>
    obtain ⟨l1, rfl⟩ := kY k1
    obtain rfl := k2.lit_inv
    obtain ⟨l3, rfl⟩ := kY k3
    have hl := rsOf_ok hq hp k4.inv
    refine (next_any seed m l1 l3 h v4 log w hI hl).mono ?_
    rintro e w' ⟨hE, hP⟩
    obtain ⟨val, rfl, hr⟩ := nextP_rv hP
    exact ⟨val, rfl, hE, hr.le ⟨Nat.le_refl _, fun b _ hb => ⟨.inr (hb.elim (fun h => by cases h.1) id), rfl⟩, fun _ _ _ h => by cases h⟩⟩
 ·cases hg
def hwPC (b : List (List Int)) (r : List UInt8) : List PC := [.sl 1 b.length (bT b), .lit (.slice none 0 0), .bs 16 r]
def doR (b : List (List Int)) (k bank cell : Int) (cut noise : Bool) : List (List Int) × Int :=
 if k = 1 then (b, if cut then 0 else fG ((b.getD bank.toNat []).getD cell.toNat 0) noise)
 else (b.set bank.toNat ((b.getD bank.toNat []).set cell.toNat (dK ((b.getD bank.toNat []).getD cell.toNat 0) cut)), 0)
def doPV (x : List (List Int) × Int) (r : List UInt8) : PV := .tup [.agg (hwPC x.1 r), .agg [.lit (.int .i64 x.2), .lit (.string { data := #[] })], .one (.lit (.int .i64 0))]
def doG : List PV → Option (Prop × PV)
 | [.w (.agg [.sl 1 n f, .lit (.slice none 0 0), .bs 16 r]), .w (.agg [.lit (.int .i64 k), .lit (.int .i64 bank), .lit (.int .i64 cell), .lit (.string s)]), .w (.agg [.lit (.bool cut), .lit (.int .i64 _), .lit (.bool noise)])] =>
  some (gW n f ∧ (k = 1 ∨ k = 2) ∧ (0 ≤ bank ∧ bank < n ∧ 0 ≤ cell ∧ cell < ((bJ n f).getD bank.toNat []).length) ∧ s = bF ∧ n ≤ 1000 ∧ ∀ l ∈ bJ n f, l.length ≤ 100000, doPV (doR (bJ n f) k bank cell cut noise) r)
 | _ => none
theorem aLo {C : Ctx} {n : Nat} {f : Nat → List PC} {r : List UInt8} {x : Value} (h : RV C (.w (.agg [.sl 1 n f, .lit (.slice none 0 0), .bs 16 r])) x) :
  ∃ fv, x = .agg ([fv, .slice none 0 0] ++ r.map u8w).toArray ∧ R C (.sl 1 n f) [fv] ∧ r.length = 16 := by
 cases h with
 | w h => cases h with
  | @agg _ cs h =>
   obtain ⟨cs⟩ := cs
   dsimp only at h
   cases h with
   | @cons _ _ _ xs _ k1 h => cases h with
    | cons k2 h =>
     obtain ⟨k3, k4⟩ := h.bs1
     subst k4
     cases k2
     have hw := k1.width
     match xs, hw, k1 with
     | [fv], _, k1 => exact ⟨fv, rfl, k1, k3⟩
theorem hw_rl {C : Ctx} {b : List (List Int)} {r : List UInt8} {fv : Value} (h : R C (.sl 1 b.length (bT b)) [fv]) (hr : r.length = 16) : RL C (hwPC b r) ([fv, .slice none 0 0] ++ r.map u8w) := by
 have := RL.cons (C := C) (R.bs (n := 16) hr) RL.nil
 rw [List.append_nil] at this
 exact .cons (xs := [_]) h (.cons (xs := [_]) (.lit rfl) this)
theorem rv_do {C : Ctx} {l1 l2 : List PC} {c1 c2 : Array Value} {b : Int} (h1 : RL C l1 c1.toList) (h2 : RL C l2 c2.toList) : RV C (.tup [.agg l1, .agg l2, .one (.lit (.int .i64 b))]) (.tuple #[.agg c1, .agg c2, .int .i64 b]) :=
 .tup rfl (fun i x hx => by
  match i, hx with
  | 0, hx => cases hx; exact ⟨_, rfl, .agg h1⟩
  | 1, hx => cases hx; exact ⟨_, rfl, .agg h2⟩
  | 2, hx => cases hx; exact ⟨_, rfl, .one (.lit rfl)⟩
  | i + 3, hx => cases hx)
theorem lit4 {C : Ctx} {a b c : Int} {s : ByteArray} {x : Value} (h : RV C (.w (.agg [.lit (.int .i64 a), .lit (.int .i64 b), .lit (.int .i64 c), .lit (.string s)])) x) : x = .agg #[.int .i64 a, .int .i64 b, .int .i64 c, .string s] := by
 cases h with
 | w h => cases h with
  | @agg _ cs h =>
   obtain ⟨cs⟩ := cs
   dsimp only at h
   cases h with
   | cons k1 h => cases h with
    | cons k2 h => cases h with
     | cons k3 h => cases h with
      | cons k4 h => cases h; cases k1; cases k2; cases k3; cases k4; rfl
theorem lit3 {C : Ctx} {a c : Bool} {b : Int} {x : Value} (h : RV C (.w (.agg [.lit (.bool a), .lit (.int .i64 b), .lit (.bool c)])) x) : x = .agg #[.bool a, .int .i64 b, .bool c] := by
 cases h with
 | w h => cases h with
  | @agg _ cs h =>
   obtain ⟨cs⟩ := cs
   dsimp only at h
   cases h with
   | cons k1 h => cases h with
    | cons k2 h => cases h with
     | cons k3 h => cases h; cases k1; cases k2; cases k3; rfl
theorem u8w_ones (r : List UInt8) : (r.map u8w).all (·.oneCell') = true := by
 rw [List.all_map, List.all_eq_true]
 intro x _
 rfl
theorem do_spec : SpecOk Tryz.prog ShaMem 24 (bD false doG) := by
 refine bM (aF Tryz.func24 (by kernel_rfl) rfl) (fun xs p r hg hp w ok0 vs hI hv => ?_)
 unfold doG at hg
 split at hg
 ·rename_i n f rt k bank cell s cut fb noise
  cases hg
  obtain ⟨hbk, hk, ⟨hb0, hb1, hc0, hc1⟩, rfl, hn, hl⟩ := hp
  match vs, hv with
  | [v1, v2, v3], ⟨k1, k2, k3, _⟩ =>
   obtain ⟨fv, rfl, hf, hr16⟩ := aLo k1
   obtain rfl := lit4 k2
   obtain rfl := lit3 k3
   have hF := aLt hf hbk
   have hcan := mM hbk hf
   have hlen : (bJ n f).length = n := dH n f
   generalize bJ n f = B at *
   obtain ⟨nb, rfl⟩ : ∃ j : Nat, bank = (j : Int) := ⟨bank.toNat, by omega⟩
   obtain ⟨nc, rfl⟩ : ∃ j : Nat, cell = (j : Int) := ⟨cell.toNat, by omega⟩
   rw [Int.toNat_natCast] at hc1
   have hb2 : nb < B.length := by omega
   have hgb : B.getD nb [] = B[nb] := by rw [zG, zH hb2]; rfl
   rw [hgb] at hc1
   have hc2 : nc < B[nb].length := by omega
   have hgc : B[nb].getD nc 0 = B[nb][nc] := by rw [zG, zH hc2]; rfl
   have hsz : (([fv, .slice none 0 0] ++ rt.map u8w).toArray : Array Value).size = 18 := by simp [hr16]
   have hfv : fv.oneCell' = true := by
    cases hf with
    | sl hr _ _ => obtain ⟨_, A, c, rfl, _⟩ := hr; rfl
   have hall : (([fv, .slice none 0 0] ++ rt.map u8w).toArray : Array Value).all (·.oneCell') = true := by
    rw [← Array.all_toList]
    show ([fv, .slice none 0 0] ++ rt.map u8w).all (·.oneCell') = true
    rw [List.all_append, u8w_ones, Bool.and_true, List.all_cons, hfv]
    rfl
   rcases hk with rfl | rfl
   ·refine (dev_read _ fv hsz hall rfl B nb nc cut noise fb w hF hb2 hc2).mono ?_
    rintro e w' ⟨rfl, hE⟩
    refine ⟨_, rfl, hE, ?_⟩
    have hd : doR B 1 (nb : Int) (nc : Int) cut noise = (B, if cut = true then 0 else fG B[nb][nc] noise) := by
     unfold doR
     rw [if_pos rfl, Int.toNat_natCast, Int.toNat_natCast, hgb, hgc]
    rw [hd]
    refine rv_do ?_ (.cons (xs := [_]) (.lit rfl) (.cons (xs := [_]) (.lit rfl) .nil))
    refine hw_rl ?_ hr16
    refine (hcan.le (C' := { w := w', ok := fun b => (false = false ∧ ok0 b) ∨ w.heap.size ≤ b, env := fun _ => none }) ⟨hE.size', fun b hb hok => ⟨.inl ⟨rfl, hok⟩, hE.block b hb (fun h => h)⟩, fun _ _ _ h => by cases h⟩)
   ·refine (aVb _ fv hsz hall rfl B nb nc cut noise fb w hF hb2 hc2 (by omega) hl).mono ?_
    rintro e w' ⟨fv', rfl, hN, hE⟩
    refine ⟨_, rfl, hE, ?_⟩
    have hd : doR B 2 (nb : Int) (nc : Int) cut noise = (B.set nb (B[nb].set nc (dK B[nb][nc] cut)), 0) := by
     unfold doR
     rw [if_neg (by decide), Int.toNat_natCast, Int.toNat_natCast, hgb, hgc]
    rw [hd]
    refine rv_do ?_ (.cons (xs := [_]) (.lit rfl) (.cons (xs := [_]) (.lit rfl) .nil))
    have := hw_rl (b := B.set nb (B[nb].set nc (dK B[nb][nc] cut))) (r := rt) (aAb (ok := fun b => (false = false ∧ ok0 b) ∨ w.heap.size ≤ b) hN (fun b hb => .inr hb)) hr16
    exact this
 ·cases hg
theorem aCl (b : UInt8) : (((b.toNat : Int).tmod 2 == 1) = ((b.toNat : Int) % 2 == 1)) ∧ (((IntKind.u8.wrap ((b.toNat : Int).tdiv 2)).tmod 2 == 1) = ((b.toNat : Int) / 2 % 2 == 1)) := by
 have h : ∀ n : _root_.Fin 256, (((n.val : Int).tmod 2 == 1) = ((n.val : Int) % 2 == 1)) ∧ (((IntKind.u8.wrap ((n.val : Int).tdiv 2)).tmod 2 == 1) = ((n.val : Int) / 2 % 2 == 1)) := by decide +kernel
 exact h ⟨b.toNat, b.toNat_lt⟩
theorem aVz {len : Nat} {f : Nat → List PC} (h : aAr len f) : ∀ i, i < len → f i = byF (rowB len f) i := fun i hi => by
 have h1 := h i hi
 unfold byF rowB
 rw [iQ len i (fun i => byteAt (f i)) hi]
 exact aGw h1
def aJy (f : Bool × Bool) : List PC := [.lit (.bool f.1), .lit (.int .i64 0), .lit (.bool f.2)]
def intB (F : List UInt8) : List Int := F.map fun b => (b.toNat : Int)
theorem aHi (F : List UInt8) (i : Nat) (_ : i ≤ 1000000) : iW Tryz.prog ShaMem 9 true [pv1 (.sl 1 F.length (byF F)), pvI i] (.w (.agg (aJy (fM (intB F) i)))) := by
 have M := noM (I := ShaMem)
 refine eF Tryz.func9 rfl rfl fJ (fun A hS hn hI => ?_)
 refine aB M hI hn (by rfl) (by kernel_rfl) ?_ ?_
 ·simp
 refine aI ?_
 refine aB M hI hn (by rfl) (by kernel_rfl) ?_ ?_
 ·simp
 refine aJ (by rfl) (fun hc => ?_) (fun hc => ?_)
 ·have hc2 : ¬ i < F.length := by have := of_decide_eq_true hc; omega
  have hE : fM (intB F) i = (false, false) := by unfold fM intB; rw [List.getElem?_eq_none (by simp; omega)]
  refine aB M hI hn (by rfl) (by kernel_rfl) ?_ ?_
  ·simp
  refine bC (fun a w hg => ⟨.inr rfl, _, ?_, hg⟩)
  refine aK (by rfl) (by simp) (by rfl) (by rfl) ?_
  rw [hE]
  rfl
 ·have hc2 : i < F.length := by have := of_decide_eq_false hc; omega
  refine aN ?_
  change Tri _ _ _ _ _
  refine aB M hI hn (by rfl) (by kernel_rfl) ?_ ?_
  ·simp
   exact hc2
  refine bC (fun a w hg => ⟨.inr rfl, _, ?_, hg⟩)
  refine aK (by rfl) (by simp) (by rfl) (by rfl) ?_
  have hE : fM (intB F) i = (((F.getD i 0).toNat : Int) % 2 == 1, ((F.getD i 0).toNat : Int) / 2 % 2 == 1) := by
   unfold fM intB
   rw [List.getElem?_map, zH hc2, zG, zH hc2]
   rfl
  rw [hE, ← (aCl (F.getD i 0)).1, ← (aCl (F.getD i 0)).2]
  rfl
def fauG : List PV → Option (Prop × PV)
 | [.w (.one (.sl 1 n f)), .w (.one (.lit (.int .i64 i)))] => some (aAr n f ∧ 0 ≤ i ∧ i ≤ 1000000, .w (.agg (aJy (fM (intB (rowB n f)) i.toNat))))
 | [.w (.one (.lit (.slice none 0 0))), .w (.one (.lit (.int .i64 i)))] => some (0 ≤ i ∧ i ≤ 1000000, .w (.agg (aJy (fM [] i.toNat))))
 | _ => none
theorem aCk : SpecOk Tryz.prog ShaMem 9 (bD true fauG) := by
 refine bM (aF Tryz.func9 (by kernel_rfl) rfl) (fun xs p r hg hp w ok0 vs hI hv => ?_)
 unfold fauG at hg
 split at hg
 ·rename_i n f i
  cases hg
  obtain ⟨k, rfl⟩ : ∃ k : Nat, i = (k : Int) := ⟨i.toNat, by omega⟩
  rw [Int.toNat_natCast]
  have h := aHi (rowB n f) k (by omega)
  have hl : (rowB n f).length = n := by simp [rowB]
  rw [hl] at h
  match vs, hv with
  | [v1, v2], ⟨k1, k2, _⟩ => exact h w ok0 [v1, v2] hI ⟨.w (.one (k1.inv.sl_ext (fun j hj => aVz hp.1 j hj))), k2, trivial⟩
 ·rename_i i
  cases hg
  obtain ⟨k, rfl⟩ : ∃ k : Nat, i = (k : Int) := ⟨i.toNat, by omega⟩
  rw [Int.toNat_natCast]
  match vs, hv with
  | [v1, v2], ⟨k1, k2, _⟩ =>
   obtain rfl := k1.lit_inv
   exact aHi [] k (by omega) w ok0 [_, v2] hI ⟨.w (.one (.sl (Reads.nil _ _) (fun g hg => by cases hg) (fun i hi => absurd hi (Nat.not_lt_zero i)))), k2, trivial⟩
 ·cases hg
end Go.Proofs.YtihghljfmlbfhaaGreatDoor.Pv
namespace Go.Proofs.YtihghljfmlbfhaaGreatDoor
open Go.RowKit
def wJ {α : Type} (p0 p : Prg α) (log : List Res) : Prop := ∀ tail, p0.run (replay (log ++ tail)) 0 = p.run (replay (log ++ tail)) log.length
theorem wJ.start {α : Type} (p : Prg α) : wJ p p [] := fun _ => rfl
theorem wJ.step {α : Type} {p0 : Prg α} {a : Acc} {k : Res → Prg α} {log : List Res} (h : wJ p0 (.ask a k) log) (r : Res) : wJ p0 (k r) (log ++ [r]) := fun tail => by
 rw [List.append_assoc, h, List.length_append]
 have : replay (log ++ ([r] ++ tail)) a log.length = .ok r (log.length + 1) := by
  unfold replay
  rw [List.getElem?_append_right (Nat.le_refl _), Nat.sub_self]
  rfl
 simp only [Prg.run, this, List.length_cons, List.length_nil, Nat.zero_add]
theorem wJ.ret {α : Type} {p0 : Prg α} {out : α} {log : List Res} (h : wJ p0 (.ret out) log) : p0.run (replay log) 0 = .ok out log.length := by
 have := h []
 rwa [List.append_nil] at this
theorem wJ.ask {α : Type} {p0 : Prg α} {a : Acc} {k : Res → Prg α} {log : List Res} (h : wJ p0 (.ask a k) log) : p0.run (replay log) 0 = .error a log.length := by
 have := h []
 rw [List.append_nil] at this
 rw [this]
 have : replay log a log.length = .error a log.length := by
  unfold replay
  rw [List.getElem?_eq_none (Nat.le_refl _)]
 simp only [Prg.run, this]
theorem uF (a : Acc) (f : Bool × Bool) (c : List Int) : (aftC a f c).length = c.length := by unfold aftC; split <;> simp
end Go.Proofs.YtihghljfmlbfhaaGreatDoor
namespace Go.Proofs.YtihghljfmlbfhaaGreatDoor.Pv
open Go.RowKit
def bk4 (c : List Int) : List (List Int) := [[], [], c, []]
def z16s : List UInt8 := List.replicate 16 0
structure RunO where
 cells : List Int
 out : Sig × Int
 done : Bool
 many : Nat
def noOut : Sig × Int := (⟨0, [], []⟩, 0)
def runO (seed m : List UInt8) (h : Int) : Option (Nat × Int) × List Int × Nat → RunO
 | (some p, c, i) => ⟨c, sgO seed h m p, true, i⟩
 | (none, c, i) => ⟨c, noOut, false, i - 1⟩
def runS (seed m : List UInt8) (h : Int) (F : List UInt8) (c : List Int) : RunO := runO seed m h (exec (intB F) (Prg.signI h) c 0)
def runPV (x : RunO) : PV := .tup [.agg (hwPC (bk4 x.cells) z16s), .agg (sgC x.out), .one (.lit (.bool x.done)), .one (.lit (.int .i64 x.many)), .one (.lit (.bool true))]
theorem next_ret {seed m : List UInt8} {h : Int} {log : List Res} {out : Nat × Int} (hL : wJ (Prg.signI h) (.ret out) log) : qH seed m h log = (aCw, sgO seed h m out, true) := by unfold qH; rw [hL.ret]
theorem next_ask {seed m : List UInt8} {h : Int} {log : List Res} {a : Acc} {k : Res → Prg (Nat × Int)} (hL : wJ (Prg.signI h) (.ask a k) log) : qH seed m h log = (a, noOut, false) := by unfold qH; rw [hL.ask]; rfl
theorem do_bk4 (c : List Int) (a : Acc) (f : Bool × Bool) (hk : a.kind = 1 ∨ a.kind = 2) (hb : a.bank = 2) (_ : 0 ≤ a.cell) : (doR (bk4 c) a.kind a.bank a.cell f.1 f.2).1 = bk4 (aftC a f c) ∧ (f.1 = false → (doR (bk4 c) a.kind a.bank a.cell f.1 f.2).2 = aftV a f c) := by
 unfold doR aftC aftV
 rw [hb]
 rcases hk with hk | hk
 ·rw [if_pos hk, if_pos hk, if_pos hk]
  refine ⟨rfl, fun h => ?_⟩
  rw [h]
  rfl
 ·have hk1 : ¬ a.kind = 1 := by omega
  rw [if_neg hk1, if_neg hk1, if_neg hk1]
  exact ⟨rfl, fun _ => rfl⟩
def ruL : List (Nat × Spec) := [(6, bD true nextG), (9, bD true fauG), (24, bD false doG)]
theorem ru_ok : ∀ p ∈ ruL, SpecOk Tryz.prog ShaMem p.1 p.2 := by
 intro p hp
 simp only [ruL, List.mem_cons, List.not_mem_nil, or_false] at hp
 rcases hp with rfl | rfl | rfl
 ·exact aGo
 ·exact aCk
 ·exact do_spec
theorem ruM : Mach Tryz.prog ShaMem (find ruL) := ⟨dD ru_ok, iE⟩
def ruSt (seed m : List UInt8) (h : Int) (F : List UInt8) (c : List Int) (log : List Res) : St :=
  ⟨[(2, none, pvI h), (4, none, pv1 (.sl 1 F.length (byF F))), (5, none, pv1 (.pt 0 0 0)), (6, none, pv1 (.pt 1 0 0)), (8, none, pv1 (.pt 2 0 0)), (10, none, pv1 (.pt 3 0 0)), (11, none, pv1 (.pt 4 0 0)), (15, none, pv1 (.ow 15003 0 2 0 log.length)), (16, none, pvI log.length)],
  [(0, none, 0, .box 54 (hwPC (bk4 c) z16s)), (1, none, 0, .box 23 [.bs 16 seed]), (2, none, 0, .box 23 [.bs 16 m]), (3, none, 0, .box 54 [.lit (.slice none 0 0), .lit (.slice none 0 0), .bs 16 z16s]),
   (4, none, 0, .box 35 [.lit (.int .i64 0), .lit (.slice none 0 0), .lit (.slice none 0 0), .lit (.int .i64 0)]), (15003, none, 0, .arr 79 2 log.length (resF log))]⟩
def ruSn (seed m : List UInt8) (h : Int) (F : List UInt8) (c : List Int) (log : List Res) (x : Acc × (Sig × Int) × Bool) : St :=
 ⟨(17, none, pv1 (.pt 5009 0 0)) :: (18, none, pv1 (.pt 5010 0 0)) :: (19, none, pvB x.2.2) :: (ruSt seed m h F c log).t, (5009, none, 0, .box 29 (nZ x.1)) :: (5010, none, 0, .box 35 (sgC x.2.1)) :: (ruSt seed m h F c log).o⟩
def ruSf (seed m : List UInt8) (h : Int) (F : List UInt8) (c : List Int) (log : List Res) (a : Acc) (f : Bool × Bool) : St :=
 ⟨(17, none, pv1 (.pt 5009 0 0)) :: (20, none, pv1 (.pt 8003 0 0)) :: (ruSt seed m h F c log).t, (5009, none, 0, .box 29 (nZ a)) :: (8003, none, 0, .box 45 (aJy f)) :: (ruSt seed m h F c log).o⟩
def ruSd (seed m : List UInt8) (h : Int) (F : List UInt8) (c : List Int) (log : List Res) (f : Bool × Bool) (b : List (List Int)) (v : Int) : St :=
 ⟨(20, none, pv1 (.pt 8003 0 0)) :: (21, none, pv1 (.pt 9008 0 0)) :: (22, none, pv1 (.pt 9009 0 0)) :: (23, none, pvI 0) :: (ruSt seed m h F c log).t, (8003, none, 0, .box 45 (aJy f)) :: (9008, none, 0, .box 54 (hwPC b z16s)) :: (9009, none, 0, .box 79 [.lit (.int .i64 v), .lit (.string { data := #[] })]) :: (ruSt seed m h F c log).o⟩
theorem aRv (log : List Res) (r : Res) (g : Nat → List PC) (hg : g 0 = iT r) (i : Nat) (hi : i < log.length + 1) : appF log.length (resF log) g i = resF (log ++ [r]) i := by
 unfold appF resF
 by_cases h : i < log.length
 ·rw [if_pos h, zG, zG, List.getElem?_append_left h]
 ·obtain rfl : i = log.length := by omega
  rw [if_neg h, Nat.sub_self, hg, zG, List.getElem?_append_right (Nat.le_refl _), Nat.sub_self]
  rfl
theorem vC {l l' : List (Nat × Option Bool × PV)} (h : l = l') : SameT l l' := by
 subst h
 induction l with
 | nil => exact .nil
 | cons a l ih => obtain ⟨t, g, v⟩ := a; exact .cons rfl ih
theorem uZ {l l' : Wr} (h : l = l') : SameW l l' := by
 subst h
 induction l with
 | nil => exact .nil
 | cons a l ih =>
  obtain ⟨x, g, vr, o⟩ := a
  refine .cons ?_ ih
  cases o with
  | box t l => exact .box rfl
  | arr e n len f => exact .arr rfl (fun _ _ => rfl)
  | dead => exact .dead
  | dev O stp l => exact .dev rfl
theorem run_fun (seed m : List UInt8) (h : Int) (_ : i64P h) (F : List UInt8) (c0 : List Int) (hc0 : c0.length = 48) : iW Tryz.prog ShaMem 13 false [.w (.agg (hwPC (bk4 c0) z16s)), .w (.agg [.bs 16 seed]), pvI h, .w (.agg [.bs 16 m]), pv1 (.sl 1 F.length (byF F))] (runPV (runS seed m h F c0)) := by
 have M := ruM
 have hbt : Tryz.prog.types[79].bytes = 24 := by kernel_rfl
 refine eF Tryz.func13 rfl rfl fJ (fun A hS hn hI => ?_)
 refine aB M hI hn (by rfl) (by kernel_rfl) ?_ ?_
 ·simp
 refine aB M hI hn (by rfl) (by kernel_rfl) ?_ ?_
 ·simp
 refine aI ?_
 refine aB M hI hn (by rfl) (by kernel_rfl) ?_ ?_
 ·simp
 refine bI ?_
 refine aV (s' := ruSt seed m h F c0 []) (fun a w hg => ((hg.nilRow (x := 15003) (e := 79) (n := 2) (t := 15) (by rfl) (by rfl)).reset (kT := [2, 4, 5, 6, 8, 10, 11, 15, 16]) (kO := [0, 1, 2, 3, 4, 15003]) (by rfl) (by simp)).same ?_ ?_) ?_
 ·exact vC rfl
 ·exact .cons (.box rfl) (.cons (.box rfl) (.cons (.box rfl) (.cons (.box rfl) (.cons (.box rfl) (.cons (.arr rfl (fun i hi => absurd hi (Nat.not_lt_zero i))) .nil)))))
 refine fV 400 (fun k s => ∃ log c p, k = log.length ∧ s = ruSt seed m h F c log ∧ wJ (Prg.signI h) p log ∧ exec (intB F) (Prg.signI h) c0 0 = exec (intB F) p c log.length ∧ p.Within (399 - k) ∧ k ≤ 399 ∧ Prg.In 48 p ∧ c.length = 48) 0 ⟨[], c0, Prg.signI h, rfl, rfl, wJ.start _, rfl, mZ h, by omega, aDd h, hc0⟩ (by omega) (fun k s hJ hk => ?_)
 obtain ⟨log, c, p, rfl, rfl, hL, hX, hW, hk9, hIn, hcl⟩ := hJ
 have hnx : jR log.length (fun i => resF log (0 + i)) = log := by simp only [Nat.zero_add]; exact aIr log
 refine aI ?_
 refine aB M hI hn (by rfl) (by kernel_rfl) ?_ ?_
 ·simp
 refine aJ (by rfl) (fun hc => ?_) (fun hc => ?_)
 ·refine aN ?_
  change Tri _ _ _ _ _
  refine aI ?_
  refine bI ?_
  refine aB M hI hn (by rfl) (by kernel_rfl) ?_ ?_
  ·simp
   intro i _ x hx
   simp [resF, iT] at hx
   rcases hx with rfl | rfl <;> rfl
  cases p with
  | ret out =>
   have hq := next_ret (seed := seed) (m := m) hL
   have hR : runS seed m h F c0 = ⟨c, sgO seed h m out, true, log.length⟩ := by unfold runS; rw [hX]; rfl
   refine aV (s' := ruSn seed m h F c log (aCw, sgO seed h m out, true)) (fun a w hg => (hg.reset (kT := [17, 18, 19, 2, 4, 5, 6, 8, 10, 11, 15, 16]) (kO := [5009, 5010, 0, 1, 2, 3, 4, 15003]) (by rfl) ?_).same ?_ ?_) ?_
   ·simp only [All, and_true, List.append_nil, List.nil_append]
    exact fun i _ => rfl
   ·exact .cons rfl (.cons rfl (.cons (by show pvB (qH seed m h (jR log.length fun i => resF log (0 + i))).2.2 = _; rw [hnx, hq]) (vC rfl)))
   ·exact .cons (.box (by show nZ (qH seed m h (jR log.length fun i => resF log (0 + i))).1 = _; rw [hnx, hq])) (.cons (.box (by show sgC (qH seed m h (jR log.length fun i => resF log (0 + i))).2.1 = _; rw [hnx, hq])) (uZ rfl))
   refine aI ?_
   refine aB M hI hn (by rfl) (by kernel_rfl) ?_ ?_
   ·simp
   refine aJ (by rfl) (fun hc => ?_) (fun hc => ?_)
   ·refine aB M hI hn (by rfl) (by kernel_rfl) ?_ ?_
    ·simp
    refine bC (fun a w hg => ⟨.inr rfl, _, ?_, hg⟩)
    refine aK (by rfl) (by simp) (by rfl) (by rfl) ?_
    rw [hR]
    rfl
   ·cases hc
  | ask ac k =>
   have hq := next_ask (seed := seed) (m := m) hL
   obtain ⟨i1, i2, i3, i4, i5, i6⟩ := hIn
   refine aV (s' := ruSn seed m h F c log (ac, noOut, false)) (fun a w hg => (hg.reset (kT := [17, 18, 19, 2, 4, 5, 6, 8, 10, 11, 15, 16]) (kO := [5009, 5010, 0, 1, 2, 3, 4, 15003]) (by rfl) ?_).same ?_ ?_) ?_
   ·simp only [All, and_true, List.append_nil, List.nil_append]
    exact fun i _ => rfl
   ·exact .cons rfl (.cons rfl (.cons (by show pvB (qH seed m h (jR log.length fun i => resF log (0 + i))).2.2 = _; rw [hnx, hq]) (vC rfl)))
   ·exact .cons (.box (by show nZ (qH seed m h (jR log.length fun i => resF log (0 + i))).1 = _; rw [hnx, hq])) (.cons (.box (by show sgC (qH seed m h (jR log.length fun i => resF log (0 + i))).2.1 = _; rw [hnx, hq])) (uZ rfl))
   refine aI ?_
   refine aB M hI hn (by rfl) (by kernel_rfl) ?_ ?_
   ·simp
   refine aJ (by rfl) (fun hc => ?_) (fun hc => ?_)
   ·cases hc
   ·refine aN ?_
    change Tri _ _ _ _ _
    refine aB M hI hn (by rfl) (by kernel_rfl) ?_ ?_
    ·simp
     omega
    have hF : intB (rowB F.length (byF F)) = intB F := by rw [xJ]
    obtain ⟨f, hf⟩ : ∃ f, fM (intB F) log.length = f := ⟨_, rfl⟩
    refine aV (s' := ruSf seed m h F c log ac f) (fun a w hg => (hg.reset (kT := [17, 20, 2, 4, 5, 6, 8, 10, 11, 15, 16]) (kO := [5009, 8003, 0, 1, 2, 3, 4, 15003]) (by rfl) ?_).same ?_ ?_) ?_
    ·simp only [All, and_true, List.append_nil, List.nil_append]
     exact fun i _ => rfl
    ·exact .cons rfl (.cons rfl (vC rfl))
    ·exact .cons (.box rfl) (.cons (.box (by show aJy (fM (intB (rowB F.length (byF F))) log.length) = _; rw [hF, hf])) (uZ rfl))
    obtain ⟨hd1, hd2⟩ := do_bk4 c ac f i1 i2 i3
    obtain ⟨y, hy⟩ : ∃ y, doR (bk4 c) ac.kind ac.bank ac.cell f.1 f.2 = y := ⟨_, rfl⟩
    rw [hy] at hd1 hd2
    refine aB M hI hn (by rfl) (by kernel_rfl) ?_ ?_
    ·simp only [hwPC, aT]
     refine ⟨⟨jV _ _, i1, ⟨by rw [i2]; decide, by rw [i2]; exact (by decide : (2:Int) < 4), i3, ?_⟩, i5, (by decide : (4:Nat) ≤ 1000), ?_⟩, trivial⟩
     ·rw [i2]
      show ac.cell < (c.length : Int)
      rw [hcl]
      exact i4
     ·intro l hl
      simp only [bk4, List.mem_cons, List.not_mem_nil, or_false] at hl
      rcases hl with rfl | rfl | rfl | rfl <;> simp [hcl]
    refine aV (s' := ruSd seed m h F c log f y.1 y.2) (fun a w hg => (hg.reset (kT := [20, 21, 22, 23, 2, 4, 5, 6, 8, 10, 11, 15, 16]) (kO := [8003, 9008, 9009, 0, 1, 2, 3, 4, 15003]) (by rfl) ?_).same ?_ ?_) ?_
    ·simp only [All, and_true, List.append_nil, List.nil_append]
     exact fun i _ => rfl
    ·exact .cons rfl (.cons rfl (.cons rfl (.cons rfl (vC rfl))))
    ·refine .cons (.box rfl) (.cons (.box ?_) (.cons (.box ?_) (uZ rfl)))
     ·show hwPC (doR (bJ (bk4 c).length (bT (bk4 c))) ac.kind ac.bank ac.cell f.1 f.2).1 z16s = _
      rw [aT, hy]
     ·show iT ⟨(doR (bJ (bk4 c).length (bT (bk4 c))) ac.kind ac.bank ac.cell f.1 f.2).2, bF⟩ = _
      rw [aT, hy]
      rfl
    refine aI ?_
    refine aB M hI hn (by rfl) (by kernel_rfl) ?_ ?_
    ·simp
    refine aJ (by rfl) (fun hc => ?_) (fun hc => ?_)
    ·cases hc
    refine aN ?_
    change Tri _ _ _ _ _
    refine aB M hI hn (by rfl) (by kernel_rfl) ?_ ?_
    ·simp
    refine aI ?_
    refine aB M hI hn (by rfl) (by kernel_rfl) ?_ ?_
    ·simp
    refine aJ (by rfl) (fun hc => ?_) (fun hc => ?_)
    ·have hcut : (fM (intB F) log.length).1 = true := by rw [hf]; exact hc
     have hR : runS seed m h F c0 = ⟨aftC ac f c, noOut, false, log.length⟩ := by
      unfold runS
      rw [hX]
      simp only [exec]
      rw [if_pos hcut, hf]
      rfl
     refine aB M hI hn (by rfl) (by kernel_rfl) ?_ ?_
     ·simp
     refine bC (fun a w hg => ⟨.inr rfl, _, ?_, hg⟩)
     refine iL (by rfl) (by simp) (by rfl) ?_
     ·rw [hR, hd1]
      exact .tup (.cons (aEg rfl) (.cons (.agg (.cons (.cold rfl) (.cons .nil (.cons .nil (.cons (.cold rfl) .nil))))) (.cons (.one (.cold rfl)) (.cons (.one (.cold rfl)) (.cons (.one (.cold rfl)) .nil)))))
    ·have hcut : ¬ (fM (intB F) log.length).1 = true := by rw [hf]; intro h2; rw [h2] at hc; cases hc
     have hcf : f.1 = false := by cases hq2 : f.1 with
      | true => rw [hf, hq2] at hcut; exact absurd rfl hcut
      | false => rfl
     have hv := hd2 hcf
     have hXn : exec (intB F) (Prg.signI h) c0 0 = exec (intB F) (k ⟨aftV ac f c, bF⟩) (aftC ac f c) (log.length + 1) := by
      rw [hX]
      simp only [exec]
      rw [if_neg hcut, hf]
     have hWn : Prg.Within (399 - (log.length + 1)) (k ⟨aftV ac f c, bF⟩) ∧ log.length + 1 ≤ 399 := by
      cases hz : 399 - log.length with
      | zero => rw [hz] at hW; exact hW.elim
      | succ q => rw [hz] at hW; refine ⟨?_, by omega⟩; rw [show 399 - (log.length + 1) = q from by omega]; exact hW _
     refine aN ?_
     change Tri _ _ _ _ _
     refine aS M hI hn (by rfl) (by kernel_rfl) ?_ ?_
     ·simp
      rw [hbt]
      omega
     change Tri _ _ _ _ _
     refine aS M hI hn (by rfl) (by kernel_rfl) ?_ ?_
     ·simp
     intro a w hg
     refine ⟨log.length + 1, ruSt seed m h F (aftC ac f c) (log ++ [⟨aftV ac f c, bF⟩]), by omega, by omega, ⟨_, _, k ⟨aftV ac f c, bF⟩, by simp, rfl, hL.step _, ?_, hWn.1, hWn.2, i6 _, by rw [uF, hcl]⟩, (hg.reset (kT := [2, 4, 5, 6, 8, 10, 11, 15, 16]) (kO := [0, 1, 2, 3, 4, 15003]) (by rfl) ?_).same ?_ ?_⟩
     ·rw [hXn, List.length_append]
      rfl
     ·simp only [All, and_true, List.append_nil, List.nil_append]
      exact aCs (fun i _ => rfl) rfl
     ·refine .cons rfl (.cons rfl (.cons rfl (.cons rfl (.cons rfl (.cons rfl (.cons rfl (.cons (by rw [List.length_append]; rfl) (.cons (by rw [bZ log.length (by omega), List.length_append]; rfl) .nil))))))))
     ·refine .cons (.box (by rw [hd1]; rfl)) (.cons (.box rfl) (.cons (.box rfl) (.cons (.box rfl) (.cons (.box rfl) (.cons (.arr (by rw [List.length_append]; rfl) (fun i hi => ?_)) .nil)))))
      rw [hv]
      exact aRv log _ _ rfl i hi
 ·have := of_decide_eq_false hc
  omega
end Go.Proofs.YtihghljfmlbfhaaGreatDoor.Pv
