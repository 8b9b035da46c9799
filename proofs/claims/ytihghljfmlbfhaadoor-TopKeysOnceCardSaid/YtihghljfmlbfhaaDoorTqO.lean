/-
  Several texts in one file: each has its own heading below.
-/
import Derived.Test.YtihghljfmlbfhaaDoorTqN
import Derived.Test.YtihghljfmlbfhaaDoorTqH
import Derived.Test.YtihghljfmlbfhaaDoorTqM
import Derived.Test.YtihghljfmlbfhaaDoorTqE
import Derived.Test.YtihghljfmlbfhaaDoorTqF
import Derived.Test.YtihghljfmlbfhaaDoorTqL
import Derived.Test.YtihghljfmlbfhaaDoorTqJ


namespace Go.Proofs.YtihghljfmlbfhaaDoor
open Go.RowKit
set_option maxHeartbeats 1000000 in
theorem sign_clo2 (seed m : Array Value) (h : Int) (w : World) (_ : seed.size = 16) (_ : m.size = 16) :
    Calls Tryd.prog 15 #[.agg seed, .int .i64 h, .agg m] w fun e w' =>
      e = .returned (.func (.func 26) #[] #[.pointer (some ⟨w.heap.size + 1, 0, none⟩), .pointer (some ⟨w.heap.size, 0, none⟩), .pointer (some ⟨w.heap.size + 1 + 1, 0, none⟩)]) ∧
      Ext w w' ∧ w'.heap.size = w.heap.size + 3 ∧ Blk w' w.heap.size 23 seed ∧ Blk w' (w.heap.size + 1) 3 #[.int .i64 h] ∧ Blk w' (w.heap.size + 1 + 1) 23 m := by
  have hmf : ∀ (fn : Fn) (first cap : Array Value) (w : World), (Instr.makeFunc fn first cap).run Tryd.prog w = .ok (.func fn first cap) w := fun _ _ _ _ => rfl
  go_enter Tryd.func15, Tryd.ntmps15
  go_wp2
  refine bodyPost_ret (v := .func (.func 26) #[] #[.pointer (some ⟨w.heap.size + 1, 0, none⟩), .pointer (some ⟨w.heap.size, 0, none⟩), .pointer (some ⟨w.heap.size + 1 + 1, 0, none⟩)]) (by simp [results, Tryd.results15, go_sem]) rfl ⟨rfl, ?_, ?_, ?_, ?_, ?_⟩
  · repeat' (first | (with_reducible exact Chg.refl _ _) | (with_reducible exact Ext.refl _) | (with_reducible assumption) | (with_reducible refine Chg.alloc ?_ _) | (with_reducible refine Chg.drew ?_) | (with_reducible refine Chg.drewN ?_ _) | (with_reducible refine Chg.setCell ?_ ?_ _) | (with_reducible refine Ext.alloc ?_ _) | (with_reducible refine Ext.drew ?_) | (with_reducible refine Ext.drewN ?_ _) | (with_reducible refine Ext.setCell ?_ ?_ _) | (simp; done) | (simp; omega) | omega)
  · simp
  · exact ((Blk.new w _ _).alloc _).alloc _
  · exact (Blk.new' _ _ _ (by simp)).alloc _
  · exact Blk.new' _ _ _ (by simp)
namespace Pv
def outS (seed m : List UInt8) (h : Int) (o : Option (Nat × Int)) : Sig × Int := match o with
  | some p => sgO seed h m p
  | none => (⟨0, [], []⟩, 0)
def outPC (seed m : List UInt8) (h : Int) (o : Option (Nat × Int)) : List PC := sigPC (outS seed m h o).1 ++ [.lit (.int .i64 (outS seed m h o).2)]
def runPV (seed m : List UInt8) (h : Int) (q : Option (Nat × Int) × HwS × Nat) : PV := .tup [.agg (hwL q.2.1), .agg (outPC seed m h q.1), .one (.lit (.int .i64 (q.2.2 : Int))), .one (.lit (.bool q.1.isSome))]
def LiveV (seed m : List UInt8) (h : Int) (q : Option (Nat × Int) × HwS × Nat) (ok : Nat → Prop) (hw : Array Value) (n : Int) (o : Option (Array Value)) (w : World) : Prop :=
  n = (q.2.2 : Int) ∧ RL { w := w, ok := ok, env := fun _ => none } (hwL q.2.1) hw.toList ∧ match o with
  | some ys => q.1.isSome = true ∧ RL { w := w, ok := ok, env := fun _ => none } (outPC seed m h q.1) ys.toList
  | none => q.1 = none
theorem LiveV.le {seed m : List UInt8} {h : Int} {q : Option (Nat × Int) × HwS × Nat} {ok ok' : Nat → Prop} {hw : Array Value} {n : Int} {o : Option (Array Value)} {w w' : World} (hv : LiveV seed m h q ok hw n o w) (hs : w.heap.size ≤ w'.heap.size) (hb : ∀ b, b < w.heap.size → ok b → ok' b ∧ w'.heap[b]? = w.heap[b]?) : LiveV seed m h q ok' hw n o w' := by
  obtain ⟨h1, h2, h3⟩ := hv
  refine ⟨h1, h2.le ⟨hs, fun b hb1 hb2 => hb b hb1 hb2, fun _ _ _ h => by cases h⟩, ?_⟩
  cases o with
  | none => exact h3
  | some ys => exact ⟨h3.1, h3.2.le ⟨hs, fun b hb1 hb2 => hb b hb1 hb2, fun _ _ _ h => by cases h⟩⟩
theorem hwL_size {C : Ctx} {h : HwS} {cs : Array Value} (hr : RL C (hwL h) cs.toList) : cs.size = 18 := by
  unfold hwL at hr
  obtain ⟨cs⟩ := cs
  dsimp only at hr
  cases hr with
  | cons k1 hr => cases hr with
    | cons k2 hr =>
      obtain ⟨k3, k4⟩ := hr.bs1
      have w1 := k1.width
      have w2 := k2.width
      subst k4
      simp [PC.width] at w1 w2
      simp [w1, w2, k3]
theorem hwL_one {C : Ctx} {h : HwS} {cs : Array Value} (hr : RL C (hwL h) cs.toList) : cs.all (·.oneCell') = true := by
  rw [← Array.all_toList, List.all_eq_true]
  exact fun x hx => hr.ones x hx
end Pv
theorem run_results2 {tmps : Array Value} {w : World} {Ab Ob : Nat} {hw : Array Value} (hs : hw.size = 18) {o0 o1 o2 o3 : Value} (h10 : tmps.getD 10 undef = .pointer (some ⟨Ab, 0, none⟩)) (h11 : tmps.getD 11 undef = .pointer (some ⟨Ob, 0, none⟩))
    (hA : Blk w Ab 34 hw) (hO : Blk w Ob 47 #[o0, o1, o2, o3]) :
    (results Tryd.f7 tmps).run Tryd.prog w = .ok (.tuple #[.agg hw, .agg #[o0, o1, o2, o3], tmps.getD 12 undef, tmps.getD 13 undef]) w := by
  have a0 := loadVar_blk hA hwb_wide hs
  have b0 := loadVar_blk hO sgo_wide rfl
  simp only [Array.getD_eq_getD_getElem?] at h10 h11
  simp [results, Tryd.results7, h10, h11, asAddr, a0, b0]
namespace Pv
def okF (ok0 : Nat → Prop) (S : Nat) : Nat → Prop := fun b => (ok0 b ∨ S ≤ b) ∧ ¬ (S ≤ b ∧ b < S + 14)
theorem live_sign (seed m : List UInt8) (hs : seed.length = 16) (hm : m.length = 16) (h : Int) (F : List Flt) (hF : F.length ≤ 1000000) (h0 : HwS) (hd : Dim h0) (ok0 : Nat → Prop) (hcs : Array Value) (B : Option Addr) (nF cF : Nat) (w : World) (hM : ShaMem w)
    (hH : RL { w := w, ok := ok0, env := fun _ => none } (hwL h0) hcs.toList) (hV : RL { w := w, ok := ok0, env := fun _ => none } [fltsPC F] [.slice B nF cF])
    (W0 w1 : World) (z1 : Ext w W0) (z7 : W0.heap.size = w.heap.size + 5) (k1 : Ext W0 w1) (k2 : w1.heap.size = W0.heap.size + 3) (k3 : Blk w1 W0.heap.size 23 (seed.map u8v).toArray) (k4 : Blk w1 (W0.heap.size + 1) 3 #[.int .i64 h]) (k5 : Blk w1 (W0.heap.size + 1 + 1) 23 (m.map u8v).toArray) :
    Calls Tryd.prog 14 #[.func (.func 26) #[] #[.pointer (some ⟨W0.heap.size + 1, 0, none⟩), .pointer (some ⟨W0.heap.size, 0, none⟩), .pointer (some ⟨W0.heap.size + 1 + 1, 0, none⟩)], .agg hcs, .slice B nF cF] w1 fun e w2 => Chg (fun k => W0.heap.size ≤ k) w1 w2 ∧
      ∃ hw' z A1 n1 c1 A2 n2 c2 er, e = .returned (.tuple #[.agg hw', .agg #[.int .i64 z, .slice A1 n1 c1, .slice A2 n2 c2, .int .i64 er], .int .i64 ((execL F (Prg.signI h) h0 0).2.2 : Int), .bool (execL F (Prg.signI h) h0 0).1.isSome]) ∧
        RL { w := w2, ok := okF ok0 w.heap.size, env := fun _ => none } (hwL (execL F (Prg.signI h) h0 0).2.1) hw'.toList ∧ RL { w := w2, ok := okF ok0 w.heap.size, env := fun _ => none } (outPC seed m h (execL F (Prg.signI h) h0 0).1) [.int .i64 z, .slice A1 n1 c1, .slice A2 n2 c2, .int .i64 er] := by
  obtain ⟨q, hq⟩ : ∃ q, execL F (Prg.signI h) h0 0 = q := ⟨_, rfl⟩
  rw [hq]
  refine (live_any 26 _ hcs B nF cF (LiveV seed m h q (okF ok0 w.heap.size)) W0.heap.size w1 (hwL_size hH) (hwL_one hH) (fun args w => by kernel_rfl) (by omega) (fun a n o wa wb hv hc => ?_) (fun wa hE hsz2 y1 y2 y3 => ?_)).mono ?_
  · exact hv.le hc.size (fun b hb hok => ⟨hok, hc.block b hb (fun hh => hok.2 (by omega))⟩)
  · have hEw : Ext w wa := (z1.trans k1).trans hE
    have hLe : ∀ {p : List PC} {xs : List Value}, RL { w := w, ok := ok0, env := fun _ => none } p xs → RL { w := wa, ok := okL (fun b => ok0 b ∨ w.heap.size ≤ b) (fun b => w.heap.size ≤ b ∧ b < w.heap.size + 14 ∧ b ≠ w1.heap.size + 1 + 1 + 1 + 1 ∧ b ≠ w1.heap.size + 1 ∧ b ≠ w1.heap.size + 1 + 1) (w1.heap.size + 1 + 1 + 1 + 1) (w1.heap.size + 1) (w1.heap.size + 1 + 1), env := fun _ => none } p xs := fun hr =>
      hr.le ⟨hEw.size, fun b hb hok => by
        have hb' : b < w.heap.size := hb
        exact ⟨⟨.inl hok, fun hx => by omega, by omega, by omega, by omega⟩, hEw.block b hb (fun hh => hh)⟩, fun _ _ _ h => by cases h⟩
    have hsg := sign1_live seed m hs hm h F hF h0 hd W0.heap.size w1 wa hE (by omega) (fun w' hc => hM.past (B := W0.heap.size) (by omega) (hM.ext hEw) hc) k3 k4 k5 (w1.heap.size + 1 + 1 + 1 + 1) (w1.heap.size + 1) (w1.heap.size + 1 + 1) (by omega) (by omega) (by omega)
      (fun b => ok0 b ∨ w.heap.size ≤ b) (fun b => w.heap.size ≤ b ∧ b < w.heap.size + 14 ∧ b ≠ w1.heap.size + 1 + 1 + 1 + 1 ∧ b ≠ w1.heap.size + 1 ∧ b ≠ w1.heap.size + 1 + 1) ⟨by omega, by omega, by omega⟩
      { bn := y3, bf := ⟨_, y1, hLe hV⟩, bh := ⟨_, y2, hLe hH⟩, ne := ⟨by omega, by omega, by omega⟩, good := fun c hc => (by cases hc), mine := fun b hb => ⟨by omega, hb.2.2.1, hb.2.2.2.1, hb.2.2.2.2⟩, mem := hM.ext hEw, tab := fun b hb => (by have := sha_lt hM hb; exact ⟨fun hx => by omega, by omega, by omega, by omega⟩), up := fun b hb => .inr (by omega) }
    rw [hq] at hsg
    refine hsg.mono ?_
    rintro e w2 ⟨hc, hN, ⟨cs, hb, hrl⟩, hend⟩
    have hok : ∀ b, okL (fun b => ok0 b ∨ w.heap.size ≤ b) (fun b => w.heap.size ≤ b ∧ b < w.heap.size + 14 ∧ b ≠ w1.heap.size + 1 + 1 + 1 + 1 ∧ b ≠ w1.heap.size + 1 ∧ b ≠ w1.heap.size + 1 + 1) (w1.heap.size + 1 + 1 + 1 + 1) (w1.heap.size + 1) (w1.heap.size + 1 + 1) b → okF ok0 w.heap.size b := fun b hb => ⟨hb.1, fun hx => hb.2.1 ⟨hx.1, hx.2, hb.2.2⟩⟩
    have hrl' : RL { w := w2, ok := okF ok0 w.heap.size, env := fun _ => none } (hwL q.2.1) cs.toList := hrl.le ⟨Nat.le_refl _, fun b _ hb => ⟨hok b hb, rfl⟩, fun _ _ _ h => by cases h⟩
    refine ⟨hc, cs, _, hwL_size hrl, hwL_one hrl, hb, hN, ?_⟩
    rcases hend with ⟨p, z, A1, n1, c1, A2, n2, c2, er, hq1, rfl, hout⟩ | ⟨hq1, rfl⟩
    · refine .inl ⟨z, A1, n1, c1, A2, n2, c2, er, rfl, rfl, hrl', by rw [hq1]; rfl, ?_⟩
      rw [hq1]
      exact hout.le ⟨Nat.le_refl _, fun b _ (hb : wa.heap.size ≤ b) => ⟨⟨.inr (by omega), fun hx => by omega⟩, rfl⟩, fun _ _ _ h => by cases h⟩
    · exact .inr ⟨rfl, rfl, hrl', hq1⟩
  rintro e w2 ⟨hc, hw', n, _, hq2⟩
  refine ⟨hc, ?_⟩
  rcases hq2 with ⟨z, A1, n1, c1, A2, n2, c2, er, rfl, v1, v2, v3, v4⟩ | ⟨rfl, v1, v2, v3⟩
  · exact ⟨hw', z, A1, n1, c1, A2, n2, c2, er, by rw [v1, v3], v2, v4⟩
  · refine ⟨hw', 0, none, 0, 0, none, 0, 0, 0, by rw [v1, v3]; rfl, v2, ?_⟩
    rw [v3]
    have hn : R { w := w2, ok := okF ok0 w.heap.size, env := fun _ => none } (.sl 16 0 (digF [])) [.slice none 0 0] := .sl (Reads.nil _ 16) (fun _ _ h => absurd h (by simp)) (fun i h => absurd h (by simp))
    exact .cons (xs := [_]) (.lit rfl) (.cons (xs := [_]) hn (.cons (xs := [_]) hn (.cons (xs := [_]) (.lit rfl) .nil)))
end Pv
end Go.Proofs.YtihghljfmlbfhaaDoor


namespace Go.Proofs.YtihghljfmlbfhaaDoor
open Go.RowKit
theorem Pv.rv_run {C : Pv.Ctx} {l1 l2 : List Pv.PC} {c1 c2 : Array Value} {b : Int} {d : Bool} (h1 : Pv.RL C l1 c1.toList) (h2 : Pv.RL C l2 c2.toList) : Pv.RV C (.tup [.agg l1, .agg l2, .one (.lit (.int .i64 b)), .one (.lit (.bool d))]) (.tuple #[.agg c1, .agg c2, .int .i64 b, .bool d]) :=
  .tup rfl (fun i x hx => by
    match i, hx with
    | 0, hx => cases hx; exact ⟨_, rfl, .agg h1⟩
    | 1, hx => cases hx; exact ⟨_, rfl, .agg h2⟩
    | 2, hx => cases hx; exact ⟨_, rfl, .one (.lit rfl)⟩
    | 3, hx => cases hx; exact ⟨_, rfl, .one (.lit rfl)⟩
    | i + 4, hx => cases hx)
set_option maxRecDepth 100000 in
set_option maxHeartbeats 4000000 in
theorem run_any (seed m : List UInt8) (hs : seed.length = 16) (hm : m.length = 16) (h : Int) (F : List Flt) (hF : F.length ≤ 1000000) (h0 : HwS) (hd : Dim h0) (ok0 : Nat → Prop) (hcs : Array Value) (B : Option Addr) (nF cF : Nat) (w : World) (hM : ShaMem w)
    (hH : Pv.RL { w := w, ok := ok0, env := fun _ => none } (Pv.hwL h0) hcs.toList) (hV : Pv.RL { w := w, ok := ok0, env := fun _ => none } [Pv.fltsPC F] [.slice B nF cF]) :
    Calls Tryd.prog 7 #[.agg hcs, .agg (seed.map u8v).toArray, .int .i64 h, .agg (m.map u8v).toArray, .slice B nF cF] w fun e w' => Ext w w' ∧ ∃ val, e = .returned val ∧
      Pv.RV { w := w', ok := fun b => ok0 b ∨ w.heap.size ≤ b, env := fun _ => none } (Pv.runPV seed m h (execL F (Prg.signI h) h0 0)) val := by
  have HSZ := hide (show hcs.size = 18 ∧ (seed.map u8v).toArray.size = 16 ∧ (m.map u8v).toArray.size = 16 from ⟨Pv.hwL_size hH, by simpa using hs, by simpa using hm⟩)
  have HR := hide (fun W => sign_clo2 (seed.map u8v).toArray (m.map u8v).toArray h W (by simpa using hs) (by simpa using hm))
  have HV := hide (fun W0 w1 z1 z7 => Pv.live_sign seed m hs hm h F hF h0 hd ok0 hcs B nF cF w hM hH hV W0 w1 z1 z7)
  obtain ⟨q, hq⟩ : ∃ q, execL F (Prg.signI h) h0 0 = q := ⟨_, rfl⟩
  rw [hq] at HV ⊢
  obtain ⟨arr, harr⟩ : ∃ x, (seed.map u8v).toArray = x := ⟨_, rfl⟩
  obtain ⟨mrr, hmrr⟩ : ∃ x, (m.map u8v).toArray = x := ⟨_, rfl⟩
  rw [harr] at HSZ HR HV ⊢
  rw [hmrr] at HSZ HR HV ⊢
  clear harr hmrr hM hs hm hF hd hH hV hq
  go_enter Tryd.func7, Tryd.ntmps7
  go_upto_region 1 with fail
  generalize hW0 : World.alloc _ (.cells _ 47) = W0
  have z1 : Ext w W0 := by
    rw [← hW0]
    repeat' (first | (with_reducible exact Chg.refl _ _) | (with_reducible exact Ext.refl _) | (with_reducible assumption) | (with_reducible refine Chg.alloc ?_ _) | (with_reducible refine Chg.drew ?_) | (with_reducible refine Chg.drewN ?_ _) | (with_reducible refine Chg.setCell ?_ ?_ _) | (with_reducible refine Ext.alloc ?_ _) | (with_reducible refine Ext.drew ?_) | (with_reducible refine Ext.drewN ?_ _) | (with_reducible refine Ext.setCell ?_ ?_ _) | (simp; done) | (simp; omega) | omega)
  have z2 : Blk W0 w.heap.size 34 hcs := by rw [← hW0]; exact ((((Blk.new w _ _).alloc _).alloc _).alloc _).alloc _
  have z3 : Blk W0 (w.heap.size + 1) 23 arr := by rw [← hW0]; exact (((Blk.new' _ _ _ (by simp)).alloc _).alloc _).alloc _
  have z4 : Blk W0 (w.heap.size + 1 + 1) 23 mrr := by rw [← hW0]; exact ((Blk.new' _ _ _ (by simp)).alloc _).alloc _
  have z5 : Blk W0 (w.heap.size + 1 + 1 + 1) 34 (#[.slice none 0 0, .slice none 0 0] ++ Array.replicate 16 (.int .u8 0)) := by rw [← hW0]; exact (Blk.new' _ _ _ (by simp)).alloc _
  have z6 : Blk W0 (w.heap.size + 1 + 1 + 1 + 1) 47 #[.int .i64 0, .slice none 0 0, .slice none 0 0, .int .i64 0] := by rw [← hW0]; exact Blk.new' _ _ _ (by simp)
  have z7 : W0.heap.size = w.heap.size + 5 := by rw [← hW0]; simp
  have z8 : Ext w W0.drew := z1.drew
  have HZ := hide (show Ext w W0.drew ∧ Blk W0.drew (w.heap.size + 1 + 1 + 1) 34 (#[.slice none 0 0, .slice none 0 0] ++ Array.replicate 16 (.int .u8 0)) ∧ Blk W0.drew (w.heap.size + 1 + 1 + 1 + 1) 47 #[.int .i64 0, .slice none 0 0, .slice none 0 0, .int .i64 0] ∧ W0.drew.heap.size = w.heap.size + 5 from ⟨z8, z5.drew, z6.drew, z7⟩)
  refine wp_region_held_drew (S := fun W => Blk W w.heap.size 34 hcs ∧ Blk W (w.heap.size + 1) 23 arr ∧ Blk W (w.heap.size + 1 + 1) 23 mrr) (by kernel_rfl) ⟨z2.drew, z3.drew, z4.drew⟩ (fun hHeld => ?_)
  clear hW0 z1 z2 z3 z4 z5 z6 z7 z8
  generalize W0.drew = Wd at HZ hHeld ⊢
  refine wpAnyH_take (i := 0) (oi := _) (v := _) rfl (by kernel_rfl) (by kernel_rfl) (by kernel_rfl) (fun _ _ _ h => h) (ylb digest_wide rfl (by rfl) rfl (unhide HSZ).2.1 (fun w' hw => hw.2.1)) (by assumption) ?_
  try simp only [Act.put, List.setIfInBounds_toArray, List.set_cons_zero, List.set_cons_succ, List.getElem_toArray, List.getElem_cons_zero]
  refine wpAnyH_take (i := 1) (oi := _) (v := ?_) rfl (by kernel_rfl) (by kernel_rfl) (by kernel_rfl) (fun _ _ _ h => h) (Or.inl ⟨by rfl, fun wz hSz => ?_⟩) (by assumption) ?_
  rotate_left
  · (first | (go_simp; done) | (go_simp; with_reducible rfl))
  try simp only [Act.put, List.setIfInBounds_toArray, List.set_cons_zero, List.set_cons_succ, List.getElem_toArray, List.getElem_cons_succ, List.getElem_cons_zero]
  refine wpAnyH_take (i := 2) (oi := _) (v := _) rfl (by kernel_rfl) (by kernel_rfl) (by kernel_rfl) (fun _ _ _ h => h) (ylb digest_wide rfl (by rfl) rfl (unhide HSZ).2.2 (fun w' hw => hw.2.2)) (by assumption) ?_
  try simp only [Act.put, List.setIfInBounds_toArray, List.set_cons_zero, List.set_cons_succ, List.getElem_toArray, List.getElem_cons_succ, List.getElem_cons_zero]
  refine wpAnyH_take (i := 4) (oi := _) (v := _) rfl (by kernel_rfl) (by kernel_rfl) (by kernel_rfl) (fun _ _ _ h => h) (ylb hwb_wide rfl (by rfl) rfl (unhide HSZ).1 (fun w' hw => hw.1)) (by assumption) ?_
  try simp only [Act.put, List.setIfInBounds_toArray, List.set_cons_zero, List.set_cons_succ, List.getElem_toArray, List.getElem_cons_succ, List.getElem_cons_zero]
  refine wpAnyH_take (i := 5) (oi := _) (v := ?_) rfl (by kernel_rfl) (by kernel_rfl) (by kernel_rfl) (fun _ _ _ h => h) (Or.inl ⟨by rfl, fun wz hSz => ?_⟩) (by assumption) ?_
  rotate_left
  · (first | (go_simp; done) | (go_simp; with_reducible rfl))
  try simp only [Act.put, List.setIfInBounds_toArray, List.set_cons_zero, List.set_cons_succ, List.getElem_toArray, List.getElem_cons_succ, List.getElem_cons_zero]
  refine wpAnyH_ready (rs := [3]) (by kernel_rfl) (by simp) (AllReadyH.cons (o := _) rfl (fun K hK => ?_) AllReadyH.nil)
  try go_simp
  (refine (unhide HR Wd).mono ?_; rintro e w1 ⟨rfl, k1, k2, k3, k4, k5⟩; have hS := And.intro (hHeld.1.ext k1) (And.intro (hHeld.2.1.ext k1) (hHeld.2.2.ext k1)); have H1 := hide (And.intro k1 (And.intro k2 (And.intro k3 (And.intro k4 k5)))); clear hHeld k1 k2 k3 k4 k5)
  refine hK.out _ _ ?_ (fun hHeld => ?_)
  · exact hS
  clear hK K
  try simp only [Act.put, List.setIfInBounds_toArray, List.set_cons_zero, List.set_cons_succ, List.getElem_toArray, List.getElem_cons_succ, List.getElem_cons_zero]
  refine wpAnyH_ready (rs := [6]) (by kernel_rfl) (by simp) (AllReadyH.cons (o := _) rfl (fun K hK => ?_) AllReadyH.nil)
  try go_simp
  (obtain ⟨k1, k2, k3, k4, k5⟩ := unhide H1; have hz := (unhide HZ).2.2.2; refine (unhide HV Wd w1 (unhide HZ).1 hz k1 k2 k3 k4 k5).mono ?_; rintro e w2 ⟨hc, hw', z, A1, n1, c1, A2, n2, c2, er, rfl, r1, r2⟩; have hS := And.intro (hHeld.1.chg hc (by omega)) (And.intro (hHeld.2.1.chg hc (by omega)) (hHeld.2.2.chg hc (by omega))); have H2 := hide (And.intro (((unhide HZ).1.trans k1).trans' hc (fun _ _ h => h) (fun i hi e => by omega)) (And.intro (((unhide HZ).2.1.ext k1).chg hc (by omega)) (And.intro (((unhide HZ).2.2.1.ext k1).chg hc (by omega)) (And.intro r1 r2)))); have e3 := Pv.hwL_size r1; have e4 := Pv.hwL_one r1; clear hHeld k1 k2 k3 k4 k5 hz hc r1 r2 H1)
  refine hK.out _ _ ?_ (fun hHeld => ?_)
  · exact hS
  clear hK K
  try simp only [Act.put, List.setIfInBounds_toArray, List.set_cons_zero, List.set_cons_succ, List.getElem_toArray, List.getElem_cons_succ, List.getElem_cons_zero]
  refine wpAnyH_take (i := 7) (oi := _) (v := ?_) rfl (by kernel_rfl) (by kernel_rfl) (by kernel_rfl) (fun _ _ _ h => h) (Or.inl ⟨by rfl, fun wz hSz => ?_⟩) (by assumption) ?_
  rotate_left
  · (first | (go_simp; done) | (go_simp; with_reducible rfl))
  try simp only [Act.put, List.setIfInBounds_toArray, List.set_cons_zero, List.set_cons_succ, List.getElem_toArray, List.getElem_cons_succ, List.getElem_cons_zero]
  refine wpAnyH_take (i := 8) (oi := _) (v := ?_) rfl (by kernel_rfl) (by kernel_rfl) (by kernel_rfl) (fun _ _ _ h => h) (Or.inl ⟨by rfl, fun wz hSz => ?_⟩) (by assumption) ?_
  rotate_left
  · (first | (go_simp; done) | (go_simp; with_reducible rfl))
  try simp only [Act.put, List.setIfInBounds_toArray, List.set_cons_zero, List.set_cons_succ, List.getElem_toArray, List.getElem_cons_succ, List.getElem_cons_zero]
  refine wpAnyH_take (i := 9) (oi := _) (v := ?_) rfl (by kernel_rfl) (by kernel_rfl) (by kernel_rfl) (fun _ _ _ h => h) (Or.inl ⟨by rfl, fun wz hSz => ?_⟩) (by assumption) ?_
  rotate_left
  · (first | (go_simp; done) | (go_simp; with_reducible rfl))
  try simp only [Act.put, List.setIfInBounds_toArray, List.set_cons_zero, List.set_cons_succ, List.getElem_toArray, List.getElem_cons_succ, List.getElem_cons_zero]
  refine wpAnyH_take (i := 10) (oi := _) (v := ?_) rfl (by kernel_rfl) (by kernel_rfl) (by kernel_rfl) (fun _ _ _ h => h) (Or.inl ⟨by rfl, fun wz hSz => ?_⟩) (by assumption) ?_
  rotate_left
  · (first | (go_simp; done) | (go_simp; with_reducible rfl))
  try simp only [Act.put, List.setIfInBounds_toArray, List.set_cons_zero, List.set_cons_succ, List.getElem_toArray, List.getElem_cons_succ, List.getElem_cons_zero]
  refine wpAnyH_ready (rs := [11]) (by kernel_rfl) (by simp) (AllReadyH.cons (o := _) rfl (fun K hK => ?_) AllReadyH.nil)
  (refine step_storeB (ty := 34) (t := 34) (x := .tmp 10) (y := .tmp 21) rfl rfl hwb_wide rfl rfl (unhide H2).2.1 rfl e3 e4 ?_; intro w3 hb3 hc3 hz3; have hS := And.intro (hHeld.1.chg hc3 (by omega)) (And.intro (hHeld.2.1.chg hc3 (by omega)) (hHeld.2.2.chg hc3 (by omega))); have H3 := hide (And.intro hb3 (And.intro hc3 hz3)); clear hHeld hb3 hc3 hz3)
  refine hK.out _ _ ?_ (fun hHeld => ?_)
  · exact hS
  clear hK K
  try simp only [Act.put, List.getElem_toArray, List.getElem_cons_succ, List.getElem_cons_zero]
  refine wpAnyH_ready (rs := [12]) (by kernel_rfl) (by simp) (AllReadyH.cons (o := _) rfl (fun K hK => ?_) AllReadyH.nil)
  (refine step_storeB (ty := 47) (t := 47) (x := .tmp 11) (y := .tmp 22) rfl rfl sgo_wide rfl rfl ((unhide H2).2.2.1.chg (unhide H3).2.1 (by omega)) rfl rfl (by rw [← Array.all_toList]; rfl) ?_; intro w4 hb4 hc4 hz4; have hS := And.intro (hHeld.1.chg hc4 (by omega)) (And.intro (hHeld.2.1.chg hc4 (by omega)) (hHeld.2.2.chg hc4 (by omega))); have H4 := hide (And.intro hb4 (And.intro hc4 hz4)); clear hHeld hb4 hc4 hz4)
  refine hK.out _ _ ?_ (fun hHeld => ?_)
  · exact hS
  clear hK K
  try simp only [Act.put, List.getElem_toArray, List.getElem_cons_succ, List.getElem_cons_zero]
  refine wpAnyH_take (i := 13) (oi := _) (v := ?_) rfl (by kernel_rfl) (by kernel_rfl) (by kernel_rfl) (fun _ _ _ h => h) (Or.inl ⟨by rfl, fun wz hSz => ?_⟩) (by assumption) ?_
  rotate_left
  · (first | (go_simp; done) | (go_simp; with_reducible rfl))
  try simp only [Act.put, List.setIfInBounds_toArray, List.set_cons_zero, List.set_cons_succ, List.getElem_toArray, List.getElem_cons_succ, List.getElem_cons_zero]
  refine wpAnyH_take (i := 14) (oi := _) (v := ?_) rfl (by kernel_rfl) (by kernel_rfl) (by kernel_rfl) (fun _ _ _ h => h) (Or.inl ⟨by rfl, fun wz hSz => ?_⟩) (by assumption) ?_
  rotate_left
  · (first | (go_simp; done) | (go_simp; with_reducible rfl))
  try simp only [Act.put, List.setIfInBounds_toArray, List.set_cons_zero, List.set_cons_succ, List.getElem_toArray, List.getElem_cons_succ, List.getElem_cons_zero]
  refine wpAnyH_done (by kernel_rfl) ?_ _
  clear hHeld
  go_wp2
  obtain ⟨x1, _, _, r1, r2⟩ := unhide H2
  obtain ⟨b3, c3, s3⟩ := unhide H3
  obtain ⟨b4, c4, s4⟩ := unhide H4
  refine bodyPost_ret (run_results2 e3 rfl rfl (b3.chg c4 (by omega)) b4) rfl ⟨?_, _, rfl, ?_⟩
  · exact (x1.trans' c3 (fun _ _ h => h) (fun i hi e => by omega)).trans' c4 (fun _ _ h => h) (fun i hi e => by omega)
  · have hLe : ∀ {p : List Pv.PC} {xs : List Value}, Pv.RL { w := w2, ok := Pv.okF ok0 w.heap.size, env := fun _ => none } p xs → Pv.RL { w := w4, ok := fun b => ok0 b ∨ w.heap.size ≤ b, env := fun _ => none } p xs := fun hr =>
      hr.le ⟨by rw [s4, s3]; exact Nat.le_refl _, fun b hb hok => ⟨hok.1, by
        have hn : ¬ (w.heap.size ≤ b ∧ b < w.heap.size + 14) := hok.2
        exact (c4.block b (by rw [s3]; exact hb) (by omega)).trans (c3.block b hb (by omega))⟩, fun _ _ _ h => by cases h⟩
    show Pv.RV _ (Pv.runPV seed m h q) (.tuple #[.agg hw', .agg #[.int .i64 z, .slice A1 n1 c1, .slice A2 n2 c2, .int .i64 er], .int .i64 (q.2.2 : Int), .bool q.1.isSome])
    exact Pv.rv_run (hLe r1) (hLe r2)
namespace Pv
def fltOf1 : List PC → Option Flt
  | [.lit (.bool c), .lit (.int .i64 b), .lit (.bool n)] => some ⟨c, b, n⟩
  | _ => none
def rowFlt (n : Nat) (f : Nat → List PC) : List Flt := (List.range n).map fun i => (fltOf1 (f i)).getD flt0
def fltOf : PC → Option (Prop × List Flt)
  | .sl 3 n f => some (∀ i, i < n → (fltOf1 (f i)).isSome = true, rowFlt n f)
  | .lit (.slice none 0 0) => some (True, [])
  | _ => none
theorem fltOf1_ok {l : List PC} (h : (fltOf1 l).isSome = true) : l = fltPC ((fltOf1 l).getD flt0) := by
  unfold fltOf1 at h ⊢
  split
  · rfl
  · rename_i hn
    split at h
    · rename_i c b n; exact absurd rfl (hn c b n)
    · cases h
theorem fltOf_ok {C : Ctx} {c : PC} {p : Prop} {F : List Flt} (e : fltOf c = some (p, F)) (hp : p) {v : Value} (hr : R C c [v]) : (∃ B n k, v = .slice B n k) ∧ R C (fltsPC F) [v] := by
  unfold fltOf at e
  split at e
  · rename_i n f
    cases e
    have hlen : (rowFlt n f).length = n := by simp [rowFlt]
    refine ⟨?_, ?_⟩
    · cases hr with
      | sl r _ _ =>
        obtain ⟨_, A, k, rfl, _⟩ := r
        exact ⟨_, _, _, rfl⟩
    · unfold fltsPC
      rw [hlen]
      refine hr.sl_ext fun i hi => ?_
      have h1 := fltOf1_ok (hp i hi)
      rw [h1]
      unfold fltF rowFlt
      congr 1
      rw [List.getD_eq_getElem?_getD, List.getElem?_map, List.getElem?_range hi]
      rfl
  · cases e
    obtain rfl : v = .slice none 0 0 := by cases hr; rfl
    exact ⟨⟨_, _, _, rfl⟩, R.sl (Reads.nil _ 3) (fun _ _ h => absurd h (by simp)) (fun i h => absurd h (by simp))⟩
  · cases e
def runG : List PV → Option (Prop × PV)
  | [.w (.agg hl), .w (.agg [.bs 16 seed]), .w (.one (.lit (.int .i64 h))), .w (.agg [.bs 16 m]), .w (.one fv)] => match hwOf hl, fltOf fv with
    | some (p, h0), some (p2, F) => some (p ∧ p2 ∧ Dim h0 ∧ F.length ≤ 1000000, runPV seed m h (execL F (Prg.signI h) h0 0))
    | _, _ => none
  | _ => none
theorem run_spec : SpecOk Tryd.prog ShaMem 7 (funSpec false runG) := by
  refine funSpec_ok (call_enters Tryd.func7 (by kernel_rfl) rfl) (fun xs p r hg hp w ok0 vs hI hv => ?_)
  unfold runG at hg
  split at hg
  · rename_i hl seed h m fv
    split at hg
    · rename_i p1 h0 p2 F e1 e2
      cases hg
      obtain ⟨q1, q2, q3, q4⟩ := hp
      match vs, hv with
      | [v1, v2, v3, v4, v5], ⟨k1, k2, k3, k4, k5, _⟩ =>
        obtain rfl := k3.lit_inv
        cases k1 with
        | w k1 => cases k1 with
          | @agg _ c1 k1 =>
            cases k2 with
            | w k2 => cases k2 with
              | @agg _ c2 k2 =>
                cases k4 with
                | w k4 => cases k4 with
                  | @agg _ c4 k4 =>
                    cases k5 with
                    | w k5 => cases k5 with
                      | one k5 =>
                        obtain ⟨c2⟩ := c2
                        obtain ⟨c4⟩ := c4
                        dsimp only at k2 k4
                        obtain ⟨s1, rfl⟩ := k2.bs1
                        obtain ⟨s2, rfl⟩ := k4.bs1
                        obtain ⟨⟨B, n, k, rfl⟩, hf⟩ := fltOf_ok e2 q2 k5
                        have hf' := RL.cons hf RL.nil
                        refine (run_any seed m s1 s2 h F q4 h0 q3 ok0 c1 B n k w hI (hwOf_rl e1 q1 k1) hf').mono ?_
                        rintro e w' ⟨hE, val, rfl, hval⟩
                        exact ⟨val, rfl, hE, hval.le ⟨Nat.le_refl _, fun b _ hb => ⟨hb.elim (fun h => .inl ⟨rfl, h⟩) .inr, rfl⟩, fun _ _ _ h => by cases h⟩⟩
    · cases hg
  · cases hg
end Pv
end Go.Proofs.YtihghljfmlbfhaaDoor


namespace Go.Proofs.YtihghljfmlbfhaaDoor.Pv
open Go.RowKit
theorem lvMN : Mach Tryd.prog ShaMem (find ([] : List (Nat × Spec))) := ⟨specs_of (fun p hp => by cases hp), mixed_⟩
def sec0 : List UInt8 := List.replicate 256 0
def flN : Fl := List.replicate 128 (strOf sec0)
theorem zero_str (n : Nat) : rowB n (fun _ => [PC.lit (.int .u8 0)]) = List.replicate n 0 := by
  unfold rowB
  rw [List.eq_replicate_iff]
  refine ⟨by simp, fun b hb => ?_⟩
  obtain ⟨_, _, rfl⟩ := List.mem_map.1 hb
  rfl
def nw8F : Nat → List PC := fun _ => [.lit (.string (strOf sec0))]
def nw8St (k : Nat) : St := ⟨[(0, none, pvI 128), (2, none, pv1 (.pt 0 0 0)), (4, none, pv1 (.pt 3001 0 0)), (5, none, pvI k)], [(0, none, 0, .box 32 [.lit (.slice none 0 0)]), (3001, none, 0, .box 32 [.ow 7005 0 1 0 k]), (7005, none, 0, .arr 9 1 k nw8F)]⟩
set_option maxRecDepth 100000 in
set_option maxHeartbeats 1000000 in
theorem new8_fun : FunOk Tryd.prog ShaMem 10 true [pvI 128] (.tup [.agg (flPC flN), .one (.lit (.int .i64 0))]) := by
  have M := lvMN
  have hb1 : Tryd.prog.types[9].bytes = 16 := by kernel_rfl
  have hb2 : Tryd.prog.types[5].bytes = 1 := by kernel_rfl
  have hs1 : Tryd.prog.types[9].size = 1 := by kernel_rfl
  refine funOk_of Tryd.func10 rfl rfl sha_ext (fun A hS hn hI => ?_)
  refine tri_reg M hI hn (outs := ?_) (s' := ?_) ?_ ?_ ?_ ?_
  rotate_left 2
  · rfl
  · kernel_rfl
  · simp
  refine tri_seq ?_
  refine tri_reg M hI hn (outs := ?_) (s' := ?_) ?_ ?_ ?_ ?_
  rotate_left 2
  · rfl
  · kernel_rfl
  · simp
  refine tri_cond (b := ?_) ?_ (fun hc => ?_) (fun hc => ?_)
  rotate_left 1
  · rfl
  · cases hc
  · refine tri_skip ?_
    change Tri _ _ _ _ _
    refine tri_reg M hI hn (outs := ?_) (s' := ?_) ?_ ?_ ?_ ?_
    rotate_left 2
    · rfl
    · kernel_rfl
    · simp
    refine tri_seq ?_
    refine tri_reg M hI hn (outs := ?_) (s' := ?_) ?_ ?_ ?_ ?_
    rotate_left 2
    · rfl
    · kernel_rfl
    · simp
    refine tri_conv (s' := nw8St 0) (fun a w hg => ((hg.nilRowB (x := 7005) (b := 3001) (e := 9) (n := 1) (l1 := []) (by rfl) (by rfl)).reset (kT := [0, 2, 4, 5]) (kO := [0, 3001, 7005]) (by rfl) (by simp)).same ?_ ?_) ?_
    · exact .cons rfl (.cons rfl (.cons rfl (.cons rfl .nil)))
    · exact .cons (.box rfl) (.cons (.box rfl) (.cons (.arr rfl (fun i hi => by omega)) .nil))
    refine tri_block ?_
    refine tri_loop 128 (fun k t => t = nw8St k) 0 rfl (by omega) (fun k t hJ hk => ?_)
    subst hJ
    refine tri_seq ?_
    refine tri_reg M hI hn (outs := ?_) (s' := ?_) ?_ ?_ ?_ ?_
    rotate_left 2
    · rfl
    · kernel_rfl
    · simp
    refine tri_cond (b := ?_) ?_ (fun hc => ?_) (fun hc => ?_)
    rotate_left 1
    · rfl
    · have hk2 : k < 128 := by have := of_decide_eq_true hc; omega
      refine tri_skip ?_
      change Tri _ _ _ _ _
      refine tri_seq ?_
      refine tri_block ?_
      refine tri_region M hI hn (outs := ?_) (s' := ?_) ?_ ?_ ?_ ?_
      rotate_left 2
      · rfl
      · kernel_rfl
      · simp [hb1, hb2]
        exact ⟨fun _ _ => rfl, by omega⟩
      change Tri _ _ _ _ _
      refine tri_region M hI hn (outs := ?_) (s' := ?_) ?_ ?_ ?_ ?_
      rotate_left 2
      · rfl
      · kernel_rfl
      · simp
      intro a w hg
      refine ⟨k + 1, _, by omega, by omega, rfl, (hg.reset (kT := [0, 2, 4, 5]) (kO := [0, 3001, 7005]) (by rfl) ?_).same ?_ ?_⟩
      · simp
        exact appF_cold (fun j _ => all_cold rfl) (all_cold rfl)
      · exact .cons rfl (.cons rfl (.cons rfl (.cons (by rw [wrap_nat k (by omega)]) .nil)))
      · exact .cons (.box rfl) (.cons (.box rfl) (.cons (.arr rfl (appF_ext (fun i _ => rfl) (by show [PC.lit (.string ⟨(rowB 256 (fun _ => [PC.lit (.int .u8 0)])).toArray⟩)] = nw8F k; rw [zero_str]; rfl))) .nil))
    · have hk2 : k = 128 := by have := of_decide_eq_false hc; omega
      subst hk2
      refine tri_exit ?_
      change Tri _ _ _ _ _
      refine tri_reg M hI hn (outs := ?_) (s' := ?_) ?_ ?_ ?_ ?_
      rotate_left 2
      · rfl
      · kernel_rfl
      · simp
      refine tri_ret (fun a w hg => ⟨.inr rfl, _, ?_, hg⟩)
      refine retTo_ex (out := ?_) ?_ ?_ ?_ ?_
      rotate_left 1
      · rfl
      · simp
      · rfl
      refine .tup (.cons (.agg (.cons (.row rfl trivial (by omega) (fun i hi => ?_) (fun i hi => rfl)) .nil)) (.cons (.one (.cold rfl)) .nil))
      rw [Nat.zero_add]
      unfold nw8F fsF flN
      rw [List.getD_eq_getElem?_getD, List.getElem?_replicate, if_pos hi]
      rfl
end Go.Proofs.YtihghljfmlbfhaaDoor.Pv


namespace Go.Proofs.YtihghljfmlbfhaaDoor.Pv
open Go.RowKit
variable {A : Amb} {s : St} {a : Act} {w : World} {env : Env} {kF kO : List Nat} {R : List (Nat × (Nat → List PC))}
def rvOR (R : List (Nat × (Nat → List PC))) (kF kO : List Nat) (s : St) (x : Nat) : AObj → Option (List Prop × AObj)
  | .arr e n len f => (match find R x with
    | some f' => some ([∀ i, i < len → rvL kF kO s (f i) = some (f' i)], .arr e n len f')
    | none => some ([∀ i, i < len → (f i).all (coldPC false) = true], .arr e n len f))
  | ob => rvO kF kO s ob
def keepOR (R : List (Nat × (Nat → List PC))) (kF kO : List Nat) (s : St) : List Nat → Option (List Prop × Wr)
  | [] => some ([], [])
  | x :: l => match find s.o x, keepOR R kF kO s l with
    | some (g, _, ob), some (cs, r) => (match rvOR R kF kO s x ob with | some (c, ob') => some (c ++ cs, (x, g, 0, ob') :: r) | none => none)
    | _, _ => none
def resetStR (R : List (Nat × (Nat → List PC))) (kF kT kO : List Nat) (s : St) : Option (List Prop × St) := match keepT kF kO s kT, keepOR R kF kO s kO, extKept kO s, keepF s kF with
  | some t, some (cs, o), true, some cf => some (cs ++ cf, ⟨t, o⟩)
  | _, _, _, _ => none
theorem keepOR_at : ∀ {l : List Nat} {cs : List Prop} {r : Wr} {x : Nat}, keepOR R kF kO s l = some (cs, r) → (find r x = none → ¬ (l.any (Nat.beq x) = true)) ∧ ∀ g ver ob, find r x = some (g, ver, ob) → ver = 0 ∧ l.any (Nat.beq x) = true ∧ ∃ vr ob0 c, find s.o x = some (g, vr, ob0) ∧ rvOR R kF kO s x ob0 = some (c, ob) ∧ (All cs → All c)
  | [], cs, r, x, h => by
    simp only [keepOR, Option.some.injEq, Prod.mk.injEq] at h
    obtain ⟨rfl, rfl⟩ := h
    exact ⟨fun _ => by simp, fun g ver ob hf => by cases hf⟩
  | x0 :: l, cs, r, x, h => by
    unfold keepOR at h
    cases h1 : find s.o x0 <;> cases h2 : keepOR R kF kO s l <;> simp only [h1, h2] at h <;> try (cases h; done)
    rename_i p q
    obtain ⟨g0, vr0, ob0⟩ := p
    obtain ⟨cs2, r2⟩ := q
    dsimp only at h
    cases h3 : rvOR R kF kO s x0 ob0 <;> simp only [h3] at h <;> try (cases h; done)
    rename_i z
    obtain ⟨c, ob'⟩ := z
    cases h
    have allL : ∀ {a b : List Prop}, All (a ++ b) → All a ∧ All b := by
      intro a
      induction a with
      | nil => intro b h; exact ⟨trivial, h⟩
      | cons p a ih => intro b h; exact ⟨⟨h.1, (ih h.2).1⟩, (ih h.2).2⟩
    by_cases hx : x0 = x
    · subst hx
      refine ⟨fun hf => (by rw [find_cons_eq] at hf; cases hf), fun g ver ob hf => ?_⟩
      rw [find_cons_eq] at hf
      cases hf
      exact ⟨rfl, by simp, vr0, ob0, c, h1, h3, fun h => (allL h).1⟩
    · have ih := keepOR_at (x := x) h2
      refine ⟨fun hf => ?_, fun g ver ob hf => ?_⟩
      · rw [find_cons_ne _ _ hx] at hf
        have := ih.1 hf
        rw [List.any_cons]
        simp only [Bool.or_eq_true, not_or]
        exact ⟨fun e => hx (beqT e).symm, this⟩
      · rw [find_cons_ne _ _ hx] at hf
        obtain ⟨h4, h5, vr, ob1, c1, h6, h7, h8⟩ := ih.2 g ver ob hf
        exact ⟨h4, by rw [List.any_cons, h5, Bool.or_true], vr, ob1, c1, h6, h7, fun h => h8 (allL h).2⟩
theorem rvOR_ok (h : GamE A s a w env) (hF : FrzG A kF s) {x : Nat} {ob ob' : AObj} {c : List Prop} {hd : Value} (hr : rvOR R kF kO s x ob = some (c, ob')) (hc : All c) (hO : ObjOk (ctxOf A w env) hd ob) : ObjOk (ctxOf A w (envK kO env)) hd ob' := by
  cases ob with
  | dead => exact rvO_ok (ob := .dead) h hF hr hc hO
  | dev O stp l => exact rvO_ok (ob := .dev O stp l) h hF hr hc hO
  | box t l => exact rvO_ok (ob := .box t l) h hF hr hc hO
  | arr e n len f =>
    unfold rvOR at hr
    cases hq : find R x with
    | none =>
      simp only [hq, Option.some.injEq, Prod.mk.injEq] at hr
      obtain ⟨rfl, rfl⟩ := hr
      obtain ⟨vs, h1, h2⟩ := hO
      exact ⟨vs, h1, fun i hi => (coldPL_le (h2 i hi) (hc.1 i hi)).le cold_envK⟩
    | some f' =>
      simp only [hq, Option.some.injEq, Prod.mk.injEq] at hr
      obtain ⟨rfl, rfl⟩ := hr
      obtain ⟨vs, h1, h2⟩ := hO
      exact ⟨vs, h1, fun i hi => rvL_ok h hF (hc.1 i hi) (h2 i hi)⟩
theorem Gam.resetR {kT : List Nat} {cs : List Prop} {s' : St} (h : Gam A s a w) (hSF : kF = [] ∨ A.S = Non) (hr : resetStR R kF kT kO s = some (cs, s')) (hcA : All cs) : Gam A s' a w := by
  obtain ⟨env, h⟩ := h
  unfold resetStR at hr
  cases h1 : keepT kF kO s kT <;> cases h2 : keepOR R kF kO s kO <;> cases h3 : extKept kO s <;> cases h4 : keepF s kF <;> simp only [h1, h2, h3, h4] at hr <;> try (cases hr; done)
  rename_i t q cf
  obtain ⟨cs', o⟩ := q
  cases hr
  have hc : All cs' := (all_app hcA).1
  have hF : FrzG A kF s := by
    rcases hSF with rfl | hS
    · exact FrzG.nil
    · exact keepF_ok hS h4 (all_app hcA).2
  refine ⟨envK kO env, { chg := h.chg, size := h.size, dom := fun x hx => ?_, objs := fun x g ver ob hf => ?_, live := fun x ver hd b he hb => ?_, inj := fun x y v1 h1 v2 h2 b he1 he2 hb1 hb2 => ?_, tmps := fun t' g pv hf hg => ?_, defers := h.defers, und := fun t' pv hf => (by obtain ⟨v, h4, _⟩ := keepT_at h1 hf; exact h.und t' v h4), exts := fun x hd hx => ?_, dev := fun g ver O stp l hf hg => ?_ }⟩
  · have := (keepOR_at (x := x) h2).1 hx
    unfold envK
    cases hb : kO.any (Nat.beq x) with
    | true => exact absurd hb this
    | false => rfl
  · obtain ⟨rfl, hk, vr, ob0, c, h4, h5, h6⟩ := (keepOR_at (x := x) h2).2 g ver ob hf
    obtain ⟨hd, h7, h8⟩ := h.objs x g vr ob0 h4
    refine ⟨hd, ?_, fun hg => rvOR_ok h hF h5 (h6 hc) (h8 hg)⟩
    unfold envK
    rw [hk, h7]
    rfl
  · unfold envK at he
    split at he
    · cases hx : env x with
      | none => rw [hx] at he; cases he
      | some p => obtain ⟨v, hd'⟩ := p; rw [hx] at he; cases he; exact h.live x v _ b hx hb
    · cases he
  · unfold envK at he1 he2
    split at he1
    · split at he2
      · cases hx : env x with
        | none => rw [hx] at he1; cases he1
        | some p =>
          cases hy : env y with
          | none => rw [hy] at he2; cases he2
          | some q => obtain ⟨v, hd'⟩ := p; obtain ⟨v2', hd2'⟩ := q; rw [hx] at he1; rw [hy] at he2; cases he1; cases he2; exact h.inj x y v _ v2' _ b hx hy hb1 hb2
      · cases he2
    · cases he1
  · obtain ⟨v, h4, h5⟩ := keepT_at h1 hf
    obtain ⟨val, h6, h7⟩ := h.tmps t' g v h4 hg
    exact ⟨val, h6, rvV_ok h hF h5 h7⟩
  · obtain ⟨hb, ha⟩ := h.exts x hd hx
    refine ⟨hb, ?_⟩
    obtain ⟨vr, hd', h4, _, h5⟩ := ha
    have h4' : env x = some (vr, hd') := h4
    cases hf : find s.o x with
    | none => rw [h.dom x hf] at h4'; cases h4'
    | some p =>
      obtain ⟨g, vr2, ob⟩ := p
      have h6 := List.all_eq_true.1 h3 _ (find_mem hf)
      dsimp only at h6
      rw [hb] at h6
      rw [Bool.and_eq_true] at h6
      obtain ⟨hd2, h7, _⟩ := h.objs x g vr2 ob hf
      rw [h4'] at h7
      cases h7
      refine ⟨0, hd', ?_, Nat.le_refl _, fun _ => h5 (beqT h6.2).symm⟩
      show envK kO env x = some (0, hd')
      unfold envK
      rw [h6.1, h4']
      rfl
  · obtain ⟨rfl, hk, vr, ob0, c, h4, h5, h6⟩ := (keepOR_at (x := dx) h2).2 g ver _ hf
    have h7 : ob0 = .dev O stp l := by
      cases ob0 <;> simp only [rvOR, rvO] at h5
      · split at h5 <;> cases h5
      · split at h5 <;> cases h5
      · cases h5
      · cases h5; rfl
    subst h7
    obtain ⟨h8, h9, h10⟩ := h.dev g vr O stp l h4 hg
    refine ⟨h8, h9, A.dv.grow _ _ _ _ _ h10 (Chg.refl _ _) (fun b hb => .inl ?_)⟩
    rcases hb with hb | ⟨y, v2, hd2, h11, h12⟩
    · exact .inl hb
    · unfold envK at h11
      split at h11
      · cases hy : env y with
        | none => rw [hy] at h11; cases h11
        | some p => obtain ⟨v, hd'⟩ := p; rw [hy] at h11; cases h11; exact .inr ⟨y, v, _, hy, h12⟩
      · cases h11
end Go.Proofs.YtihghljfmlbfhaaDoor.Pv


namespace Go.Proofs.YtihghljfmlbfhaaDoor.Pv
open Go.RowKit
def bk0 : List Int := List.replicate 48 0
def nwB (k : Nat) : List (List Int) := List.replicate k bk0
def b16F : Nat → List PC := fun _ => [.lit (.int .i64 16)]
def z8F : Nat → List PC := fun _ => [.lit (.int .u8 0)]
def nw7F : Nat → List PC := fun _ => [.sl 1 48 z8F]
theorem nw7F_bank {i : Nat} (hi : i < 4) : nw7F i = bankF (nwB 4) i := by
  unfold nw7F bankF nwB
  rw [List.getD_eq_getElem?_getD, List.getElem?_replicate, if_pos hi]
  show [PC.sl 1 48 z8F] = [PC.sl 1 48 (u8F bk0)]
  have : z8F = u8F bk0 := by
    funext j
    unfold z8F u8F bk0
    rw [List.getD_eq_getElem?_getD, List.getElem?_replicate]
    split <;> rfl
  rw [this]
def nw7St (k : Nat) : St := ⟨[(0, none, pv1 (.sl 1 4 b16F)), (2, none, pv1 (.pt 0 0 0)), (4, none, pv1 (.pt 1000 0 0)), (5, none, pvI k)], [(0, none, 0, .box 29 [.lit (.slice none 0 0)]), (1000, none, 0, .box 29 [.ow 9009 0 1 0 k]), (9009, none, 0, .arr 24 1 k nw7F)]⟩
set_option maxRecDepth 100000 in
set_option maxHeartbeats 1000000 in
theorem new7_fun : FunOk Tryd.prog ShaMem 9 false [pv1 (.sl 1 4 b16F)] (.tup [.agg [.sl 1 4 (bankF (nwB 4))], .one (.lit (.int .i64 0))]) := by
  have M := lvMN
  have hb1 : Tryd.prog.types[24].bytes = 24 := by kernel_rfl
  have hb2 : Tryd.prog.types[5].bytes = 1 := by kernel_rfl
  have hs1 : Tryd.prog.types[24].size = 1 := by kernel_rfl
  refine funOk_of Tryd.func9 rfl rfl sha_ext (fun A hS hn hI => ?_)
  refine tri_reg M hI hn (outs := ?_) (s' := ?_) ?_ ?_ ?_ ?_
  rotate_left 2
  · rfl
  · kernel_rfl
  · simp
  refine tri_reg M hI hn (outs := ?_) (s' := ?_) ?_ ?_ ?_ ?_
  rotate_left 2
  · rfl
  · kernel_rfl
  · simp
  refine tri_seq ?_
  refine tri_reg M hI hn (outs := ?_) (s' := ?_) ?_ ?_ ?_ ?_
  rotate_left 2
  · rfl
  · kernel_rfl
  · simp
  refine tri_cond (b := ?_) ?_ (fun hc => ?_) (fun hc => ?_)
  rotate_left 1
  · rfl
  · cases hc
  · refine tri_skip ?_
    change Tri _ _ _ _ _
    refine tri_seq ?_
    refine tri_reg M hI hn (outs := ?_) (s' := ?_) ?_ ?_ ?_ ?_
    rotate_left 2
    · rfl
    · kernel_rfl
    · simp
    refine tri_conv (s' := nw7St 0) (fun a w hg => ((hg.nilRowB (x := 9009) (b := 1000) (e := 24) (n := 1) (l1 := []) (by rfl) (by rfl)).reset (kT := [0, 2, 4, 5]) (kO := [0, 1000, 9009]) (by rfl) (by simp)).same ?_ ?_) ?_
    · exact .cons rfl (.cons rfl (.cons rfl (.cons rfl .nil)))
    · exact .cons (.box rfl) (.cons (.box rfl) (.cons (.arr rfl (fun i hi => by omega)) .nil))
    refine tri_block ?_
    refine tri_loop 4 (fun k t => t = nw7St k) 0 rfl (by omega) (fun k t hJ hk => ?_)
    subst hJ
    refine tri_seq ?_
    refine tri_reg M hI hn (outs := ?_) (s' := ?_) ?_ ?_ ?_ ?_
    rotate_left 2
    · rfl
    · kernel_rfl
    · simp
    refine tri_cond (b := ?_) ?_ (fun hc => ?_) (fun hc => ?_)
    rotate_left 1
    · rfl
    · have hk2 : k < 4 := by have := of_decide_eq_true hc; omega
      refine tri_skip ?_
      change Tri _ _ _ _ _
      refine tri_seq ?_
      refine tri_block ?_
      refine tri_seq ?_
      refine tri_reg M hI hn (outs := ?_) (s' := ?_) ?_ ?_ ?_ ?_
      rotate_left 2
      · rfl
      · kernel_rfl
      · simp
        omega
      refine tri_cond (b := ?_) ?_ (fun hc => ?_) (fun hc => ?_)
      rotate_left 1
      · rfl
      · cases hc
      refine tri_skip ?_
      change Tri _ _ _ _ _
      refine tri_region M hI hn (outs := ?_) (s' := ?_) ?_ ?_ ?_ ?_
      rotate_left 2
      · rfl
      · kernel_rfl
      · simp [hb1, hb2]
        have h48 : IntKind.i64.wrap 48 = 48 := by decide
        exact ⟨by omega, by rw [h48]; omega, by omega⟩
      change Tri _ _ _ _ _
      refine tri_region M hI hn (outs := ?_) (s' := ?_) ?_ ?_ ?_ ?_
      rotate_left 2
      · rfl
      · kernel_rfl
      · simp
      intro a w hg
      refine ⟨k + 1, _, by omega, by omega, rfl, (hg.resetR (R := [(9009, nw7F)]) (kF := [9007]) (kT := [0, 2, 4, 5]) (kO := [0, 1000, 9009]) (.inr hS) (by rfl) ?_).same ?_ ?_⟩
      · simp
        refine ⟨fun i hi => ?_, fun i _ => ?_⟩
        · by_cases h : i < k
          · unfold appF
            rw [if_pos h]
            rfl
          · obtain rfl : i = k := by omega
            unfold appF
            rw [if_neg h, Nat.sub_self]
            rfl
        · rfl
      · exact .cons rfl (.cons rfl (.cons rfl (.cons (by rw [wrap_nat k (by omega)]) .nil)))
      · exact .cons (.box rfl) (.cons (.box rfl) (.cons (.arr rfl (fun i hi => rfl)) .nil))
    · have hk2 : k = 4 := by have := of_decide_eq_false hc; omega
      subst hk2
      refine tri_exit ?_
      change Tri _ _ _ _ _
      refine tri_reg M hI hn (outs := ?_) (s' := ?_) ?_ ?_ ?_ ?_
      rotate_left 2
      · rfl
      · kernel_rfl
      · simp
      refine tri_ret (fun a w hg => ⟨.inr rfl, _, ?_, hg⟩)
      refine retTo_ex (out := ?_) ?_ ?_ ?_ ?_
      rotate_left 1
      · rfl
      · simp
      · rfl
      refine .tup (.cons (.agg (.cons (.row rfl trivial (by omega) (fun i hi => ?_) (fun i hi => rfl)) .nil)) (.cons (.one (.cold rfl)) .nil))
      rw [Nat.zero_add]
      exact nw7F_bank hi
end Go.Proofs.YtihghljfmlbfhaaDoor.Pv


namespace Go.Proofs.YtihghljfmlbfhaaDoor.Pv
open Go.RowKit
def hwN (root : List UInt8) : HwS := ⟨nwB 4, flN, root⟩
def new8G : List PV → Option (Prop × PV)
  | [.w (.one (.lit (.int .i64 n)))] => some (n = 128, .tup [.agg (flPC flN), .one (.lit (.int .i64 0))])
  | _ => none
theorem new8_spec : SpecOk Tryd.prog ShaMem 10 (funSpec true new8G) := by
  refine funSpec_ok (call_enters Tryd.func10 (by kernel_rfl) rfl) (fun xs p r hg hp => ?_)
  unfold new8G at hg
  split at hg
  · cases hg
    obtain rfl : _ = (128 : Int) := hp
    exact new8_fun
  · cases hg
def new7G : List PV → Option (Prop × PV)
  | [.w (.one (.sl 1 n f))] => some (n = 4 ∧ ∀ i, i < 4 → f i = b16F i, .tup [.agg [.sl 1 4 (bankF (nwB 4))], .one (.lit (.int .i64 0))])
  | _ => none
theorem sl_argExt {C : Ctx} {n : Nat} {f g : Nat → List PC} {v : Value} (h : RV C (pv1 (.sl 1 n f)) v) (he : ∀ i, i < n → f i = g i) : RV C (pv1 (.sl 1 n g)) v := by
  cases h with
  | w h => cases h with
    | one h => exact .w (.one (h.sl_ext he))
theorem new7_spec : SpecOk Tryd.prog ShaMem 9 (funSpec false new7G) := by
  refine funSpec_ok (call_enters Tryd.func9 (by kernel_rfl) rfl) (fun xs p r hg hp => ?_)
  unfold new7G at hg
  split at hg
  · cases hg
    obtain ⟨rfl, h⟩ := hp
    exact new7_fun.args fun C vs hv => by
      match vs, hv with
      | [x], ⟨k0, _⟩ => exact ⟨sl_argExt k0 h, trivial⟩
  · cases hg
def nwL : List (Nat × Spec) := [(9, funSpec false new7G), (10, funSpec true new8G)]
theorem nw_ok : ∀ p ∈ nwL, SpecOk Tryd.prog ShaMem p.1 p.2 := by
  intro p hp
  simp only [nwL, List.mem_cons, List.not_mem_nil, or_false] at hp
  rcases hp with rfl | rfl
  · exact new7_spec
  · exact new8_spec
theorem nwM : Mach Tryd.prog ShaMem (find nwL) := ⟨specs_of nw_ok, mixed_⟩
set_option maxRecDepth 100000 in
set_option maxHeartbeats 1000000 in
theorem new9_fun (root : List UInt8) : FunOk Tryd.prog ShaMem 5 false [.w (.agg [.bs 16 root]), pv1 (.sl 1 4 b16F)] (.tup [.agg (hwL (hwN root)), .one (.lit (.int .i64 0))]) := by
  have M := nwM
  refine funOk_of Tryd.func5 rfl rfl sha_ext (fun A hS hn hI => ?_)
  refine tri_reg M hI hn (outs := ?_) (s' := ?_) ?_ ?_ ?_ ?_
  rotate_left 2
  · rfl
  · kernel_rfl
  · simp
  refine tri_reg M hI hn (outs := ?_) (s' := ?_) ?_ ?_ ?_ ?_
  rotate_left 2
  · rfl
  · kernel_rfl
  · simp
  refine tri_seq ?_
  refine tri_reg M hI hn (outs := ?_) (s' := ?_) ?_ ?_ ?_ ?_
  rotate_left 2
  · rfl
  · kernel_rfl
  · simp
  refine tri_cond (b := ?_) ?_ (fun hc => ?_) (fun hc => ?_)
  rotate_left 1
  · rfl
  · cases hc
  refine tri_skip ?_
  change Tri _ _ _ _ _
  refine tri_reg M hI hn (outs := ?_) (s' := ?_) ?_ ?_ ?_ ?_
  rotate_left 2
  · rfl
  · kernel_rfl
  · simp
  refine tri_reg M hI hn (outs := ?_) (s' := ?_) ?_ ?_ ?_ ?_
  rotate_left 2
  · rfl
  · kernel_rfl
  · simp
  refine tri_ret (fun a w hg => ⟨.inr rfl, _, ?_, hg⟩)
  refine retTo_ex (out := ?_) ?_ ?_ ?_ ?_
  rotate_left 1
  · rfl
  · simp
  · rfl
  refine .tup (.cons (.agg (.cons (.cold rfl) (.cons (.cold rfl) (.cons (.cold rfl) .nil)))) (.cons (.one (.cold rfl)) .nil))
def new9G : List PV → Option (Prop × PV)
  | [.w (.agg [.bs 16 root]), .w (.one (.sl 1 n f))] => some (n = 4 ∧ ∀ i, i < 4 → f i = b16F i, .tup [.agg (hwL (hwN root)), .one (.lit (.int .i64 0))])
  | _ => none
theorem new9_spec : SpecOk Tryd.prog ShaMem 5 (frzSpec new9G) := by
  refine frzSpec_ok (call_enters Tryd.func5 (by kernel_rfl) rfl) (fun xs p r hg hp => ?_)
  unfold new9G at hg
  split at hg
  · cases hg
    obtain ⟨rfl, h⟩ := hp
    exact (new9_fun _).args fun C vs hv => by
      match vs, hv with
      | [x, y], ⟨k0, k1, _⟩ => exact ⟨k0, sl_argExt k1 h, trivial⟩
  · cases hg
end Go.Proofs.YtihghljfmlbfhaaDoor.Pv


namespace Go.Proofs.YtihghljfmlbfhaaDoor
open Go.RowKit
def fltI (t : Flt) : Int := (if t.cut then 1 else 0) + (if t.noise then 2 else 0)
theorem fltI_at (F : List Flt) (i : Nat) : faultAt (F.map fltI) i = ((fltAt F i).cut, (fltAt F i).noise) := by
  unfold faultAt fltAt
  rw [List.getElem?_map, List.getD_eq_getElem?_getD]
  cases F[i]? with
  | none => rfl
  | some t =>
    obtain ⟨c, b, n⟩ := t
    cases c <;> cases n <;> rfl
def withB (h : HwS) (c : List Int) : HwS := { h with b := h.b.set 2 c }
theorem bank2 {h : HwS} (d : Dim h) : h.b.getD 2 [] = h.b[2]'d.n := by
  rw [List.getD_eq_getElem?_getD, List.getElem?_eq_getElem d.n]
  rfl
theorem withB_self {h : HwS} (d : Dim h) : withB h (h.b.getD 2 []) = h := by
  unfold withB
  rw [bank2 d, List.set_getElem_self]
theorem devDo_cells {h : HwS} (d : Dim h) {a : Acc} (g : GoodC a) (t : Flt) (ht : t.cut = false) : (devDo h a t).2.1 = ⟨aftV a (t.cut, t.noise) (h.b.getD 2 []), noBytes⟩ ∧ (devDo h a t).1 = withB h (aftC a (t.cut, t.noise) (h.b.getD 2 [])) := by
  have hx := d.ex g
  obtain ⟨g0, g1, g2, g3, g4⟩ := g
  unfold devDo aftV aftC
  rcases g0 with g0 | g0
  · rw [if_pos g0, if_pos g4, g1, if_pos hx, if_pos g0, if_pos g0, ht]
    refine ⟨rfl, ?_⟩
    rw [withB_self d]
  · rw [if_neg (by omega), if_pos g0, if_pos g4, g1, if_pos hx, if_neg (by omega), if_neg (by omega)]
    exact ⟨rfl, rfl⟩
theorem devDo_cut {h : HwS} (d : Dim h) {a : Acc} (g : GoodC a) (t : Flt) : (devDo h a t).1 = withB h (aftC a (t.cut, t.noise) (h.b.getD 2 [])) := by
  have hx := d.ex g
  obtain ⟨g0, g1, g2, g3, g4⟩ := g
  unfold devDo aftC
  rcases g0 with g0 | g0
  · rw [if_pos g0, if_pos g4, g1, if_pos hx, if_pos g0, withB_self d]
  · rw [if_neg (by omega), if_pos g0, if_pos g4, g1, if_pos hx, if_neg (by omega)]
    rfl
theorem withB_get {h : HwS} (d : Dim h) (c : List Int) : (withB h c).b.getD 2 [] = c := by
  unfold withB
  rw [List.getD_eq_getElem?_getD, List.getElem?_set_self d.n]
  rfl
theorem withB_set (h : HwS) (c c' : List Int) : withB (withB h c) c' = withB h c' := by
  unfold withB
  rw [List.set_set]
theorem execL_exec {α : Type} (F : List Flt) (p : Prg α) : Prg.In 48 p → ∀ (h : HwS) (i : Nat), Dim h →
    execL F p h i = ((exec (F.map fltI) p (h.b.getD 2 []) i).1, withB h (exec (F.map fltI) p (h.b.getD 2 []) i).2.1, (exec (F.map fltI) p (h.b.getD 2 []) i).2.2) ∧ Dim (execL F p h i).2.1 := by
  induction p with
  | ret a =>
    intro _ h i d
    rw [execL, exec]
    exact ⟨by rw [withB_self d], d⟩
  | ask a k ih =>
    intro hIn h i d
    have hg : GoodC a := ⟨hIn.1, hIn.2.1, hIn.2.2.1, hIn.2.2.2.1, hIn.2.2.2.2.1⟩
    have hst := d.step hg (fltAt F i)
    have hcu := devDo_cut d hg (fltAt F i)
    rw [execL, exec, fltI_at]
    by_cases hc : (fltAt F i).cut = true
    · rw [if_pos hc, if_pos hc]
      exact ⟨by rw [hcu], hst⟩
    · rw [if_neg hc, if_neg hc]
      have hce : (fltAt F i).cut = false := by simpa using hc
      obtain ⟨e1, e2⟩ := devDo_cells d hg (fltAt F i) hce
      obtain ⟨i1, i2⟩ := ih (devDo h a (fltAt F i)).2.1 (hIn.2.2.2.2.2 _) (devDo h a (fltAt F i)).1 (i + 1) hst
      refine ⟨?_, i2⟩
      rw [i1, e1, e2, withB_get d, withB_set]
end Go.Proofs.YtihghljfmlbfhaaDoor


namespace Go.Proofs.YtihghljfmlbfhaaDoor.Pv
open Go.RowKit
def dg1 (b : UInt8) : List UInt8 := b :: List.replicate 15 0
def ksL : List (Nat × Spec) := [(5, frzSpec new9G), (7, funSpec false runG)]
theorem ks_ok : ∀ p ∈ ksL, SpecOk Tryd.prog ShaMem p.1 p.2 := by
  intro p hp
  simp only [ksL, List.mem_cons, List.not_mem_nil, or_false] at hp
  rcases hp with rfl | rfl
  · exact new9_spec
  · exact run_spec
theorem ksM : Mach Tryd.prog ShaMem (find ksL) := ⟨specs_of ks_ok, mixed_⟩
theorem hwN_dim (root : List UInt8) (h : root.length = 16) : Dim (hwN root) := by
  refine ⟨⟨by simp [hwN, nwB], fun l hl => ?_, fun l hl x hx => ?_, by simp [hwN, flN], fun x hx => ?_, h⟩, by simp [hwN, nwB], by simp [hwN, nwB, bk0]⟩
  · obtain rfl := List.eq_of_mem_replicate hl
    simp [bk0]
  · obtain rfl := List.eq_of_mem_replicate hl
    obtain rfl := List.eq_of_mem_replicate hx
    omega
  · obtain rfl := List.eq_of_mem_replicate hx
    rw [strOf_size, show sec0.length = 256 from List.length_replicate]
    omega
def ksC1 : List Int := (exec [] (Prg.signI 1) bk0 0).2.1
def ksC2 : List Int := (exec [] (Prg.signI 1) ksC1 0).2.1
theorem ks1 : (exec [] (Prg.signI 1) bk0 0).1 = some (0, 0) := by decide +kernel
theorem ks2 : (exec [] (Prg.signI 1) ksC1 0).1 = some (1, 0) := by decide +kernel
theorem ks3 : (exec [] (Prg.signI 1) ksC2 0).1 = some (2, 17) := by decide +kernel
def ksH0 : HwS := hwN (dg1 1)
def ksQ1 := execL [] (Prg.signI 1) ksH0 0
def ksQ2 := execL [] (Prg.signI 1) ksQ1.2.1 0
def ksQ3 := execL [] (Prg.signI 1) ksQ2.2.1 0
theorem ksD0 : Dim ksH0 := hwN_dim _ rfl
theorem ksB0 : ksH0.b.getD 2 [] = bk0 := rfl
theorem ksE1 : ksQ1.1 = some (0, 0) ∧ Dim ksQ1.2.1 ∧ ksQ1.2.1.b.getD 2 [] = ksC1 := by
  obtain ⟨h1, h2⟩ := execL_exec [] (Prg.signI 1) (signI_in 1) ksH0 0 ksD0
  rw [ksB0] at h1
  refine ⟨?_, h2, ?_⟩
  · unfold ksQ1; rw [h1]; exact ks1
  · unfold ksQ1; rw [h1]; exact withB_get ksD0 _
theorem ksE2 : ksQ2.1 = some (1, 0) ∧ Dim ksQ2.2.1 ∧ ksQ2.2.1.b.getD 2 [] = ksC2 := by
  obtain ⟨_, d, e⟩ := ksE1
  obtain ⟨h1, h2⟩ := execL_exec [] (Prg.signI 1) (signI_in 1) ksQ1.2.1 0 d
  rw [e] at h1
  refine ⟨?_, h2, ?_⟩
  · unfold ksQ2; rw [h1]; exact ks2
  · unfold ksQ2; rw [h1]; exact withB_get d _
theorem ksE3 : ksQ3.1 = some (2, 17) := by
  obtain ⟨_, d, e⟩ := ksE2
  obtain ⟨h1, h2⟩ := execL_exec [] (Prg.signI 1) (signI_in 1) ksQ2.2.1 0 d
  rw [e] at h1
  unfold ksQ3; rw [h1]; exact ks3
def oPC (i : Int) (x : Sig) (e : Int) : List PC := [.lit (.int .i64 i), .sl 16 x.chain.length (digF x.chain), .sl 16 x.path.length (digF x.path), .lit (.int .i64 e)]
theorem out_yes (seed m : List UInt8) (k i : Nat) (hk : k ≤ 4) (hi : i < 2 ^ k) : outPC seed m (k : Int) (some (i, 0)) = oPC i (sgnT seed (k : Int) (i : Int) m).1 0 := by
  have e : (sgnT seed (k : Int) (i : Int) m).1.index = i ∧ (sgnT seed (k : Int) (i : Int) m).2 = 0 := by
    unfold sgnT
    rw [if_neg (by omega), if_pos (by simpa using hi)]
    exact ⟨rfl, rfl⟩
  show sigPC (sgnT seed (k : Int) (i : Int) m).1 ++ [.lit (.int .i64 (sgnT seed (k : Int) (i : Int) m).2)] = _
  unfold sigPC oPC
  rw [e.1, e.2]
  rfl
theorem hw_eta (h : HwS) : (⟨rowBk h.b.length (bankF h.b), fsRow h.f.length (fsF h.f), h.r⟩ : HwS) = h := by rw [rowBk_bankF, fsRow_fsF]
def ksS2 : St := ⟨[(2, none, pvI 0), (4, none, pv1 (.pt 2010 0 0)), (6, none, pvB true), (7, none, pv1 (.pt 3009 0 0)), (8, none, pv1 (.pt 3010 0 0)), (10, none, pvB true)], [(2010, none, 0, .box 47 (oPC 0 (sgnT (dg1 2) 1 0 (dg1 3)).1 0)), (3009, none, 0, .box 34 (hwL ksQ2.2.1)), (3010, none, 0, .box 47 (oPC 1 (sgnT (dg1 2) 1 1 (dg1 4)).1 0))]⟩
def ksS3 : St := ⟨[(2, none, pvI 0), (4, none, pv1 (.pt 2010 0 0)), (6, none, pvB true), (8, none, pv1 (.pt 3010 0 0)), (10, none, pvB true), (12, none, pv1 (.pt 4010 0 0)), (14, none, pvB true)], [(2010, none, 0, .box 47 (oPC 0 (sgnT (dg1 2) 1 0 (dg1 3)).1 0)), (3010, none, 0, .box 47 (oPC 1 (sgnT (dg1 2) 1 1 (dg1 4)).1 0)), (4010, none, 0, .box 47 (oPC 0 ⟨0, [], []⟩ 17))]⟩
def ksS1 : St := ⟨[(2, none, pvI 0), (3, none, pv1 (.pt 2009 0 0)), (4, none, pv1 (.pt 2010 0 0)), (6, none, pvB true)], [(2009, none, 0, .box 34 (hwL ksQ1.2.1)), (2010, none, 0, .box 47 (oPC 0 (sgnT (dg1 2) 1 0 (dg1 3)).1 0))]⟩
set_option maxRecDepth 100000 in
set_option maxHeartbeats 1000000 in
theorem sanity_fun : FunOk Tryd.prog ShaMem 4 true [] (pvB true) := by
  have M := ksM
  obtain ⟨q1, d1, _⟩ := ksE1
  obtain ⟨q2, d2, _⟩ := ksE2
  refine funOk_of Tryd.func4 rfl rfl sha_ext (fun A hS hn hI => ?_)
  refine tri_reg M hI hn (outs := ?_) (s' := ?_) ?_ ?_ ?_ ?_
  rotate_left 2
  · rfl
  · kernel_rfl
  · simp
  refine tri_reg M hI hn (outs := ?_) (s' := ?_) ?_ ?_ ?_ ?_
  rotate_left 2
  · rfl
  · kernel_rfl
  · simp
    refine ⟨fun i hi => ?_, fun i hi => ?_⟩
    · have : i = 0 ∨ i = 1 ∨ i = 2 ∨ i = 3 := by omega
      rcases this with rfl | rfl | rfl | rfl <;> exact all_cold rfl
    · have : i = 0 ∨ i = 1 ∨ i = 2 ∨ i = 3 := by omega
      rcases this with rfl | rfl | rfl | rfl <;> rfl
  refine tri_reg M hI hn (outs := ?_) (s' := ?_) ?_ ?_ ?_ ?_
  rotate_left 2
  · rfl
  · kernel_rfl
  · simp
    exact ksD0
  have hH : (⟨rowBk ksH0.b.length (bankF ksH0.b), fsRow ksH0.f.length (fsF ksH0.f), ksH0.r⟩ : HwS) = ksH0 := by rw [rowBk_bankF, fsRow_fsF]
  refine tri_conv (s' := ksS1) (fun a w hg => (hg.reset (kT := [2, 3, 4, 6]) (kO := [2009, 2010]) (by rfl) (by simp)).same ?_ ?_) ?_
  · refine .cons rfl (.cons rfl (.cons rfl (.cons ?_ .nil)))
    show pvB (execL [] (Prg.signI 1) ⟨rowBk ksH0.b.length (bankF ksH0.b), fsRow ksH0.f.length (fsF ksH0.f), ksH0.r⟩ 0).1.isSome = pvB true
    rw [hH]
    show pvB ksQ1.1.isSome = _
    rw [q1]
    rfl
  · refine .cons (.box ?_) (.cons (.box ?_) .nil)
    · show hwL (execL [] (Prg.signI 1) ⟨rowBk ksH0.b.length (bankF ksH0.b), fsRow ksH0.f.length (fsF ksH0.f), ksH0.r⟩ 0).2.1 = _
      rw [hH]
      rfl
    · show outPC (dg1 2) (dg1 3) 1 (execL [] (Prg.signI 1) ⟨rowBk ksH0.b.length (bankF ksH0.b), fsRow ksH0.f.length (fsF ksH0.f), ksH0.r⟩ 0).1 = _
      rw [hH]
      show outPC (dg1 2) (dg1 3) 1 ksQ1.1 = _
      rw [q1]
      exact out_yes (dg1 2) (dg1 3) 1 0 (by omega) (by omega)
  refine tri_reg M hI hn (outs := ?_) (s' := ?_) ?_ ?_ ?_ ?_
  rotate_left 2
  · rfl
  · kernel_rfl
  · simp
    exact d1
  refine tri_conv (s' := ksS2) (fun a w hg => (hg.reset (kT := [2, 4, 6, 7, 8, 10]) (kO := [2010, 3009, 3010]) (by rfl) (by simp)).same ?_ ?_) ?_
  · refine .cons rfl (.cons rfl (.cons rfl (.cons rfl (.cons rfl (.cons ?_ .nil)))))
    show pvB (execL [] (Prg.signI 1) ⟨rowBk ksQ1.2.1.b.length (bankF ksQ1.2.1.b), fsRow ksQ1.2.1.f.length (fsF ksQ1.2.1.f), ksQ1.2.1.r⟩ 0).1.isSome = pvB true
    rw [hw_eta]
    show pvB ksQ2.1.isSome = _
    rw [q2]
    rfl
  · refine .cons (.box rfl) (.cons (.box ?_) (.cons (.box ?_) .nil))
    · show hwL (execL [] (Prg.signI 1) ⟨rowBk ksQ1.2.1.b.length (bankF ksQ1.2.1.b), fsRow ksQ1.2.1.f.length (fsF ksQ1.2.1.f), ksQ1.2.1.r⟩ 0).2.1 = _
      rw [hw_eta]
      rfl
    · show outPC (dg1 2) (dg1 4) 1 (execL [] (Prg.signI 1) ⟨rowBk ksQ1.2.1.b.length (bankF ksQ1.2.1.b), fsRow ksQ1.2.1.f.length (fsF ksQ1.2.1.f), ksQ1.2.1.r⟩ 0).1 = _
      rw [hw_eta]
      show outPC (dg1 2) (dg1 4) 1 ksQ2.1 = _
      rw [q2]
      exact out_yes (dg1 2) (dg1 4) 1 1 (by omega) (by omega)
  refine tri_reg M hI hn (outs := ?_) (s' := ?_) ?_ ?_ ?_ ?_
  rotate_left 2
  · rfl
  · kernel_rfl
  · simp
    exact d2
  refine tri_conv (s' := ksS3) (fun a w hg => (hg.reset (kT := [2, 4, 6, 8, 10, 12, 14]) (kO := [2010, 3010, 4010]) (by rfl) (by simp)).same ?_ ?_) ?_
  · refine .cons rfl (.cons rfl (.cons rfl (.cons rfl (.cons rfl (.cons rfl (.cons ?_ .nil))))))
    show pvB (execL [] (Prg.signI 1) ⟨rowBk ksQ2.2.1.b.length (bankF ksQ2.2.1.b), fsRow ksQ2.2.1.f.length (fsF ksQ2.2.1.f), ksQ2.2.1.r⟩ 0).1.isSome = pvB true
    rw [hw_eta]
    show pvB ksQ3.1.isSome = _
    rw [ksE3]
    rfl
  · refine .cons (.box rfl) (.cons (.box rfl) (.cons (.box ?_) .nil))
    show outPC (dg1 2) (dg1 5) 1 (execL [] (Prg.signI 1) ⟨rowBk ksQ2.2.1.b.length (bankF ksQ2.2.1.b), fsRow ksQ2.2.1.f.length (fsF ksQ2.2.1.f), ksQ2.2.1.r⟩ 0).1 = _
    rw [hw_eta]
    show outPC (dg1 2) (dg1 5) 1 ksQ3.1 = _
    rw [ksE3]
    rfl
  refine tri_reg M hI hn (outs := ?_) (s' := ?_) ?_ ?_ ?_ ?_
  rotate_left 2
  · rfl
  · kernel_rfl
  · simp
  refine tri_ret (fun a w hg => ⟨.inr rfl, _, ?_, hg⟩)
  refine retTo_cold (out := ?_) ?_ ?_ ?_ ?_ ?_
  rotate_left 1
  · rfl
  · simp
  · rfl
  · rfl
  rfl
end Go.Proofs.YtihghljfmlbfhaaDoor.Pv


namespace Go.Proofs.YtihghljfmlbfhaaDoor
open Go.RowKit
def TriC {α : Type} (F : List Int) (pre : List Int → Prop) (p : Prg α) (post : α → List Int → Prop) (cut : List Int → Prop) : Prop :=
  ∀ c i, pre c → match exec F p c i with | (some a, c', _) => post a c' | (none, c', _) => cut c'
section
variable {α β : Type} {F : List Int} {pre : List Int → Prop} {cut : List Int → Prop}
theorem TriC.ret {a : α} {post : α → List Int → Prop} (h : ∀ c, pre c → post a c) : TriC F pre (.ret a) post cut := fun c _ hc => h c hc
theorem TriC.bind {p : Prg α} {f : α → Prg β} {mid : α → List Int → Prop} {post : β → List Int → Prop} (h : TriC F pre p mid cut) (hf : ∀ a, TriC F (mid a) (f a) post cut) : TriC F pre (p.bind f) post cut := fun c i hc => by
  rw [exec_bind]
  have h1 := h c i hc
  split at h1 <;> rename_i hx <;> rw [hx]
  · exact hf _ _ _ h1
  · exact h1
theorem TriC.mono {p : Prg α} {pre' : List Int → Prop} {post post' : α → List Int → Prop} {cut' : List Int → Prop} (h : TriC F pre p post cut) (h1 : ∀ c, pre' c → pre c) (h2 : ∀ a c, post a c → post' a c) (h3 : ∀ c, cut c → cut' c) : TriC F pre' p post' cut' := fun c i hc => by
  have := h c i (h1 c hc)
  generalize exec F p c i = r at this ⊢
  obtain ⟨a, c', i'⟩ := r
  cases a with
  | some a => exact h2 _ _ this
  | none => exact h3 _ this
theorem TriC.fuse {post : Int → List Int → Prop} (j : Nat) (x : Int) (hx : x = (j : Int)) (h : ∀ c nz, pre c → post (fuseBit (cell c j) nz) c) (hcut : ∀ c, pre c → cut c) : TriC F pre (Prg.fuse 2 x) post cut := fun c i hc => by
  subst hx
  unfold Prg.fuse exec
  by_cases hf : (faultAt F i).1 = true
  · rw [if_pos hf]
    exact hcut c hc
  · rw [if_neg hf]
    exact h c (faultAt F i).2 hc
theorem TriC.pulse {post : Unit → List Int → Prop} (j : Nat) (x : Int) (hx : x = (j : Int)) (h : ∀ c, pre c → post () (c.set j (pulsed (cell c j) false))) (hcut : ∀ c, pre c → cut (c.set j (pulsed (cell c j) true))) : TriC F pre (Prg.pulse 2 x) post cut := fun c i hc => by
  subst hx
  unfold Prg.pulse exec
  by_cases hf : (faultAt F i).1 = true
  · rw [if_pos hf]
    show cut (c.set j (pulsed (c.getD j 0) (faultAt F i).1))
    rw [hf]
    exact hcut c hc
  · rw [if_neg hf]
    show post () (c.set j (pulsed (c.getD j 0) (faultAt F i).1))
    rw [Bool.eq_false_iff.2 hf]
    exact h c hc
end
theorem majority3 (a b c : Int) (ha : 0 ≤ a ∧ a ≤ 1) (hb : 0 ≤ b ∧ b ≤ 1) (hc : 0 ≤ c ∧ c ≤ 1) : majorityB [a, b, c] = decide (2 ≤ a + b + c) := by
  obtain ⟨a1, a2⟩ := ha
  obtain ⟨b1, b2⟩ := hb
  obtain ⟨c1, c2⟩ := hc
  have hA : a = 0 ∨ a = 1 := by omega
  have hB : b = 0 ∨ b = 1 := by omega
  have hC : c = 0 ∨ c = 1 := by omega
  rcases hA with rfl | rfl <;> rcases hB with rfl | rfl <;> rcases hC with rfl | rfl <;> decide
theorem fuseBit_between (x : Int) (nz : Bool) : fuseBit x false ≤ fuseBit x nz ∧ fuseBit x nz ≤ fuseBit x true := by
  unfold fuseBit
  cases nz <;> by_cases h1 : x = 1 <;> by_cases h2 : x = 2 <;> simp [h1, h2]
theorem tri_read (F : List Int) (c0 : List Int) (b : Nat) : TriC F (fun c => c = c0) (Prg.read 2 b) (fun v c => c = c0 ∧ (v = true → bitOne c0 true b = true) ∧ (v = false → bitOne c0 false b = false)) (fun c => c = c0) := by
  unfold Prg.read
  refine TriC.bind (mid := fun x c => c = c0 ∧ ∃ nz, x = fuseBit (cell c0 (3 * b)) nz) (TriC.fuse (3 * b) _ (by omega) (fun c nz h => ⟨h, nz, by rw [h]⟩) (fun c h => h)) fun x => ?_
  refine TriC.bind (mid := fun y c => c = c0 ∧ (∃ nz, x = fuseBit (cell c0 (3 * b)) nz) ∧ ∃ nz, y = fuseBit (cell c0 (3 * b + 1)) nz) (TriC.fuse (3 * b + 1) _ (by omega) (fun c nz h => ⟨h.1, h.2, nz, by rw [h.1]⟩) (fun c h => h.1)) fun y => ?_
  refine TriC.bind (mid := fun z c => c = c0 ∧ (∃ nz, x = fuseBit (cell c0 (3 * b)) nz) ∧ (∃ nz, y = fuseBit (cell c0 (3 * b + 1)) nz) ∧ ∃ nz, z = fuseBit (cell c0 (3 * b + 2)) nz) (TriC.fuse (3 * b + 2) _ (by omega) (fun c nz h => ⟨h.1, h.2.1, h.2.2, nz, by rw [h.1]⟩) (fun c h => h.1)) fun z => ?_
  refine TriC.ret ?_
  rintro c ⟨rfl, ⟨n1, rfl⟩, ⟨n2, rfl⟩, ⟨n3, rfl⟩⟩
  rw [majority3 _ _ _ (fuseBit_01 _ _) (fuseBit_01 _ _) (fuseBit_01 _ _)]
  have h1 := fuseBit_between (cell c (3 * b)) n1
  have h2 := fuseBit_between (cell c (3 * b + 1)) n2
  have h3 := fuseBit_between (cell c (3 * b + 2)) n3
  refine ⟨rfl, fun h => ?_, fun h => ?_⟩
  · unfold bitOne
    unfold cell at h h1 h2 h3
    simp only [decide_eq_true_eq] at h ⊢
    omega
  · unfold bitOne
    unfold cell at h h1 h2 h3
    simp only [decide_eq_false_iff_not] at h ⊢
    omega
structure Blown (c0 : List Int) (lo hi d : Nat) (c : List Int) : Prop where
  evo : Evo c0 c
  out : ∀ j, (j < 3 * lo ∨ 3 * hi ≤ j) → cell c j = cell c0 j
  done : ∀ j, 3 * lo ≤ j → j < 3 * d → j < c0.length → cell c0 j ≤ 1 → cell c j = 2
theorem pulsed_no (x : Int) : pulsed x false = if x ≤ 1 then 2 else x := rfl
structure Pul (c0 : List Int) (b k : Nat) (c : List Int) : Prop where
  evo : Evo c0 c
  out : ∀ j, (j < 3 * b ∨ 3 * b + k ≤ j) → cell c j = cell c0 j
  done : ∀ j, 3 * b ≤ j → j < 3 * b + k → j < c0.length → cell c0 j ≤ 1 → cell c j = 2
theorem Pul.step {c0 c : List Int} {b k : Nat} (h : Pul c0 b k c) : Pul c0 b (k + 1) (c.set (3 * b + k) (pulsed (cell c (3 * b + k)) false)) := by
  have hc := h.out (3 * b + k) (.inr (Nat.le_refl _))
  refine ⟨h.evo.trans (Evo.set _ _ _), fun j hj => ?_, fun j h1 h2 h3 h4 => ?_⟩
  · rw [cell_set, if_neg (by omega)]
    exact h.out j (by omega)
  · rw [cell_set]
    by_cases e : 3 * b + k = j
    · subst e
      rw [if_pos ⟨rfl, by rw [h.evo.len]; exact h3⟩, hc, pulsed_no, if_pos h4]
    · rw [if_neg (by omega)]
      exact h.done j h1 (by omega) h3 h4
theorem Pul.cut {c0 c : List Int} {b k : Nat} (h : Pul c0 b k c) (hk : k < 3) : Blown c0 b (b + 1) b (c.set (3 * b + k) (pulsed (cell c (3 * b + k)) true)) :=
  ⟨h.evo.trans (Evo.set _ _ _), fun j hj => by rw [cell_set, if_neg (by omega)]; exact h.out j (by omega), fun j h1 h2 => by omega⟩
theorem tri_pulses (F : List Int) (c0 : List Int) (b : Nat) : TriC F (fun c => c = c0) (Prg.pulses 2 b) (fun _ c => Blown c0 b (b + 1) (b + 1) c) (fun c => Blown c0 b (b + 1) b c) := by
  unfold Prg.pulses
  have h0 : Pul c0 b 0 c0 := ⟨Evo.refl _, fun j _ => rfl, fun j h1 h2 => by omega⟩
  refine TriC.bind (mid := fun _ c => Pul c0 b 1 c) (TriC.pulse (3 * b + 0) _ (by omega) (fun c h => by subst h; exact h0.step) (fun c h => by subst h; exact h0.cut (by omega))) fun _ => ?_
  refine TriC.bind (mid := fun _ c => Pul c0 b 2 c) (TriC.pulse (3 * b + 1) _ (by omega) (fun c h => h.step) (fun c h => h.cut (by omega))) fun _ => ?_
  refine TriC.bind (mid := fun _ c => Pul c0 b 3 c) (TriC.pulse (3 * b + 2) _ (by omega) (fun c h => h.step) (fun c h => h.cut (by omega))) fun _ => ?_
  exact TriC.ret fun c h => ⟨h.evo, fun j hj => h.out j (by omega), fun j h1 h2 => h.done j h1 (by omega)⟩
theorem tri_up (F : List Int) (c0 : List Int) : ∀ f n, TriC F (fun c => c = c0) (Prg.up 2 f n) (fun m c => c = c0 ∧ n ≤ m ∧ m ≤ n + f ∧ (∀ b, n ≤ b → b < m → bitOne c0 true b = true) ∧ (m < n + f → bitOne c0 false m = false)) (fun c => c = c0)
  | 0, n => TriC.ret fun c h => ⟨h, Nat.le_refl _, Nat.le_refl _, fun b h1 h2 => by omega, fun h => by omega⟩
  | f + 1, n => by
    unfold Prg.up
    refine TriC.bind (tri_read F c0 n) fun v => ?_
    cases v with
    | true =>
      refine fun c i ⟨hc, hv, _⟩ => (TriC.mono (tri_up F c0 f (n + 1)) (fun c h => h) ?_ (fun c h => h)) c i hc
      rintro m c ⟨h1, h2, h3, h4, h5⟩
      refine ⟨h1, by omega, by omega, fun b hb1 hb2 => ?_, fun h => h5 (by omega)⟩
      by_cases e : b = n
      · rw [e]; exact hv rfl
      · exact h4 b (by omega) hb2
    | false => exact TriC.ret fun c ⟨hc, _, hv⟩ => ⟨hc, Nat.le_refl _, by omega, fun b h1 h2 => by omega, fun _ => hv rfl⟩
theorem Blown.start (c : List Int) (n m : Nat) (_h : n ≤ m) : Blown c n m n c := ⟨Evo.refl _, fun _ _ => rfl, fun j h1 h2 => by omega⟩
theorem Blown.step {c0 c c' : List Int} {lo hi b d : Nat} (h : Blown c0 lo hi b c) (k : Blown c b (b + 1) d c') (_hd : d ≤ b + 1) (hlo : lo ≤ b) (hhi : b < hi) (_hbd : b ≤ d) : Blown c0 lo hi d c' := by
  refine ⟨h.evo.trans k.evo, fun j hj => ?_, fun j h1 h2 h3 h4 => ?_⟩
  · rw [k.out j (by omega)]; exact h.out j hj
  · by_cases e : j < 3 * b
    · rw [k.out j (.inl e)]
      exact h.done j h1 e h3 h4
    · by_cases e2 : cell c j ≤ 1
      · exact k.done j (by omega) h2 (by rw [h.evo.len]; exact h3) e2
      · rcases h.evo.at_ j with e3 | ⟨_, e3 | e3⟩
        · omega
        · omega
        · rcases k.evo.at_ j with e4 | e4 <;> omega
theorem tri_down (F : List Int) (c0 : List Int) (hi : Nat) : ∀ r b, b + r = hi → TriC F (fun c => Blown c0 0 hi b c) (Prg.down 2 r b) (fun _ c => Blown c0 0 hi hi c) (fun c => Blown c0 0 hi 0 c)
  | 0, b, hb => TriC.ret fun c h => by rw [← hb]; rw [← hb] at h; exact h
  | r + 1, b, hb => by
    unfold Prg.down
    refine TriC.bind (mid := fun _ c => Blown c0 0 hi (b + 1) c) (fun c i hc => ?_) fun _ => tri_down F c0 hi r (b + 1) (by omega)
    refine TriC.mono (tri_pulses F c b) (fun c h => h) (fun _ c' h => hc.step h (Nat.le_refl _) (Nat.zero_le _) (by omega) (by omega)) (fun c' h => ?_) c i rfl
    have := hc.step h (by omega) (Nat.zero_le _) (by omega) (Nat.le_refl _)
    exact ⟨this.evo, this.out, fun j h1 h2 => by omega⟩
structure LevP (c0 : List Int) (bits m d : Nat) (c : List Int) : Prop where
  le : m ≤ bits
  high : ∀ b, b < m → bitOne c0 true b = true
  low : m < bits → bitOne c0 false m = false
  blown : Blown c0 0 m d c
theorem tri_levelOf (F : List Int) (c0 : List Int) (bits : Nat) : TriC F (fun c => c = c0) (Prg.levelOf 2 bits) (fun m c => LevP c0 bits m m c) (fun c => ∃ m, LevP c0 bits m 0 c ∨ (c = c0 ∧ m = 0)) := by
  unfold Prg.levelOf
  refine TriC.bind (TriC.mono (tri_up F c0 bits 0) (fun c h => h) (fun m c h => h) (fun c h => ⟨0, .inr ⟨h, rfl⟩⟩)) fun m => ?_
  intro c i ⟨h1, _, h3, h4, h5⟩
  have hb : m ≤ bits := by omega
  have hT : TriC F (fun c => Blown c0 0 m 0 c) ((Prg.down 2 m 0).bind fun _ => Prg.ret m) (fun m' c => LevP c0 bits m' m' c) (fun c => ∃ m, LevP c0 bits m 0 c ∨ (c = c0 ∧ m = 0)) := by
    refine TriC.bind (mid := fun _ c => Blown c0 0 m m c) (TriC.mono (tri_down F c0 m m 0 (by omega)) (fun c h => h) (fun _ c h => h) (fun c h => ⟨m, .inl ⟨hb, fun b hb => h4 b (Nat.zero_le _) hb, fun h => h5 (by omega), h⟩⟩)) fun _ => ?_
    exact TriC.ret fun c h => ⟨hb, fun b hb => h4 b (Nat.zero_le _) hb, fun h => h5 (by omega), h⟩
  exact hT c i (by rw [h1]; exact Blown.start c0 0 m (Nat.zero_le _))
theorem val_bit {x : Int} (h : 0 ≤ x ∧ x ≤ 3) : x = 0 ∨ x = 1 ∨ x = 2 ∨ x = 3 := by omega
theorem blown_low {c0 c : List Int} {lo hi d b : Nat} (h : Blown c0 lo hi d c) (hv : Val c0) (hb : lo ≤ b) (hd : b < d) (hl : 3 * b + 2 < c0.length) (hs : bitOne c0 true b = true ∨ stuckC c0 b ≤ 1) : bitOne c false b = true := by
  have e0 := h.done (3 * b) (by omega) (by omega) (by omega)
  have e1 := h.done (3 * b + 1) (by omega) (by omega) (by omega)
  have e2 := h.done (3 * b + 2) (by omega) (by omega) (by omega)
  have k0 := h.evo.at_ (3 * b)
  have k1 := h.evo.at_ (3 * b + 1)
  have k2 := h.evo.at_ (3 * b + 2)
  have v0 := val_bit (hv (3 * b))
  have v1 := val_bit (hv (3 * b + 1))
  have v2 := val_bit (hv (3 * b + 2))
  unfold bitOne stuckC at hs
  unfold bitOne
  unfold cell at *
  simp only [decide_eq_true_eq] at hs ⊢
  generalize c0.getD (3 * b) 0 = x0 at *
  generalize c0.getD (3 * b + 1) 0 = x1 at *
  generalize c0.getD (3 * b + 2) 0 = x2 at *
  generalize c.getD (3 * b) 0 = y0 at *
  generalize c.getD (3 * b + 1) 0 = y1 at *
  generalize c.getD (3 * b + 2) 0 = y2 at *
  have f0 : y0 = if x0 = 3 then 3 else 2 := by split <;> omega
  have f1 : y1 = if x1 = 3 then 3 else 2 := by split <;> omega
  have f2 : y2 = if x2 = 3 then 3 else 2 := by split <;> omega
  clear e0 e1 e2 k0 k1 k2
  subst f0 f1 f2
  rcases v0 with rfl | rfl | rfl | rfl <;> rcases v1 with rfl | rfl | rfl | rfl <;> rcases v2 with rfl | rfl | rfl | rfl <;> revert hs <;> decide
theorem blown_stuck {c0 c : List Int} {lo hi d b : Nat} (h : Blown c0 lo hi d c) (hv : Val c0) (hb : lo ≤ b) (hd : b < d) (hl : 3 * b + 2 < c0.length) (hs : bitOne c false b = false) : 2 ≤ stuckC c0 b := by
  rcases Nat.lt_or_ge (stuckC c0 b) 2 with h1 | h1
  · rw [blown_low h hv hb hd hl (.inr (by omega))] at hs
    cases hs
  · exact h1
theorem blown_high {c0 c : List Int} {lo hi d b : Nat} (h : Blown c0 lo hi d c) (hv : Val c0) (hb : lo ≤ b) (hd : b < d) (hl : 3 * b + 2 < c0.length) (hs : bitOne c true b = true) : bitOne c false b = true := by
  by_cases hq : stuckC c0 b ≤ 1
  · exact blown_low h hv hb hd hl (.inr hq)
  · have hq' : 2 ≤ stuckC c b := by rw [h.evo.stuck]; omega
    have hv' := hv.evo h.evo
    have v0 := val_bit (hv' (3 * b))
    have v1 := val_bit (hv' (3 * b + 1))
    have v2 := val_bit (hv' (3 * b + 2))
    unfold bitOne at hs
    unfold stuckC at hq'
    unfold cell at *
    simp only [decide_eq_true_eq] at hs
    generalize c.getD (3 * b) 0 = x0 at *
    generalize c.getD (3 * b + 1) 0 = x1 at *
    generalize c.getD (3 * b + 2) 0 = x2 at *
    exfalso
    rcases v0 with rfl | rfl | rfl | rfl <;> rcases v1 with rfl | rfl | rfl | rfl <;> rcases v2 with rfl | rfl | rfl | rfl <;> revert hs hq' <;> decide
structure RaiP (c0 : List Int) (n f m : Nat) (e : Int) (c : List Int) : Prop where
  ge : n ≤ m
  le : m ≤ n + f
  evo : Evo c0 c
  out : ∀ j, (j < 3 * n ∨ 3 * (n + f) ≤ j) → cell c j = cell c0 j
  low : ∀ b, n ≤ b → b < m → bitOne c false b = true
  ok : e = 0 ∧ m = n + f ∨ e = 12 ∧ m < n + f ∧ 2 ≤ stuckC c0 m
theorem tri_raiseFrom (F : List Int) : ∀ (f n : Nat) (c0 : List Int), Val c0 → 3 * (n + f) ≤ c0.length → TriC F (fun c => c = c0) (Prg.raiseFrom 2 f n) (fun p c => RaiP c0 n f p.1 p.2 c) (fun c => Evo c0 c ∧ ∀ j, (j < 3 * n ∨ 3 * (n + f) ≤ j) → cell c j = cell c0 j)
  | 0, n, c0, hv, hl => TriC.ret fun c h => by subst h; exact ⟨Nat.le_refl _, Nat.le_refl _, Evo.refl _, fun _ _ => rfl, fun b h1 h2 => by omega, .inl ⟨rfl, rfl⟩⟩
  | f + 1, n, c0, hv, hl => by
    unfold Prg.raiseFrom
    refine TriC.bind (TriC.mono (tri_pulses F c0 n) (fun c h => h) (fun _ c h => h) (fun c h => ⟨h.evo, fun j hj => h.out j (by omega)⟩)) fun _ => ?_
    intro c1 i1 hB
    refine TriC.bind (TriC.mono (tri_read F c1 n) (fun c h => h) (fun v c h => h) (fun c h => ?_)) (fun v => ?_) c1 i1 rfl
    · rw [h]; exact ⟨hB.evo, fun j hj => hB.out j (by omega)⟩
    · cases v with
      | true =>
        refine fun c i ⟨hc, hv1, _⟩ => (TriC.mono (tri_raiseFrom F f (n + 1) c1 (hv.evo hB.evo) (by rw [hB.evo.len]; omega)) (fun c h => h) ?_ ?_) c i hc
        · rintro ⟨m, e⟩ c' h
          have hlow := blown_high hB hv (Nat.le_refl n) (by omega) (by omega) (hv1 rfl)
          refine ⟨by have := h.ge; omega, by have := h.le; omega, hB.evo.trans h.evo, fun j hj => (h.out j (by omega)).trans (hB.out j (by omega)), fun b h1 h2 => ?_, ?_⟩
          · by_cases e : b = n
            · subst e; exact h.evo.low hlow
            · exact h.low b (by omega) h2
          · rcases h.ok with ⟨e1, e2⟩ | ⟨e1, e2, e3⟩
            · exact .inl ⟨e1, by omega⟩
            · exact .inr ⟨e1, by omega, by rw [← hB.evo.stuck]; exact e3⟩
        · rintro c' ⟨h1, h2⟩
          exact ⟨hB.evo.trans h1, fun j hj => (h2 j (by omega)).trans (hB.out j (by omega))⟩
      | false =>
        refine TriC.ret fun c ⟨hc, _, hv1⟩ => ?_
        subst hc
        exact ⟨Nat.le_refl _, by omega, hB.evo, fun j hj => hB.out j (by omega), fun b h1 h2 => by omega, .inr ⟨rfl, by omega, blown_stuck hB hv (Nat.le_refl n) (by omega) (by omega) (hv1 rfl)⟩⟩
end Go.Proofs.YtihghljfmlbfhaaDoor


namespace Go.Proofs.YtihghljfmlbfhaaDoor
open Go.RowKit
theorem level_bits (c : List Int) (nz : Bool) (bits : Nat) (hl : c.length = 3 * bits) : levelOfCells c nz = levelUp c nz bits 0 := by unfold levelOfCells; rw [hl, show 3 * bits / 3 = bits from by omega]
theorem lev_between {c0 : List Int} {bits m : Nat} (hl : c0.length = 3 * bits) (hm : m ≤ bits) (high : ∀ b, b < m → bitOne c0 true b = true) (low : m < bits → bitOne c0 false m = false) : levelOfCells c0 false ≤ m ∧ m ≤ levelOfCells c0 true := by
  rw [level_bits c0 false bits hl, level_bits c0 true bits hl]
  constructor
  · obtain ⟨_, h2, h3, _⟩ := levelUp_spec c0 false bits 0
    rcases Nat.lt_or_ge m (levelUp c0 false bits 0) with h | h
    · have := h3 m (Nat.zero_le _) h
      rw [low (by omega)] at this
      cases this
    · exact h
  · exact le_levelUp c0 true m bits 0 (fun b _ hb => high b hb) (by omega)
end Go.Proofs.YtihghljfmlbfhaaDoor


namespace Go.Proofs.YtihghljfmlbfhaaDoor
open Go.RowKit
structure Snd (c : List Int) : Prop where
  val : Val c
  len : c.length = 48
  st : ∀ b, b < 16 → stuckC c b ≤ 1
theorem Snd.evo {c c' : List Int} (h : Snd c) (e : Evo c c') : Snd c' := ⟨h.val.evo e, e.len.trans h.len, fun b hb => by rw [e.stuck]; exact h.st b hb⟩
theorem levelUp_ge8 (c : List Int) (nz : Bool) : ∀ f n, n ≤ levelUp c nz f n
  | 0, n => Nat.le_refl _
  | f + 1, n => by
    unfold levelUp
    split
    · exact Nat.le_trans (Nat.le_succ n) (levelUp_ge8 c nz f (n + 1))
    · exact Nat.le_refl _
theorem levelUp_evo {c c' : List Int} (e : Evo c c') : ∀ f n, levelUp c false f n ≤ levelUp c' false f n
  | 0, n => Nat.le_refl _
  | f + 1, n => by
    by_cases h : bitOne c false n = true
    · have h' := e.low h
      simp only [levelUp, h, h', if_true]
      exact levelUp_evo e f (n + 1)
    · have : levelUp c false (f + 1) n = n := by simp only [levelUp]; rw [if_neg h]
      rw [this]
      exact levelUp_ge8 c' false (f + 1) n
theorem levelUp_of {c : List Int} {t : Nat} : ∀ f n, (∀ b, n ≤ b → b < t → bitOne c false b = true) → t ≤ n + f → t ≤ levelUp c false f n
  | 0, n, _, h => h
  | f + 1, n, hb, h => by
    by_cases hn : n < t
    · simp only [levelUp, hb n (Nat.le_refl _) hn, if_true]
      exact levelUp_of f (n + 1) (fun b h1 h2 => hb b (by omega) h2) (by omega)
    · exact Nat.le_trans (by omega) (levelUp_ge8 c false (f + 1) n)
theorem TriC.at_ {α : Type} {F : List Int} {pre : List Int → Prop} {p : Prg α} {post : α → List Int → Prop} {cut : List Int → Prop} (h : ∀ c0, pre c0 → TriC F (fun c => c = c0) p post cut) : TriC F pre p post cut := fun c i hc => h c hc c i rfl
theorem lev_low {c0 c : List Int} {m : Nat} (hs : Snd c0) (h : LevP c0 16 m m c) : ∀ b, b < m → bitOne c false b = true := fun b hb =>
  blown_low h.blown hs.val (Nat.zero_le _) hb (by rw [hs.len]; have := h.le; omega) (.inl (h.high b hb))
theorem tri_raiseTo (F : List Int) (c0 : List Int) (hs : Snd c0) (t : Nat) (ht : t ≤ 16) :
    TriC F (fun c => c = c0) (Prg.raiseTo 2 16 t) (fun p c => Evo c0 c ∧ p.2 = 0 ∧ t ≤ levelUp c false 16 0) (fun c => Evo c0 c) := by
  unfold Prg.raiseTo
  refine TriC.bind (mid := fun m c => LevP c0 16 m m c) ((tri_levelOf F c0 16).mono (fun _ h => h) (fun _ _ h => h) fun c h => ?_) fun m => TriC.at_ fun c1 h1 => ?_
  · obtain ⟨m, h | h⟩ := h
    · exact h.blown.evo
    · rw [h.1]; exact Evo.refl _
  · have e1 := h1.blown.evo
    have hs1 := hs.evo e1
    have hl := lev_low hs h1
    have hm := h1.le
    refine (tri_raiseFrom F (t - m) m c1 hs1.val (by rw [hs1.len]; omega)).mono (fun _ h => h) (fun p c h => ?_) fun c h => e1.trans h.1
    refine ⟨e1.trans h.evo, ?_, ?_⟩
    · rcases h.ok with ⟨h2, _⟩ | ⟨_, h3, h4⟩
      · exact h2
      · have := hs1.st p.1 (by omega)
        omega
    · rcases h.ok with ⟨_, h2⟩ | ⟨_, h3, h4⟩
      · refine levelUp_of 16 0 (fun b _ hb => ?_) (by omega)
        by_cases hbm : b < m
        · exact h.evo.low (hl b hbm)
        · exact h.low b (by omega) (by omega)
      · have := hs1.st p.1 (by omega)
        omega
structure SgnP (h : Nat) (c0 : List Int) (p : Nat × Int) (c : List Int) : Prop where
  evo : Evo c0 c
  ge : levelUp c0 false 16 0 ≤ p.1
  end_ : 2 ^ h ≤ p.1 ∧ p.2 = 17 ∨ p.1 < 2 ^ h ∧ p.2 = 0 ∧ p.1 + 1 ≤ levelUp c false 16 0
theorem tri_sign (F : List Int) (c0 : List Int) (hs : Snd c0) (h : Nat) (hh : h ≤ 4) : TriC F (fun c => c = c0) (Prg.sign h) (fun p c => SgnP h c0 p c) (fun c => Evo c0 c) := by
  unfold Prg.sign
  have h16 : 2 ^ h ≤ 2 ^ 4 := Nat.pow_le_pow_right (by omega) hh
  refine TriC.bind (mid := fun m c => LevP c0 16 m m c) ((tri_levelOf F c0 16).mono (fun _ h => h) (fun _ _ h => h) fun c h => ?_) fun n => TriC.at_ fun c1 h1 => ?_
  · obtain ⟨m, h | h⟩ := h
    · exact h.blown.evo
    · rw [h.1]; exact Evo.refl _
  · have e1 := h1.blown.evo
    have hs1 := hs.evo e1
    have hb := (lev_between (bits := 16) hs.len h1.le h1.high h1.low).1
    rw [level_bits c0 false 16 hs.len] at hb
    by_cases hg : 2 ^ h ≤ n
    · rw [if_pos hg]
      exact TriC.ret fun c hc => by subst hc; exact ⟨e1, hb, .inl ⟨hg, rfl⟩⟩
    · rw [if_neg hg]
      refine TriC.bind (mid := fun p c => Evo c0 c ∧ p.2 = 0 ∧ n + 1 ≤ levelUp c false 16 0) ((tri_raiseTo F c1 hs1 (n + 1) (by omega)).mono (fun _ h => h) (fun p c h => ⟨e1.trans h.1, h.2⟩) fun c h => e1.trans h) fun p => TriC.ret fun c hc => ⟨hc.1, hb, .inr ⟨by omega, hc.2.1, hc.2.2⟩⟩
end Go.Proofs.YtihghljfmlbfhaaDoor
namespace Go.Proofs.YtihghljfmlbfhaaDoor.Pv
open Go.RowKit
theorem signI_nat (h : Nat) (hh : h ≤ 4) : Prg.signI (h : Int) = Prg.sign h := by
  unfold Prg.signI
  rw [if_pos ⟨by omega, by omega⟩, Int.toNat_natCast]
theorem ends_congr8 (f g : Nat → List UInt8) : ∀ n, (∀ k, k < n → f k = g k) → endsS f n = endsS g n
  | 0, _ => rfl
  | n + 1, h => by rw [endsS_step, endsS_step, ends_congr8 f g n fun k hk => h k (by omega), h n (by omega)]
theorem recover_sign8 (seed : List UInt8) (index : Int) (m : List UInt8) : recoverS m (chainAt (signS seed index m 68)) = publicS seed index := by
  rw [← wots_verifies seed index m]
  unfold recoverS keyOf
  rw [ends_congr8 _ _ 68 fun k hk => ?_]
  have : chainAt (signS seed index m 68) k = signAt seed index m k := by
    unfold chainAt signS
    rw [List.getD_eq_getElem?_getD, List.getElem?_map, List.getElem?_range hk]
    rfl
  rw [this]
theorem own_verifies8 (seed msg : List UInt8) (n i : Nat) (hi : i < n) : verifyS (rootS (leavesS seed n)) n i (recoverS msg (chainAt (signS seed (i : Int) msg 68))) (proveS (leavesS seed n) i) = true := by
  rw [recover_sign8]
  have := prove_verifies (leavesS seed n) i _ (leavesS_get seed n i hi)
  rwa [leavesS_length] at this
theorem sgnT_yes (seed m : List UInt8) (h i : Nat) (hh : h ≤ 4) (hi : i < 2 ^ h) : sgnT seed (h : Int) (i : Int) m = (⟨(i : Int), signS seed (i : Int) m 68, proveS (leavesS seed (2 ^ h)) i⟩, 0) := by
  unfold sgnT
  rw [if_neg (by omega)]
  simp only [Int.toNat_natCast]
  rw [if_pos hi]
theorem ver_own8 (seed m : List UInt8) (h i : Nat) (hh : h ≤ 4) (hi : i < 2 ^ h) : verS (rootT seed (h : Int)).1 (h : Int) m (sgnT seed (h : Int) (i : Int) m).1 = true := by
  have e1 : rootT seed (h : Int) = (rootS (leavesS seed (2 ^ h)), 0) := by
    unfold rootT
    rw [if_pos ⟨by omega, by omega⟩, Int.toNat_natCast]
  rw [e1, sgnT_yes seed m h i hh hi]
  dsimp only
  rw [verS_yes hh rfl hi (signS_length seed i m 68)]
  exact own_verifies8 seed m (2 ^ h) i hi
theorem sgnT_small (seed m : List UInt8) (h i : Int) : (sgnT seed h i m).1.chain.length ≤ 68 ∧ (sgnT seed h i m).1.path.length ≤ 16 := by
  unfold sgnT
  split
  · exact ⟨Nat.zero_le _, Nat.zero_le _⟩
  · rename_i ho
    split
    · refine ⟨by dsimp only; rw [signS_length]; exact Nat.le_refl _, ?_⟩
      dsimp only
      have h4 : 0 ≤ h ∧ h ≤ 4 := by omega
      have := prove_le _ (leavesS seed (2 ^ h.toNat)) i.toNat (Nat.le_refl _)
      rw [leavesS_length] at this
      have h16 : 2 ^ h.toNat ≤ 2 ^ 4 := Nat.pow_le_pow_right (by omega) (by omega)
      omega
    · exact ⟨Nat.zero_le _, Nat.zero_le _⟩
theorem sgO_end {seed m : List UInt8} {h : Nat} {c c' : List Int} {p : Nat × Int} (hh : h ≤ 4) (hp : SgnP h c p c') :
    (p.2 = 17 ∧ sgO seed h m p = (⟨0, [], []⟩, 17)) ∨ (p.2 = 0 ∧ p.1 < 2 ^ h ∧ sgO seed h m p = sgnT seed h p.1 m ∧ (sgO seed h m p).2 = 0 ∧ (sgO seed h m p).1.index = (p.1 : Int)) := by
  rcases hp.end_ with ⟨_, h2⟩ | ⟨h1, h2, _⟩
  · refine .inl ⟨h2, ?_⟩
    unfold sgO
    rw [if_neg (by omega), h2]
  · have e : sgO seed h m p = sgnT seed h p.1 m := by
      unfold sgO
      rw [if_pos h2]
    refine .inr ⟨h2, h1, e, ?_⟩
    rw [e, sgnT_yes seed m h p.1 hh h1]
    exact ⟨rfl, rfl⟩
end Go.Proofs.YtihghljfmlbfhaaDoor.Pv


namespace Go.Proofs.YtihghljfmlbfhaaDoor.Pv
open Go.RowKit
def c2 (h : HwS) : List Int := h.b.getD 2 []
structure RndP (seed m : List UInt8) (k : Nat) (h : HwS) (q : Option (Nat × Int) × HwS × Nat) : Prop where
  dim : Dim q.2.1
  snd : Snd (c2 q.2.1)
  mono : levelUp (c2 h) false 16 0 ≤ levelUp (c2 q.2.1) false 16 0
  new : ∀ p, q.1 = some p → (sgO seed k m p).2 = 17 ∨ ∃ i : Nat, sgO seed k m p = sgnT seed k i m ∧ i < 2 ^ k ∧ levelUp (c2 h) false 16 0 ≤ i ∧ i + 1 ≤ levelUp (c2 q.2.1) false 16 0
theorem round_live (seed m : List UInt8) (k : Nat) (hk : k ≤ 4) (F : List Flt) (h : HwS) (d : Dim h) (hs : Snd (c2 h)) : RndP seed m k h (execL F (Prg.signI k) h 0) := by
  obtain ⟨e, d'⟩ := execL_exec F (Prg.signI k) (signI_in k) h 0 d
  have ht := tri_sign (F.map fltI) (c2 h) hs k hk (c2 h) 0 rfl
  have hc : c2 (execL F (Prg.signI k) h 0).2.1 = (exec (F.map fltI) (Prg.sign k) (c2 h) 0).2.1 := by
    rw [e, signI_nat k hk]
    exact withB_get d _
  have h1 : (execL F (Prg.signI k) h 0).1 = (exec (F.map fltI) (Prg.sign k) (c2 h) 0).1 := by
    rw [e, signI_nat k hk]
    rfl
  generalize execL F (Prg.signI k) h 0 = q at d' hc h1 ⊢
  generalize exec (F.map fltI) (Prg.sign k) (c2 h) 0 = r at ht hc h1
  obtain ⟨r1, r2, r3⟩ := r
  dsimp only at hc h1
  cases r1 with
  | none =>
    have hev : Evo (c2 h) r2 := ht
    exact ⟨d', by rw [hc]; exact hs.evo hev, by rw [hc]; exact levelUp_evo hev 16 0, fun p hp => by rw [h1] at hp; cases hp⟩
  | some p =>
    have ht2 : SgnP k (c2 h) p r2 := ht
    refine ⟨d', by rw [hc]; exact hs.evo ht2.evo, by rw [hc]; exact levelUp_evo ht2.evo 16 0, fun p' hp => ?_⟩
    rw [h1] at hp
    cases hp
    rcases sgO_end (seed := seed) (m := m) hk ht2 with ⟨_, g⟩ | ⟨g0, g1, g2, _, _⟩
    · exact .inl (congrArg (·.2) g)
    · refine .inr ⟨p.1, g2, g1, ht2.ge, ?_⟩
      rw [hc]
      rcases ht2.end_ with ⟨_, e⟩ | ⟨_, _, e⟩
      · omega
      · exact e
end Go.Proofs.YtihghljfmlbfhaaDoor.Pv
