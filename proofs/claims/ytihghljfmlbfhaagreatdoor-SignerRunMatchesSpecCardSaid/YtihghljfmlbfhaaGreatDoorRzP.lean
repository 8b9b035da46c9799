/-
  Several texts in one file: each has its own heading below.
-/
import Derived.Test.YtihghljfmlbfhaaGreatDoorRzO
import Derived.Test.YtihghljfmlbfhaaGreatDoorRzK
import Derived.Test.YtihghljfmlbfhaaGreatDoorRzN
import Derived.Test.YtihghljfmlbfhaaGreatDoorRzF
import Derived.Test.YtihghljfmlbfhaaGreatDoorRzM
import Derived.WalkMore
set_option maxRecDepth 100000
set_option maxHeartbeats 4000000
namespace Go.Proofs.YtihghljfmlbfhaaGreatDoor
open Go.RowKit
theorem pW : Wide Tryz.prog 54 18 := ⟨⟨_, Tryz.underlying54, rfl⟩, by kernel_rfl⟩
theorem xG : Wide Tryz.prog 35 4 := ⟨⟨_, Tryz.underlying35, rfl⟩, by kernel_rfl⟩
theorem loc_int (b : Nat) (n : Int) : Pv.Loc Tryz.prog 3 b 3 #[.int .i64 n] (.int .i64 n) := by
 refine ⟨fun w hB => ?_, fun w old ho hB => ⟨w.setCell ⟨b, 0, none⟩ (.int .i64 n), ?_, ?_, Chg.setCell (S := fun k => k = b) (p := ⟨b, 0, none⟩) (Chg.refl _ _) (.inl rfl) _, by simp⟩⟩
 ·have h0 := hB.cell 0
  simp only [List.getElem?_toArray, List.getElem?_cons_zero] at h0
  simp [go_sem, h0]
 ·obtain ⟨x, rfl⟩ : ∃ x, old = #[x] := by
   obtain ⟨old⟩ := old
   match old, ho with
   | [x], _ => exact ⟨x, rfl⟩
  have h0 := hB.cell 0
  have hf := hB.frozen 0
  simp only [List.getElem?_toArray, List.getElem?_cons_zero] at h0
  simp [go_sem, h0, hf]
 ·obtain ⟨x, rfl⟩ : ∃ x, old = #[x] := by
   obtain ⟨old⟩ := old
   match old, ho with
   | [x], _ => exact ⟨x, rfl⟩
  exact hB.set_ 0 _
theorem loc_bool (b : Nat) (n : Bool) : Pv.Loc Tryz.prog 4 b 4 #[.bool n] (.bool n) := by
 refine ⟨fun w hB => ?_, fun w old ho hB => ⟨w.setCell ⟨b, 0, none⟩ (.bool n), ?_, ?_, Chg.setCell (S := fun k => k = b) (p := ⟨b, 0, none⟩) (Chg.refl _ _) (.inl rfl) _, by simp⟩⟩
 ·have h0 := hB.cell 0
  simp only [List.getElem?_toArray, List.getElem?_cons_zero] at h0
  simp [go_sem, h0]
 ·obtain ⟨x, rfl⟩ : ∃ x, old = #[x] := by
   obtain ⟨old⟩ := old
   match old, ho with
   | [x], _ => exact ⟨x, rfl⟩
  have h0 := hB.cell 0
  have hf := hB.frozen 0
  simp only [List.getElem?_toArray, List.getElem?_cons_zero] at h0
  simp [go_sem, h0, hf]
 ·obtain ⟨x, rfl⟩ : ∃ x, old = #[x] := by
   obtain ⟨old⟩ := old
   match old, ho with
   | [x], _ => exact ⟨x, rfl⟩
  exact hB.set_ 0 _
theorem wV (tmps : Array Value) (w : World) (Ab Ob Nb Db : Nat) (hw : Array Value) (hs : hw.size = 18) (o0 o1 o2 o3 n d9 : Value) (h6 : tmps.getD 6 undef = .pointer (some ⟨Ab, 0, none⟩)) (h7 : tmps.getD 7 undef = .pointer (some ⟨Ob, 0, none⟩)) (h8 : tmps.getD 8 undef = .pointer (some ⟨Nb, 0, none⟩)) (h9 : tmps.getD 9 undef = .pointer (some ⟨Db, 0, none⟩))
  (hA : Blk w Ab 54 hw) (hO : Blk w Ob 35 #[o0, o1, o2, o3]) (hN : Blk w Nb 3 #[n]) (hD : Blk w Db 4 #[d9]) :
  (results Tryz.f23 tmps).run Tryz.prog w = .ok (.tuple #[.agg hw, .agg #[o0, o1, o2, o3], n, d9]) w := by
 have a0 := kD hA pW hs
 have b0 := kD hO xG rfl
 have n0 := hN.cell 0
 have d0 := hD.cell 0
 simp only [List.getElem?_toArray, List.getElem?_cons_zero] at n0 d0
 simp only [Array.getD_eq_getD_getElem?] at h6 h7 h8 h9
 have n1 : (loadVar 3 ⟨Nb, 0, none⟩).run Tryz.prog w = .ok n w := by simp [go_sem, n0]
 have d1 : (loadVar 4 ⟨Db, 0, none⟩).run Tryz.prog w = .ok d9 w := by simp [go_sem, d0]
 simp [results, Tryz.results23, h6, h7, h8, h9, asAddr, a0, b0, n1, d1]
theorem live_any (G : Nat) (pc : Array Value) (hw : Array Value) (B : Option Addr) (nF cF : Nat) (V : Array Value → Int → Option (Array Value) → World → Prop) (g : Nat) (w : World) (hs : hw.size = 18) (h1 : hw.all (·.oneCell') = true) (hG : ∀ (args : Array Value) (w : World), (callFunc G args).run Tryz.prog w = .ok (.enter G args) w) (hg : g ≤ w.heap.size)
    (hV : ∀ a n o w1 w2, V a n o w1 → Chg (fun k => w.heap.size ≤ k ∧ k < w.heap.size + 6) w1 w2 → V a n o w2)
    (hp : ∀ w1, Ext w w1 → w1.heap.size = w.heap.size + 6 → Blk w1 (w.heap.size + 1) 43 #[.slice B nF cF] → Blk w1 (w.heap.size + 1 + 1) 54 hw → Blk w1 (w.heap.size + 1 + 1 + 1 + 1) 3 #[.int .i64 0] →
      Calls Tryz.prog G (#[.func (.func 38) #[] #[.pointer (some ⟨w.heap.size + 1 + 1 + 1 + 1, 0, none⟩), .pointer (some ⟨w.heap.size + 1, 0, none⟩), .pointer (some ⟨w.heap.size + 1 + 1, 0, none⟩)]] ++ pc) w1 fun e w2 => Chg (fun k => k = w.heap.size + 1 + 1 + 1 + 1 ∨ k = w.heap.size + 1 ∨ k = w.heap.size + 1 + 1 ∨ (g ≤ k ∧ k < w.heap.size)) w1 w2 ∧
        ∃ hw' n, hw'.size = 18 ∧ hw'.all (·.oneCell') = true ∧ Blk w2 (w.heap.size + 1 + 1) 54 hw' ∧ Blk w2 (w.heap.size + 1 + 1 + 1 + 1) 3 #[.int .i64 n] ∧
        ((∃ z A1 n1 c1 A2 n2 c2 er, e = .returned (.agg #[.int .i64 z, .slice A1 n1 c1, .slice A2 n2 c2, .int .i64 er]) ∧ V hw' n (some #[.int .i64 z, .slice A1 n1 c1, .slice A2 n2 c2, .int .i64 er]) w2) ∨ (e = .panicked Pv.xZ ∧ V hw' n none w2))) :
    Calls Tryz.prog 23 #[.func (.func G) #[] pc, .agg hw, .slice B nF cF] w fun e w' => Chg (fun k => g ≤ k) w w' ∧ ∃ hw' n, hw'.size = 18 ∧
      ((∃ z A1 n1 c1 A2 n2 c2 er, e = .returned (.tuple #[.agg hw', .agg #[.int .i64 z, .slice A1 n1 c1, .slice A2 n2 c2, .int .i64 er], .int .i64 n, .bool true]) ∧ V hw' n (some #[.int .i64 z, .slice A1 n1 c1, .slice A2 n2 c2, .int .i64 er]) w') ∨
       (e = .returned (.tuple #[.agg hw', .agg #[.int .i64 0, .slice none 0 0, .slice none 0 0, .int .i64 0], .int .i64 n, .bool false]) ∧ V hw' n none w')) := by
  have hmf : ∀ (fn : Fn) (first cap : Array Value) (w : World), (Instr.makeFunc fn first cap).run Tryz.prog w = .ok (.func fn first cap) w := fun _ _ _ _ => rfl
  have HP := hide hp
  have HS := hide (And.intro hs h1)
  have HV := hide hV
  clear hp hs h1 hV
  go_enter_defers Tryz.func23, Tryz.ntmps23
  go_upto_region 1 with fail
  generalize hW0 : World.alloc _ (.cells _ 4) = W0
  have z1 : Ext w W0 := by
    rw [← hW0]
    repeat' (first | (with_reducible exact Chg.refl _ _) | (with_reducible exact Ext.refl _) | (with_reducible assumption) | (with_reducible refine Chg.alloc ?_ _) | (with_reducible refine Chg.drew ?_) | (with_reducible refine Chg.drewN ?_ _) | (with_reducible refine Chg.setCell ?_ ?_ _) | (with_reducible refine Ext.alloc ?_ _) | (with_reducible refine Ext.drew ?_) | (with_reducible refine Ext.drewN ?_ _) | (with_reducible refine Ext.setCell ?_ ?_ _) | (simp; done) | (simp; omega) | omega)
  have z2 : Blk W0 w.heap.size 54 hw := by rw [← hW0]; exact (((((Blk.new w _ _).alloc _).alloc _).alloc _).alloc _).alloc _
  have z3 : Blk W0 (w.heap.size + 1) 43 #[.slice B nF cF] := by rw [← hW0]; exact ((((Blk.new' _ _ _ (by simp)).alloc _).alloc _).alloc _).alloc _
  have z4 : Blk W0 (w.heap.size + 1 + 1) 54 (#[.slice none 0 0, .slice none 0 0] ++ Array.replicate 16 (.int .u8 0)) := by rw [← hW0]; exact (((Blk.new' _ _ _ (by simp)).alloc _).alloc _).alloc _
  have z5 : Blk W0 (w.heap.size + 1 + 1 + 1) 35 #[.int .i64 0, .slice none 0 0, .slice none 0 0, .int .i64 0] := by rw [← hW0]; exact ((Blk.new' _ _ _ (by simp)).alloc _).alloc _
  have z6 : Blk W0 (w.heap.size + 1 + 1 + 1 + 1) 3 #[.int .i64 0] := by rw [← hW0]; exact (Blk.new' _ _ _ (by simp)).alloc _
  have z7 : Blk W0 (w.heap.size + 1 + 1 + 1 + 1 + 1) 4 #[.bool false] := by rw [← hW0]; exact Blk.new' _ _ _ (by simp)
  have z8 : W0.heap.size = w.heap.size + 6 := by rw [← hW0]; simp
  have HZ := hide (And.intro z1 (And.intro z2 (And.intro z3 (And.intro z4 (And.intro z5 (And.intro z6 (And.intro z7 z8)))))))
  clear hW0 z1 z2 z3 z4 z5 z6 z7 z8
  go_wp2_with (first
    | (refine aZ (ty := 54) (t := 54) (x := .tmp 4) rfl rfl pW rfl (cs := hw) (aA HZ).2.1 (aA HS).1 ?_)
    | (refine aH (ty := 54) (t := 54) (x := .tmp 6) (y := .tmp 11) rfl rfl pW rfl rfl (aA HZ).2.2.2.1 rfl (aA HS).1 (aA HS).2 ?_; intro w1 hb1 hc1 hz1; have H1 := hide (And.intro hb1 (And.intro hc1 hz1)); clear hb1 hc1 hz1))
  obtain ⟨z1, z2, z3, z4, z5, z6, z7, z8⟩ := aA HZ
  obtain ⟨y1, y2, y3⟩ := aA H1
  have hE1 : Ext w w1 := z1.trans' y2 (fun _ _ h => h) (fun i hi e => by omega)
  refine (aA HP w1 hE1 (y3.trans z8) (z3.chg y2 (by omega)) y1 (z6.chg y2 (by omega))).mono ?_
  rintro e w2 ⟨h2, hw', n, q1, q2, q3, q4, hq⟩
  have hO := (z5.chg y2 (by omega)).chg h2 (by omega)
  have hD := (z7.chg y2 (by omega)).chg h2 (by omega)
  have hEx : Hid (Chg (fun k => g ≤ k) w w2) := hide (hE1.trans' h2 (fun _ _ h => h.elim) (fun i hi e => by omega))
  have hsz2 : w1.heap.size ≤ w2.heap.size := h2.size
  rcases hq with ⟨z, A1, n1, c1, A2, n2, c2, er, rfl, hv⟩ | ⟨rfl, hv⟩
  · obtain ⟨o0, o1, o2, o3, fO, lO⟩ := hO.cells4
    have HO := hide hO
    have HD := hide hD
    have HQ := hide (And.intro q1 (And.intro q2 (And.intro q3 (And.intro q4 hv))))
    have hn1 : w.heap.size + 6 ≤ w2.heap.size := by omega
    clear z1 z2 z3 z4 z5 z6 z7 y1 y2 hE1 h2 q1 q2 q3 q4 hv hO hD HP H1 HZ
    go_upto_region 5 with fail
    generalize hw3 : World.setCell _ _ _ = w3
    have hc3 : Chg (fun k => k = w.heap.size + 1 + 1 + 1) w2 w3 := by
      rw [← hw3]
      repeat' (first | (with_reducible exact Chg.refl _ _) | (with_reducible exact Ext.refl _) | (with_reducible assumption) | (with_reducible refine Chg.alloc ?_ _) | (with_reducible refine Chg.drew ?_) | (with_reducible refine Chg.drewN ?_ _) | (with_reducible refine Chg.setCell ?_ ?_ _) | (with_reducible refine Ext.alloc ?_ _) | (with_reducible refine Ext.drew ?_) | (with_reducible refine Ext.drewN ?_ _) | (with_reducible refine Ext.setCell ?_ ?_ _) | (simp; done) | (simp; omega) | omega)
    have hs3 : w3.heap.size = w2.heap.size := by rw [← hw3]; simp
    have hO3 : Blk w3 (w.heap.size + 1 + 1 + 1) 35 #[.int .i64 z, .slice A1 n1 c1, .slice A2 n2 c2, .int .i64 er] := by rw [← hw3]; exact ((((aA HO).set_ 0 _).set_ 1 _).set_ 2 _).set_ 3 _
    clear hw3
    obtain ⟨q1, q2, q3, q4, hv⟩ := aA HQ
    refine Pv.live_ret (by kernel_rfl) ⟨_, _, w.heap.size + 1 + 1, w.heap.size + 1 + 1 + 1, w.heap.size + 1 + 1 + 1 + 1, w.heap.size + 1 + 1 + 1 + 1 + 1, 54, 35, 3, 4, hw', #[.int .i64 z, .slice A1 n1 c1, .slice A2 n2 c2, .int .i64 er], #[.int .i64 n], .agg hw', .agg #[.int .i64 z, .slice A1 n1 c1, .slice A2 n2 c2, .int .i64 er], .int .i64 n⟩
      (Pv.Loc.wide pW _ _ _ q1 q2) (Pv.Loc.wide xG _ _ _ rfl (by rw [← Array.all_toList]; rfl)) (loc_int _ _) (loc_bool _ _) rfl rfl rfl rfl rfl (by dsimp only; omega) (by dsimp only; omega) (by dsimp only; omega) (by dsimp only; omega) (by dsimp only; omega) (by dsimp only; omega)
      (q3.chg hc3 (by omega)) hO3 (q4.chg hc3 (by omega)) ⟨_, (aA HD).chg hc3 (by omega)⟩ fun a4 w4 h4 => ?_
    obtain ⟨ds, sz, tm, l1, l2, l3, k1, k2, k3, ⟨v4, k4, k5⟩, hc4, hz4⟩ := h4
    dsimp only at ds tm k1 k2 k3 k4 hc4 hz4
    obtain rfl := k5 rfl
    have H4 := hide (And.intro ds (And.intro sz (And.intro tm (And.intro k1 (And.intro k2 (And.intro k3 (And.intro k4 (And.intro hc4 hz4))))))))
    have H3 := hide (And.intro q1 (And.intro hv hc3))
    clear l1 l2 l3 k5 ds sz tm k1 k2 k3 k4 hc4 hz4 q1 q2 q3 q4 hv hc3
    dsimp only [Exit.then]
    go_wp2
    obtain ⟨ds, sz, tm, k1, k2, k3, k4, hc4, hz4⟩ := aA H4
    obtain ⟨q1, hv, hc3⟩ := aA H3
    show Leaves _ _ a4.tmps _ a4.defers .returning w4
    rw [ds]
    refine leaves_cons (f := 40) (args := #[.pointer (some ⟨w.heap.size + 1 + 1 + 1, 0, none⟩), .pointer (some ⟨w.heap.size + 1 + 1 + 1 + 1 + 1, 0, none⟩)]) (by simp) (by simp [go_sem]) ?_
    refine (aSy _ _ _).mono ?_
    rintro e u' w5 ⟨rfl, rfl, rfl⟩
    refine ⟨_, wV _ _ (w.heap.size + 1 + 1) (w.heap.size + 1 + 1 + 1) (w.heap.size + 1 + 1 + 1 + 1) (w.heap.size + 1 + 1 + 1 + 1 + 1) hw' q1 (.int .i64 z) (.slice A1 n1 c1) (.slice A2 n2 c2) (.int .i64 er) (.int .i64 n) (.bool true) (tm 6 (by omega)) (tm 7 (by omega)) (tm 8 (by omega)) (tm 9 (by omega)) k1 k2 k3 k4, ?_, hw', q1, n, .inl ⟨z, A1, n1, c1, A2, n2, c2, er, rfl, ?_⟩⟩
    · exact (aA hEx).trans (hc3.mono fun k _ hk => by omega) |>.trans (hc4.mono fun k _ hk => by rcases hk with h | h | h | h <;> omega)
    · exact (aA HV) _ _ _ _ _ hv ((hc3.mono fun k _ hk => by omega).trans (hc4.mono fun k _ hk => by rcases hk with h | h | h | h <;> omega))
  · have HO := hide hO
    have HD := hide hD
    have HQ := hide (And.intro q1 (And.intro q2 (And.intro q3 (And.intro q4 hv))))
    clear z1 z2 z3 z4 z5 z6 z7 y1 y2 hE1 h2 q1 q2 q3 q4 hv hO hD HP H1 HZ
    go_wp2
    obtain ⟨q1, q2, q3, q4, hv⟩ := aA HQ
    refine leaves_cons (f := 40) (args := #[.pointer (some ⟨w.heap.size + 1 + 1 + 1, 0, none⟩), .pointer (some ⟨w.heap.size + 1 + 1 + 1 + 1 + 1, 0, none⟩)]) (by simp) (by simp [go_sem]) ?_
    refine (aOo _ _ _ _ _ _ _ [] _ (aA HO) (aA HD) (by omega)).mono ?_
    rintro e u' w5 ⟨rfl, rfl, hc, hO', hD'⟩
    refine ⟨_, wV _ _ (w.heap.size + 1 + 1) (w.heap.size + 1 + 1 + 1) (w.heap.size + 1 + 1 + 1 + 1) (w.heap.size + 1 + 1 + 1 + 1 + 1) hw' q1 _ _ _ _ _ _ rfl rfl rfl rfl (q3.chg hc (by omega)) hO' (q4.chg hc (by omega)) hD', ?_, hw', n, q1, .inr ⟨rfl, ?_⟩⟩
    · exact (aA hEx).trans' hc (fun _ _ h => h) (fun i hi e => by omega)
    · exact (aA HV) _ _ _ _ _ hv (hc.mono fun k _ hk => by omega)
end Go.Proofs.YtihghljfmlbfhaaGreatDoor
namespace Go.Proofs.YtihghljfmlbfhaaGreatDoor.Pv
open Go.RowKit
def LiveEnd (seed m : List UInt8) (h : Int) (q : Option (Nat × Int) × HwS × Nat) (e : Ending) (w2 : World) (ok : Nat → Prop) : Prop :=
 (∃ p z A1 n1 c1 A2 n2 c2 er, q.1 = some p ∧ e = .returned (.agg #[.int .i64 z, .slice A1 n1 c1, .slice A2 n2 c2, .int .i64 er]) ∧
  RL { w := w2, ok := ok, env := fun _ => none } (qF (sgO seed h m p).1 ++ [.lit (.int .i64 (sgO seed h m p).2)]) [.int .i64 z, .slice A1 n1 c1, .slice A2 n2 c2, .int .i64 er]) ∨
 (q.1 = none ∧ e = .panicked xZ)
theorem aNc (seed m : List UInt8) (hs : seed.length = 16) (hm : m.length = 16) (h : Int) (F : List Flt) (hF : F.length ≤ 1000000) (h0 : HwS) (hd : Dim h0) (g : Nat) (w0 w : World) (hw0 : Ext w0 w) (hgw : g + 3 ≤ w0.heap.size) (hmem : ∀ w', Chg (fun b => g ≤ b) w w' → ShaMem w')
  (B0 : Blk w0 g 23 (seed.map u8v).toArray) (B1 : Blk w0 (g + 1) 3 #[.int .i64 h]) (B2 : Blk w0 (g + 1 + 1) 23 (m.map u8v).toArray)
  (gN gF gH : Nat) (hN : w0.heap.size ≤ gN) (hFb : w0.heap.size ≤ gF) (hH : w0.heap.size ≤ gH) (K X : Nat → Prop) (hX : X g ∧ X (g + 1) ∧ X (g + 1 + 1)) (hR : LiveB K gN gF gH F h0 [] X w) :
  Calls Tryz.prog 32 (#[.func (.func 38) #[] #[.pointer (some ⟨gN, 0, none⟩), .pointer (some ⟨gF, 0, none⟩), .pointer (some ⟨gH, 0, none⟩)]] ++ #[.pointer (some ⟨g + 1, 0, none⟩), .pointer (some ⟨g, 0, none⟩), .pointer (some ⟨g + 1 + 1, 0, none⟩)]) w fun e w2 =>
   Chg (fun k => k = gN ∨ k = gF ∨ k = gH ∨ (g ≤ k ∧ k < w0.heap.size)) w w2 ∧
   Blk w2 gN 3 #[.int .i64 ((gV F (Prg.signI h) h0 0).2.2 : Int)] ∧ (∃ cs, Blk w2 gH 54 cs ∧ RL { w := w2, ok := okL K X gN gF gH, env := fun _ => none } (hwL (gV F (Prg.signI h) h0 0).2.1) cs.toList) ∧
   LiveEnd seed m h (gV F (Prg.signI h) h0 0) e w2 (fun b => w.heap.size ≤ b) := by
 have b0 := B0.ext hw0
 have b1 := B1.ext hw0
 have b2 := B2.ext hw0
 obtain ⟨bl, hbl⟩ : ∃ bl : Nat → Nat, bl 900001 = g + 1 ∧ bl 900002 = g ∧ bl 900003 = g + 1 + 1 := ⟨fun x => if x = 900001 then g + 1 else if x = 900002 then g else g + 1 + 1, rfl, rfl, rfl⟩
 obtain ⟨hb1, hb2, hb3⟩ := hbl
 have lN := hR.bn.lt
 obtain ⟨cF, f1, f2⟩ := hR.bf
 obtain ⟨cH, f3, f4⟩ := hR.bh
 have lF := f1.lt
 have lH := f3.lt
 have hin := aDd h
 have hwi := mZ h
 have hgl := go_live F h0 (Prg.signI h) hin 399 hwi [] (by simp)
 have hlen := go_len (mV F h0) (Prg.signI h) 399 hwi []
 rw [List.length_nil, Nat.zero_add] at hlen
 have hX0 : (aDu K gN gF gH F h0).inv [] X w := ⟨hR, fun k hk => by cases hk⟩
 have hobs : ∀ o ∈ aAw seed m h, (o.x = 900001 ∧ o.t = 3 ∧ o.l = [.lit (.int .i64 h)]) ∨ (o.x = 900002 ∧ o.t = 23 ∧ o.l = [.bs 16 seed]) ∨ (o.x = 900003 ∧ o.t = 23 ∧ o.l = [.bs 16 m]) := by
  intro o ho
  simp only [aAw, List.mem_cons, List.not_mem_nil, or_false] at ho
  rcases ho with rfl | rfl | rfl
  ·exact .inl ⟨rfl, rfl, rfl⟩
  ·exact .inr (.inl ⟨rfl, rfl, rfl⟩)
  ·exact .inr (.inr ⟨rfl, rfl, rfl⟩)
 have hSX : ∀ b, SX (aAw seed m h) bl (aDu K gN gF gH F h0) b → (b = gN ∨ b = gF ∨ b = gH) ∨ b = g ∨ b = g + 1 ∨ b = g + 1 + 1 := by
  rintro b (hb | ⟨o, ho, rfl⟩)
  ·exact .inl hb
  ·rcases hobs o ho with ⟨e, _⟩ | ⟨e, _⟩ | ⟨e, _⟩ <;> rw [e] <;> omega
 have hSw : ∀ b, SX (aAw seed m h) bl (aDu K gN gF gH F h0) b → g ≤ b ∧ b < w.heap.size := fun b hb => by
  have := b2.lt
  rcases hSX b hb with (h | h | h) | h | h | h <;> omega
 have e1 : Value.pointer (some ⟨g + 1, 0, none⟩) = .pointer (some ⟨bl 900001, 0, none⟩) := by rw [hb1]
 have e2 : Value.pointer (some ⟨g, 0, none⟩) = .pointer (some ⟨bl 900002, 0, none⟩) := by rw [hb2]
 have e3 : Value.pointer (some ⟨g + 1 + 1, 0, none⟩) = .pointer (some ⟨bl 900003, 0, none⟩) := by rw [hb3]
 refine (aFl seed m h (mV F h0) [] w (fun _ => False) [.func (.func 38) #[] #[.pointer (some ⟨gN, 0, none⟩), .pointer (some ⟨gF, 0, none⟩), .pointer (some ⟨gH, 0, none⟩)], .pointer (some ⟨g + 1, 0, none⟩), .pointer (some ⟨g, 0, none⟩), .pointer (some ⟨g + 1 + 1, 0, none⟩)] bl (aDu K gN gF gH F h0) X
  (fun w' hc => hmem w' (hc.mono fun b _ hb => (hSw b hb).1))
  (fun b hb => ⟨(hSw b hb).2, fun h => h⟩)
  (aOp K gN gF gH F h0 hF hd (Prg.signI h) hin (by omega)) (aTa K gN gF gH F h0) rfl (fun p hp => by cases hp; exact hX0) (fun h => by cases h)
  (fun o ho => ?_) (fun o ho o' ho' e => ?_) ⟨?_, ?_, ?_, ?_, trivial⟩).mono ?_
 ·rcases hobs o ho with ⟨k1, k2, k3⟩ | ⟨k1, k2, k3⟩ | ⟨k1, k2, k3⟩ <;> rw [k1, k2, k3]
  ·exact ⟨by rw [hb1]; exact hX.2.1, _, by rw [hb1]; exact b1, .cons (.lit rfl) .nil⟩
  ·refine ⟨by rw [hb2]; exact hX.1, _, by rw [hb2]; exact b0, ?_⟩
   have := RL.cons (C := { w := w, ok := fun _ => False, env := fun _ => none }) (R.bs (n := 16) hs) RL.nil
   rw [List.append_nil] at this
   exact this
  ·refine ⟨by rw [hb3]; exact hX.2.2, _, by rw [hb3]; exact b2, ?_⟩
   have := RL.cons (C := { w := w, ok := fun _ => False, env := fun _ => none }) (R.bs (n := 16) hm) RL.nil
   rw [List.append_nil] at this
   exact this
 ·rcases hobs o ho with ⟨k1, _⟩ | ⟨k1, _⟩ | ⟨k1, _⟩ <;> rcases hobs o' ho' with ⟨k2, _⟩ | ⟨k2, _⟩ | ⟨k2, _⟩ <;> rw [k1, k2] at e ⊢ <;> first | rfl | (exfalso; omega)
 ·exact .w (.one (.dv rfl ⟨0, _, rfl, Nat.le_refl _, fun _ => rfl⟩))
 ·exact .w (.one (.pt ⟨_, _, rfl⟩ ⟨0, _, rfl, Nat.le_refl _, fun _ => ⟨_, rfl, e1⟩⟩))
 ·exact .w (.one (.pt ⟨_, _, rfl⟩ ⟨0, _, rfl, Nat.le_refl _, fun _ => ⟨_, rfl, e2⟩⟩))
 ·exact .w (.one (.pt ⟨_, _, rfl⟩ ⟨0, _, rfl, Nat.le_refl _, fun _ => ⟨_, rfl, e3⟩⟩))
 rintro e w2 ⟨hc, hq⟩
 refine ⟨hc.mono fun b _ hb => by have := b2.lt; have := B2.lt; rcases hSX b hb with (h | h | h) | h | h | h <;> omega, ?_⟩
 rcases hq with ⟨val, rfl, hres, _, hdv⟩ | ⟨chain, l, rfl, h1, h2, h3⟩
 ·obtain ⟨hB, hNC⟩ := hdv _ rfl
  have hx : gV F (Prg.signI h) h0 0 = _ := hgl.1 hNC
  rw [hx]
  obtain ⟨c3, g3, g4⟩ := hB.bh
  refine ⟨hB.bn, ⟨c3, g3, g4⟩, .inl ?_⟩
  cases hres with
  | w hres => cases hres with
   | @agg _ cs hres =>
    obtain ⟨cs⟩ := cs
    dsimp only at hres
    have hok : RL { w := w2, ok := fun b => w.heap.size ≤ b, env := fun _ => none } _ cs := hres.le ⟨Nat.le_refl _, fun b _ hb => ⟨hb.elim (fun h => h.2.elim) id, rfl⟩, fun _ _ _ h => by cases h⟩
    have hok2 := hok
    unfold qF at hres
    cases hres with
    | cons k1 hres => cases hres with
     | cons k2 hres => cases hres with
      | cons k3 hres => cases hres with
       | cons k4 hres =>
        cases hres
        cases k1
        cases k4
        cases k2 with
        | sl r2 _ _ => cases k3 with
         | sl r3 _ _ =>
          obtain ⟨_, A1, c1, rfl, _⟩ := r2
          obtain ⟨_, A2, c2, rfl, _⟩ := r3
          exact ⟨_, _, _, _, _, _, _, _, _, rfl, rfl, hok2⟩
 ·obtain ⟨rfl, hB, l', c, rfl, h4, h5⟩ := h3
  have hx : gV F (Prg.signI h) h0 0 = _ := hgl.2 l' c List.nil_prefix h1.2 h4 h5
  rw [hx]
  obtain ⟨c3, g3, g4⟩ := hB.bh
  have hb := hB.bn
  rw [List.length_append, List.length_singleton] at hb
  exact ⟨hb, ⟨c3, g3, g4⟩, .inr ⟨rfl, rfl⟩⟩
end Go.Proofs.YtihghljfmlbfhaaGreatDoor.Pv
namespace Go.Proofs.YtihghljfmlbfhaaGreatDoor
open Go.RowKit
theorem aQr (seed m : Array Value) (h : Int) (w : World) (_ : seed.size = 16) (_ : m.size = 16) :
  Calls Tryz.prog 18 #[.agg seed, .int .i64 h, .agg m] w fun e w' =>
   e = .returned (.func (.func 32) #[] #[.pointer (some ⟨w.heap.size + 1, 0, none⟩), .pointer (some ⟨w.heap.size, 0, none⟩), .pointer (some ⟨w.heap.size + 1 + 1, 0, none⟩)]) ∧
   Ext w w' ∧ w'.heap.size = w.heap.size + 3 ∧ Blk w' w.heap.size 23 seed ∧ Blk w' (w.heap.size + 1) 3 #[.int .i64 h] ∧ Blk w' (w.heap.size + 1 + 1) 23 m := by
 have hmf : ∀ (fn : Fn) (first cap : Array Value) (w : World), (Instr.makeFunc fn first cap).run Tryz.prog w = .ok (.func fn first cap) w := fun _ _ _ _ => rfl
 go_enter Tryz.func18, Tryz.ntmps18
 go_wp2
 refine bodyPost_ret (v := .func (.func 32) #[] #[.pointer (some ⟨w.heap.size + 1, 0, none⟩), .pointer (some ⟨w.heap.size, 0, none⟩), .pointer (some ⟨w.heap.size + 1 + 1, 0, none⟩)]) (by simp [results, Tryz.results18, go_sem]) rfl ⟨rfl, ?_, ?_, ?_, ?_, ?_⟩
 ·repeat' (first | (with_reducible exact Chg.refl _ _) | (with_reducible exact Ext.refl _) | (with_reducible assumption) | (with_reducible refine Chg.alloc ?_ _) | (with_reducible refine Chg.drew ?_) | (with_reducible refine Chg.drewN ?_ _) | (with_reducible refine Chg.setCell ?_ ?_ _) | (with_reducible refine Ext.alloc ?_ _) | (with_reducible refine Ext.drew ?_) | (with_reducible refine Ext.drewN ?_ _) | (with_reducible refine Ext.setCell ?_ ?_ _) | (simp; done) | (simp; omega) | omega)
 ·simp
 ·exact ((Blk.new w _ _).alloc _).alloc _
 ·exact (Blk.new' _ _ _ (by simp)).alloc _
 ·exact Blk.new' _ _ _ (by simp)
namespace Pv
def outS (seed m : List UInt8) (h : Int) (o : Option (Nat × Int)) : Sig × Int := match o with
 | some p => sgO seed h m p
 | none => (⟨0, [], []⟩, 0)
def aSi (seed m : List UInt8) (h : Int) (o : Option (Nat × Int)) : List PC := qF (outS seed m h o).1 ++ [.lit (.int .i64 (outS seed m h o).2)]
def aGr (seed m : List UInt8) (h : Int) (q : Option (Nat × Int) × HwS × Nat) : PV := .tup [.agg (hwL q.2.1), .agg (aSi seed m h q.1), .one (.lit (.int .i64 (q.2.2 : Int))), .one (.lit (.bool q.1.isSome))]
def LiveV (seed m : List UInt8) (h : Int) (q : Option (Nat × Int) × HwS × Nat) (ok : Nat → Prop) (hw : Array Value) (n : Int) (o : Option (Array Value)) (w : World) : Prop :=
 n = (q.2.2 : Int) ∧ RL { w := w, ok := ok, env := fun _ => none } (hwL q.2.1) hw.toList ∧ match o with
 | some ys => q.1.isSome = true ∧ RL { w := w, ok := ok, env := fun _ => none } (aSi seed m h q.1) ys.toList
 | none => q.1 = none
theorem LiveV.le {seed m : List UInt8} {h : Int} {q : Option (Nat × Int) × HwS × Nat} {ok ok' : Nat → Prop} {hw : Array Value} {n : Int} {o : Option (Array Value)} {w w' : World} (hv : LiveV seed m h q ok hw n o w) (hs : w.heap.size ≤ w'.heap.size) (hb : ∀ b, b < w.heap.size → ok b → ok' b ∧ w'.heap[b]? = w.heap[b]?) : LiveV seed m h q ok' hw n o w' := by
 obtain ⟨h1, h2, h3⟩ := hv
 refine ⟨h1, h2.le ⟨hs, fun b hb1 hb2 => hb b hb1 hb2, fun _ _ _ h => by cases h⟩, ?_⟩
 cases o with
 | none => exact h3
 | some ys => exact ⟨h3.1, h3.2.le ⟨hs, fun b hb1 hb2 => hb b hb1 hb2, fun _ _ _ h => by cases h⟩⟩
theorem xW {C : Ctx} {h : HwS} {cs : Array Value} (hr : RL C (hwL h) cs.toList) : cs.size = 18 := by
 unfold hwL at hr
 obtain ⟨cs⟩ := cs
 dsimp only at hr
 cases hr with
 | cons k1 hr => cases hr with
  | cons k2 hr =>
   obtain ⟨k3, k4⟩ := hr.bs1
   have w1 := k1.width
   have w2 := k2.width
   subst k4
   simp [PC.width] at w1 w2
   simp [w1, w2, k3]
theorem aJs {C : Ctx} {h : HwS} {cs : Array Value} (hr : RL C (hwL h) cs.toList) : cs.all (·.oneCell') = true := by
 rw [← Array.all_toList, List.all_eq_true]
 exact fun x hx => hr.ones x hx
end Pv
theorem aFp {tmps : Array Value} {w : World} {Ab Ob : Nat} {hw : Array Value} (hs : hw.size = 18) {o0 o1 o2 o3 : Value} (h10 : tmps.getD 10 undef = .pointer (some ⟨Ab, 0, none⟩)) (h11 : tmps.getD 11 undef = .pointer (some ⟨Ob, 0, none⟩))
  (hA : Blk w Ab 54 hw) (hO : Blk w Ob 35 #[o0, o1, o2, o3]) :
  (results Tryz.f11 tmps).run Tryz.prog w = .ok (.tuple #[.agg hw, .agg #[o0, o1, o2, o3], tmps.getD 12 undef, tmps.getD 13 undef]) w := by
 have a0 := kD hA pW hs
 have b0 := kD hO xG rfl
 simp only [Array.getD_eq_getD_getElem?] at h10 h11
 simp [results, Tryz.results11, h10, h11, asAddr, a0, b0]
namespace Pv
def okF (ok0 : Nat → Prop) (S : Nat) : Nat → Prop := fun b => (ok0 b ∨ S ≤ b) ∧ ¬ (S ≤ b ∧ b < S + 14)
theorem aSx (seed m : List UInt8) (hs : seed.length = 16) (hm : m.length = 16) (h : Int) (F : List Flt) (hF : F.length ≤ 1000000) (h0 : HwS) (hd : Dim h0) (ok0 : Nat → Prop) (hcs : Array Value) (B : Option Addr) (nF cF : Nat) (w : World) (hM : ShaMem w)
  (hH : RL { w := w, ok := ok0, env := fun _ => none } (hwL h0) hcs.toList) (hV : RL { w := w, ok := ok0, env := fun _ => none } [mF F] [.slice B nF cF])
  (W0 w1 : World) (z1 : Ext w W0) (z7 : W0.heap.size = w.heap.size + 5) (k1 : Ext W0 w1) (k2 : w1.heap.size = W0.heap.size + 3) (k3 : Blk w1 W0.heap.size 23 (seed.map u8v).toArray) (k4 : Blk w1 (W0.heap.size + 1) 3 #[.int .i64 h]) (k5 : Blk w1 (W0.heap.size + 1 + 1) 23 (m.map u8v).toArray) :
  Calls Tryz.prog 23 #[.func (.func 32) #[] #[.pointer (some ⟨W0.heap.size + 1, 0, none⟩), .pointer (some ⟨W0.heap.size, 0, none⟩), .pointer (some ⟨W0.heap.size + 1 + 1, 0, none⟩)], .agg hcs, .slice B nF cF] w1 fun e w2 => Chg (fun k => W0.heap.size ≤ k) w1 w2 ∧
   ∃ hw' z A1 n1 c1 A2 n2 c2 er, e = .returned (.tuple #[.agg hw', .agg #[.int .i64 z, .slice A1 n1 c1, .slice A2 n2 c2, .int .i64 er], .int .i64 ((gV F (Prg.signI h) h0 0).2.2 : Int), .bool (gV F (Prg.signI h) h0 0).1.isSome]) ∧
    RL { w := w2, ok := okF ok0 w.heap.size, env := fun _ => none } (hwL (gV F (Prg.signI h) h0 0).2.1) hw'.toList ∧ RL { w := w2, ok := okF ok0 w.heap.size, env := fun _ => none } (aSi seed m h (gV F (Prg.signI h) h0 0).1) [.int .i64 z, .slice A1 n1 c1, .slice A2 n2 c2, .int .i64 er] := by
 obtain ⟨q, hq⟩ : ∃ q, gV F (Prg.signI h) h0 0 = q := ⟨_, rfl⟩
 rw [hq]
 refine (live_any 32 _ hcs B nF cF (LiveV seed m h q (okF ok0 w.heap.size)) W0.heap.size w1 (xW hH) (aJs hH) (fun args w => by kernel_rfl) (by omega) (fun a n o wa wb hv hc => ?_) (fun wa hE hsz2 y1 y2 y3 => ?_)).mono ?_
 ·exact hv.le hc.size (fun b hb hok => ⟨hok, hc.block b hb (fun hh => hok.2 (by omega))⟩)
 ·have hEw : Ext w wa := (z1.trans k1).trans hE
  have hLe : ∀ {p : List PC} {xs : List Value}, RL { w := w, ok := ok0, env := fun _ => none } p xs → RL { w := wa, ok := okL (fun b => ok0 b ∨ w.heap.size ≤ b) (fun b => w.heap.size ≤ b ∧ b < w.heap.size + 14 ∧ b ≠ w1.heap.size + 1 + 1 + 1 + 1 ∧ b ≠ w1.heap.size + 1 ∧ b ≠ w1.heap.size + 1 + 1) (w1.heap.size + 1 + 1 + 1 + 1) (w1.heap.size + 1) (w1.heap.size + 1 + 1), env := fun _ => none } p xs := fun hr =>
   hr.le ⟨hEw.size, fun b hb hok => by
    have hb' : b < w.heap.size := hb
    exact ⟨⟨.inl hok, fun hx => by omega, by omega, by omega, by omega⟩, hEw.block b hb (fun hh => hh)⟩, fun _ _ _ h => by cases h⟩
  have hsg := aNc seed m hs hm h F hF h0 hd W0.heap.size w1 wa hE (by omega) (fun w' hc => hM.past (B := W0.heap.size) (by omega) (hM.ext hEw) hc) k3 k4 k5 (w1.heap.size + 1 + 1 + 1 + 1) (w1.heap.size + 1) (w1.heap.size + 1 + 1) (by omega) (by omega) (by omega)
   (fun b => ok0 b ∨ w.heap.size ≤ b) (fun b => w.heap.size ≤ b ∧ b < w.heap.size + 14 ∧ b ≠ w1.heap.size + 1 + 1 + 1 + 1 ∧ b ≠ w1.heap.size + 1 ∧ b ≠ w1.heap.size + 1 + 1) ⟨by omega, by omega, by omega⟩
   { bn := y3, bf := ⟨_, y1, hLe hV⟩, bh := ⟨_, y2, hLe hH⟩, ne := ⟨by omega, by omega, by omega⟩, good := fun c hc => (by cases hc), mine := fun b hb => ⟨by omega, hb.2.2.1, hb.2.2.2.1, hb.2.2.2.2⟩, mem := hM.ext hEw, tab := fun b hb => (by have := sha_lt hM hb; exact ⟨fun hx => by omega, by omega, by omega, by omega⟩), up := fun b hb => .inr (by omega) }
  rw [hq] at hsg
  refine hsg.mono ?_
  rintro e w2 ⟨hc, hN, ⟨cs, hb, hrl⟩, hend⟩
  have hok : ∀ b, okL (fun b => ok0 b ∨ w.heap.size ≤ b) (fun b => w.heap.size ≤ b ∧ b < w.heap.size + 14 ∧ b ≠ w1.heap.size + 1 + 1 + 1 + 1 ∧ b ≠ w1.heap.size + 1 ∧ b ≠ w1.heap.size + 1 + 1) (w1.heap.size + 1 + 1 + 1 + 1) (w1.heap.size + 1) (w1.heap.size + 1 + 1) b → okF ok0 w.heap.size b := fun b hb => ⟨hb.1, fun hx => hb.2.1 ⟨hx.1, hx.2, hb.2.2⟩⟩
  have hrl' : RL { w := w2, ok := okF ok0 w.heap.size, env := fun _ => none } (hwL q.2.1) cs.toList := hrl.le ⟨Nat.le_refl _, fun b _ hb => ⟨hok b hb, rfl⟩, fun _ _ _ h => by cases h⟩
  refine ⟨hc, cs, _, xW hrl, aJs hrl, hb, hN, ?_⟩
  rcases hend with ⟨p, z, A1, n1, c1, A2, n2, c2, er, hq1, rfl, hout⟩ | ⟨hq1, rfl⟩
  ·refine .inl ⟨z, A1, n1, c1, A2, n2, c2, er, rfl, rfl, hrl', by rw [hq1]; rfl, ?_⟩
   rw [hq1]
   exact hout.le ⟨Nat.le_refl _, fun b _ (hb : wa.heap.size ≤ b) => ⟨⟨.inr (by omega), fun hx => by omega⟩, rfl⟩, fun _ _ _ h => by cases h⟩
  ·exact .inr ⟨rfl, rfl, hrl', hq1⟩
 rintro e w2 ⟨hc, hw', n, _, hq2⟩
 refine ⟨hc, ?_⟩
 rcases hq2 with ⟨z, A1, n1, c1, A2, n2, c2, er, rfl, v1, v2, v3, v4⟩ | ⟨rfl, v1, v2, v3⟩
 ·exact ⟨hw', z, A1, n1, c1, A2, n2, c2, er, by rw [v1, v3], v2, v4⟩
 ·refine ⟨hw', 0, none, 0, 0, none, 0, 0, 0, by rw [v1, v3]; rfl, v2, ?_⟩
  rw [v3]
  have hn : R { w := w2, ok := okF ok0 w.heap.size, env := fun _ => none } (.sl 16 0 (digF [])) [.slice none 0 0] := .sl (Reads.nil _ 16) (fun _ _ h => absurd h (by simp)) (fun i h => absurd h (by simp))
  exact .cons (xs := [_]) (.lit rfl) (.cons (xs := [_]) hn (.cons (xs := [_]) hn (.cons (xs := [_]) (.lit rfl) .nil)))
end Pv
theorem Pv.rv_run {C : Pv.Ctx} {l1 l2 : List Pv.PC} {c1 c2 : Array Value} {b : Int} {d : Bool} (h1 : Pv.RL C l1 c1.toList) (h2 : Pv.RL C l2 c2.toList) : Pv.RV C (.tup [.agg l1, .agg l2, .one (.lit (.int .i64 b)), .one (.lit (.bool d))]) (.tuple #[.agg c1, .agg c2, .int .i64 b, .bool d]) :=
 .tup rfl (fun i x hx => by
  match i, hx with
  | 0, hx => cases hx; exact ⟨_, rfl, .agg h1⟩
  | 1, hx => cases hx; exact ⟨_, rfl, .agg h2⟩
  | 2, hx => cases hx; exact ⟨_, rfl, .one (.lit rfl)⟩
  | 3, hx => cases hx; exact ⟨_, rfl, .one (.lit rfl)⟩
  | i + 4, hx => cases hx)
theorem run_any (seed m : List UInt8) (hs : seed.length = 16) (hm : m.length = 16) (h : Int) (F : List Flt) (hF : F.length ≤ 1000000) (h0 : HwS) (hd : Dim h0) (ok0 : Nat → Prop) (hcs : Array Value) (B : Option Addr) (nF cF : Nat) (w : World) (hM : ShaMem w)
  (hH : Pv.RL { w := w, ok := ok0, env := fun _ => none } (Pv.hwL h0) hcs.toList) (hV : Pv.RL { w := w, ok := ok0, env := fun _ => none } [Pv.mF F] [.slice B nF cF]) :
  Calls Tryz.prog 11 #[.agg hcs, .agg (seed.map u8v).toArray, .int .i64 h, .agg (m.map u8v).toArray, .slice B nF cF] w fun e w' => Ext w w' ∧ ∃ val, e = .returned val ∧
   Pv.RV { w := w', ok := fun b => ok0 b ∨ w.heap.size ≤ b, env := fun _ => none } (Pv.aGr seed m h (gV F (Prg.signI h) h0 0)) val := by
 have HSZ := hide (show hcs.size = 18 ∧ (seed.map u8v).toArray.size = 16 ∧ (m.map u8v).toArray.size = 16 from ⟨Pv.xW hH, by simpa using hs, by simpa using hm⟩)
 have HR := hide (fun W => aQr (seed.map u8v).toArray (m.map u8v).toArray h W (by simpa using hs) (by simpa using hm))
 have HV := hide (fun W0 w1 z1 z7 => Pv.aSx seed m hs hm h F hF h0 hd ok0 hcs B nF cF w hM hH hV W0 w1 z1 z7)
 obtain ⟨q, hq⟩ : ∃ q, gV F (Prg.signI h) h0 0 = q := ⟨_, rfl⟩
 rw [hq] at HV ⊢
 obtain ⟨arr, harr⟩ : ∃ x, (seed.map u8v).toArray = x := ⟨_, rfl⟩
 obtain ⟨mrr, hmrr⟩ : ∃ x, (m.map u8v).toArray = x := ⟨_, rfl⟩
 rw [harr] at HSZ HR HV ⊢
 rw [hmrr] at HSZ HR HV ⊢
 clear harr hmrr hM hs hm hF hd hH hV hq
 go_enter Tryz.func11, Tryz.ntmps11
 go_upto_region 1 with fail
 generalize hW0 : World.alloc _ (.cells _ 35) = W0
 have z1 : Ext w W0 := by
  rw [← hW0]
  repeat' (first | (with_reducible exact Chg.refl _ _) | (with_reducible exact Ext.refl _) | (with_reducible assumption) | (with_reducible refine Chg.alloc ?_ _) | (with_reducible refine Chg.drew ?_) | (with_reducible refine Chg.drewN ?_ _) | (with_reducible refine Chg.setCell ?_ ?_ _) | (with_reducible refine Ext.alloc ?_ _) | (with_reducible refine Ext.drew ?_) | (with_reducible refine Ext.drewN ?_ _) | (with_reducible refine Ext.setCell ?_ ?_ _) | (simp; done) | (simp; omega) | omega)
 have z2 : Blk W0 w.heap.size 54 hcs := by rw [← hW0]; exact ((((Blk.new w _ _).alloc _).alloc _).alloc _).alloc _
 have z3 : Blk W0 (w.heap.size + 1) 23 arr := by rw [← hW0]; exact (((Blk.new' _ _ _ (by simp)).alloc _).alloc _).alloc _
 have z4 : Blk W0 (w.heap.size + 1 + 1) 23 mrr := by rw [← hW0]; exact ((Blk.new' _ _ _ (by simp)).alloc _).alloc _
 have z5 : Blk W0 (w.heap.size + 1 + 1 + 1) 54 (#[.slice none 0 0, .slice none 0 0] ++ Array.replicate 16 (.int .u8 0)) := by rw [← hW0]; exact (Blk.new' _ _ _ (by simp)).alloc _
 have z6 : Blk W0 (w.heap.size + 1 + 1 + 1 + 1) 35 #[.int .i64 0, .slice none 0 0, .slice none 0 0, .int .i64 0] := by rw [← hW0]; exact Blk.new' _ _ _ (by simp)
 have z7 : W0.heap.size = w.heap.size + 5 := by rw [← hW0]; simp
 have z8 : Ext w W0.drew := z1.drew
 have HZ := hide (show Ext w W0.drew ∧ Blk W0.drew (w.heap.size + 1 + 1 + 1) 54 (#[.slice none 0 0, .slice none 0 0] ++ Array.replicate 16 (.int .u8 0)) ∧ Blk W0.drew (w.heap.size + 1 + 1 + 1 + 1) 35 #[.int .i64 0, .slice none 0 0, .slice none 0 0, .int .i64 0] ∧ W0.drew.heap.size = w.heap.size + 5 from ⟨z8, z5.drew, z6.drew, z7⟩)
 refine wp_region_held_drew (S := fun W => Blk W w.heap.size 54 hcs ∧ Blk W (w.heap.size + 1) 23 arr ∧ Blk W (w.heap.size + 1 + 1) 23 mrr) (by kernel_rfl) ⟨z2.drew, z3.drew, z4.drew⟩ (fun hHeld => ?_)
 clear hW0 z1 z2 z3 z4 z5 z6 z7 z8
 generalize W0.drew = Wd at HZ hHeld ⊢
 refine wpAnyH_take (i := 0) (v := _) rfl (by kernel_rfl) (by kernel_rfl) (by kernel_rfl) (fun _ _ _ h => h) (ylb aC rfl (by rfl) rfl (aA HSZ).2.1 (fun w' hw => hw.2.1)) (by assumption) ?_
 try simp only [Act.put, zA, zB, zC, zD, zF]
 refine wpAnyH_take (i := 1) (v := ?_) rfl (by kernel_rfl) (by kernel_rfl) (by kernel_rfl) (fun _ _ _ h => h) (Or.inl ⟨by rfl, fun wz hSz => ?_⟩) (by assumption) ?_
 rotate_left
 ·(first | (go_simp; done) | (go_simp; with_reducible rfl))
 try simp only [Act.put, zA, zB, zC, zD, zE, zF]
 refine wpAnyH_take (i := 2) (v := _) rfl (by kernel_rfl) (by kernel_rfl) (by kernel_rfl) (fun _ _ _ h => h) (ylb aC rfl (by rfl) rfl (aA HSZ).2.2 (fun w' hw => hw.2.2)) (by assumption) ?_
 try simp only [Act.put, zA, zB, zC, zD, zE, zF]
 refine wpAnyH_take (i := 4) (v := _) rfl (by kernel_rfl) (by kernel_rfl) (by kernel_rfl) (fun _ _ _ h => h) (ylb pW rfl (by rfl) rfl (aA HSZ).1 (fun w' hw => hw.1)) (by assumption) ?_
 try simp only [Act.put, zA, zB, zC, zD, zE, zF]
 refine wpAnyH_take (i := 5) (v := ?_) rfl (by kernel_rfl) (by kernel_rfl) (by kernel_rfl) (fun _ _ _ h => h) (Or.inl ⟨by rfl, fun wz hSz => ?_⟩) (by assumption) ?_
 rotate_left
 ·(first | (go_simp; done) | (go_simp; with_reducible rfl))
 try simp only [Act.put, zA, zB, zC, zD, zE, zF]
 refine wpAnyH_ready (rs := [3]) (by kernel_rfl) (by simp) (AllReadyH.cons (o := _) rfl (fun K hK => ?_) AllReadyH.nil)
 try go_simp
 (refine (aA HR Wd).mono ?_; rintro e w1 ⟨rfl, k1, k2, k3, k4, k5⟩; have hS := And.intro (hHeld.1.ext k1) (And.intro (hHeld.2.1.ext k1) (hHeld.2.2.ext k1)); have H1 := hide (And.intro k1 (And.intro k2 (And.intro k3 (And.intro k4 k5)))); clear hHeld k1 k2 k3 k4 k5)
 refine hK.out _ _ ?_ (fun hHeld => ?_)
 ·exact hS
 clear hK K
 try simp only [Act.put, zA, zB, zC, zD, zE, zF]
 refine wpAnyH_ready (rs := [6]) (by kernel_rfl) (by simp) (AllReadyH.cons (o := _) rfl (fun K hK => ?_) AllReadyH.nil)
 try go_simp
 (obtain ⟨k1, k2, k3, k4, k5⟩ := aA H1; have hz := (aA HZ).2.2.2; refine (aA HV Wd w1 (aA HZ).1 hz k1 k2 k3 k4 k5).mono ?_; rintro e w2 ⟨hc, hw', z, A1, n1, c1, A2, n2, c2, er, rfl, r1, r2⟩; have hS := And.intro (hHeld.1.chg hc (by omega)) (And.intro (hHeld.2.1.chg hc (by omega)) (hHeld.2.2.chg hc (by omega))); have H2 := hide (And.intro (((aA HZ).1.trans k1).trans' hc (fun _ _ h => h) (fun i hi e => by omega)) (And.intro (((aA HZ).2.1.ext k1).chg hc (by omega)) (And.intro (((aA HZ).2.2.1.ext k1).chg hc (by omega)) (And.intro r1 r2)))); have e3 := Pv.xW r1; have e4 := Pv.aJs r1; clear hHeld k1 k2 k3 k4 k5 hz hc r1 r2 H1)
 refine hK.out _ _ ?_ (fun hHeld => ?_)
 ·exact hS
 clear hK K
 try simp only [Act.put, zA, zB, zC, zD, zE, zF]
 refine wpAnyH_take (i := 7) (v := ?_) rfl (by kernel_rfl) (by kernel_rfl) (by kernel_rfl) (fun _ _ _ h => h) (Or.inl ⟨by rfl, fun wz hSz => ?_⟩) (by assumption) ?_
 rotate_left
 ·(first | (go_simp; done) | (go_simp; with_reducible rfl))
 try simp only [Act.put, zA, zB, zC, zD, zE, zF]
 refine wpAnyH_take (i := 8) (v := ?_) rfl (by kernel_rfl) (by kernel_rfl) (by kernel_rfl) (fun _ _ _ h => h) (Or.inl ⟨by rfl, fun wz hSz => ?_⟩) (by assumption) ?_
 rotate_left
 ·(first | (go_simp; done) | (go_simp; with_reducible rfl))
 try simp only [Act.put, zA, zB, zC, zD, zE, zF]
 refine wpAnyH_take (i := 9) (v := ?_) rfl (by kernel_rfl) (by kernel_rfl) (by kernel_rfl) (fun _ _ _ h => h) (Or.inl ⟨by rfl, fun wz hSz => ?_⟩) (by assumption) ?_
 rotate_left
 ·(first | (go_simp; done) | (go_simp; with_reducible rfl))
 try simp only [Act.put, zA, zB, zC, zD, zE, zF]
 refine wpAnyH_take (i := 10) (v := ?_) rfl (by kernel_rfl) (by kernel_rfl) (by kernel_rfl) (fun _ _ _ h => h) (Or.inl ⟨by rfl, fun wz hSz => ?_⟩) (by assumption) ?_
 rotate_left
 ·(first | (go_simp; done) | (go_simp; with_reducible rfl))
 try simp only [Act.put, zA, zB, zC, zD, zE, zF]
 refine wpAnyH_ready (rs := [11]) (by kernel_rfl) (by simp) (AllReadyH.cons (o := _) rfl (fun K hK => ?_) AllReadyH.nil)
 (refine eP (ty := 54) (t := 54) (x := .tmp 10) (y := .tmp 21) rfl rfl pW rfl rfl (aA H2).2.1 rfl e3 e4 ?_; intro w3 hb3 hc3 hz3; have hS := And.intro (hHeld.1.chg hc3 (by omega)) (And.intro (hHeld.2.1.chg hc3 (by omega)) (hHeld.2.2.chg hc3 (by omega))); have H3 := hide (And.intro hb3 (And.intro hc3 hz3)); clear hHeld hb3 hc3 hz3)
 refine hK.out _ _ ?_ (fun hHeld => ?_)
 ·exact hS
 clear hK K
 try simp only [Act.put, zD, zE, zF]
 refine wpAnyH_ready (rs := [12]) (by kernel_rfl) (by simp) (AllReadyH.cons (o := _) rfl (fun K hK => ?_) AllReadyH.nil)
 (refine eP (ty := 35) (t := 35) (x := .tmp 11) (y := .tmp 22) rfl rfl xG rfl rfl ((aA H2).2.2.1.chg (aA H3).2.1 (by omega)) rfl rfl (by rw [← Array.all_toList]; rfl) ?_; intro w4 hb4 hc4 hz4; have hS := And.intro (hHeld.1.chg hc4 (by omega)) (And.intro (hHeld.2.1.chg hc4 (by omega)) (hHeld.2.2.chg hc4 (by omega))); have H4 := hide (And.intro hb4 (And.intro hc4 hz4)); clear hHeld hb4 hc4 hz4)
 refine hK.out _ _ ?_ (fun hHeld => ?_)
 ·exact hS
 clear hK K
 try simp only [Act.put, zD, zE, zF]
 refine wpAnyH_take (i := 13) (v := ?_) rfl (by kernel_rfl) (by kernel_rfl) (by kernel_rfl) (fun _ _ _ h => h) (Or.inl ⟨by rfl, fun wz hSz => ?_⟩) (by assumption) ?_
 rotate_left
 ·(first | (go_simp; done) | (go_simp; with_reducible rfl))
 try simp only [Act.put, zA, zB, zC, zD, zE, zF]
 refine wpAnyH_take (i := 14) (v := ?_) rfl (by kernel_rfl) (by kernel_rfl) (by kernel_rfl) (fun _ _ _ h => h) (Or.inl ⟨by rfl, fun wz hSz => ?_⟩) (by assumption) ?_
 rotate_left
 ·(first | (go_simp; done) | (go_simp; with_reducible rfl))
 try simp only [Act.put, zA, zB, zC, zD, zE, zF]
 refine wpAnyH_done (by kernel_rfl) ?_ _
 clear hHeld
 go_wp2
 obtain ⟨x1, _, _, r1, r2⟩ := aA H2
 obtain ⟨b3, c3, s3⟩ := aA H3
 obtain ⟨b4, c4, s4⟩ := aA H4
 refine bodyPost_ret (aFp e3 rfl rfl (b3.chg c4 (by omega)) b4) rfl ⟨?_, _, rfl, ?_⟩
 ·exact (x1.trans' c3 (fun _ _ h => h) (fun i hi e => by omega)).trans' c4 (fun _ _ h => h) (fun i hi e => by omega)
 ·have hLe : ∀ {p : List Pv.PC} {xs : List Value}, Pv.RL { w := w2, ok := Pv.okF ok0 w.heap.size, env := fun _ => none } p xs → Pv.RL { w := w4, ok := fun b => ok0 b ∨ w.heap.size ≤ b, env := fun _ => none } p xs := fun hr =>
   hr.le ⟨by rw [s4, s3]; exact Nat.le_refl _, fun b hb hok => ⟨hok.1, by
    have hn : ¬ (w.heap.size ≤ b ∧ b < w.heap.size + 14) := hok.2
    exact (c4.block b (by rw [s3]; exact hb) (by omega)).trans (c3.block b hb (by omega))⟩, fun _ _ _ h => by cases h⟩
  show Pv.RV _ (Pv.aGr seed m h q) (.tuple #[.agg hw', .agg #[.int .i64 z, .slice A1 n1 c1, .slice A2 n2 c2, .int .i64 er], .int .i64 (q.2.2 : Int), .bool q.1.isSome])
  exact Pv.rv_run (hLe r1) (hLe r2)
namespace Pv
def aCi : List PC → Option Flt
 | [.lit (.bool c), .lit (.int .i64 b), .lit (.bool n)] => some ⟨c, b, n⟩
 | _ => none
def jS (n : Nat) (f : Nat → List PC) : List Flt := (List.range n).map fun i => (aCi (f i)).getD flt0
def fltOf : PC → Option (Prop × List Flt)
 | .sl 3 n f => some (∀ i, i < n → (aCi (f i)).isSome = true, jS n f)
 | .lit (.slice none 0 0) => some (True, [])
 | _ => none
theorem aUd {l : List PC} (h : (aCi l).isSome = true) : l = rF ((aCi l).getD flt0) := by
 unfold aCi at h ⊢
 split
 ·rfl
 ·rename_i hn
  split at h
  ·rename_i c b n; exact absurd rfl (hn c b n)
  ·cases h
theorem aLv {C : Ctx} {c : PC} {p : Prop} {F : List Flt} (e : fltOf c = some (p, F)) (hp : p) {v : Value} (hr : R C c [v]) : (∃ B n k, v = .slice B n k) ∧ R C (mF F) [v] := by
 unfold fltOf at e
 split at e
 ·rename_i n f
  cases e
  have hlen : (jS n f).length = n := by simp [jS]
  refine ⟨?_, ?_⟩
  ·cases hr with
   | sl r _ _ =>
    obtain ⟨_, A, k, rfl, _⟩ := r
    exact ⟨_, _, _, rfl⟩
  ·unfold mF
   rw [hlen]
   refine hr.sl_ext fun i hi => ?_
   have h1 := aUd (hp i hi)
   rw [h1]
   unfold fltF jS
   congr 1
   rw [zG, List.getElem?_map, List.getElem?_range hi]
   rfl
 ·cases e
  obtain rfl : v = .slice none 0 0 := by cases hr; rfl
  exact ⟨⟨_, _, _, rfl⟩, R.sl (Reads.nil _ 3) (fun _ _ h => absurd h (by simp)) (fun i h => absurd h (by simp))⟩
 ·cases e
end Pv
end Go.Proofs.YtihghljfmlbfhaaGreatDoor
namespace Go.Proofs.YtihghljfmlbfhaaGreatDoor.Pv
open Go.RowKit
def vZ (h : Int) : Int := if 0 ≤ h ∧ h ≤ 4 then ((2 ^ h.toNat : Nat) : Int) else 0
theorem aSt (h : Int) : iW Tryz.prog ShaMem 19 true [pvI h] (pvI (vZ h)) := by
 intro w ok0 vs hI hv
 match vs, hv with
 | [v1], ⟨k1, _⟩ =>
  obtain rfl := k1.lit_inv
  by_cases ho : okH h
  ·have ho2 : 0 ≤ h ∧ h ≤ 4 := by unfold okH at ho; omega
   obtain ⟨k, rfl⟩ := Int.eq_ofNat_of_zero_le ho2.1
   have e : vZ (k : Int) = ((2 ^ k : Nat) : Int) := by unfold vZ; rw [if_pos ho2, Int.toNat_natCast]
   rw [e]
   refine (sD k (2 ^ k) rfl (by omega) w).mono ?_
   rintro e w' ⟨rfl, rfl⟩
   exact ⟨_, rfl, Ext.refl _, .w (.one (.lit rfl))⟩
  ·have e : vZ h = 0 := if_neg (fun h2 => ho (by unfold okH; omega))
   rw [e]
   refine (aJk h w ho).mono ?_
   rintro e w' ⟨rfl, rfl⟩
   exact ⟨_, rfl, Ext.refl _, .w (.one (.lit rfl))⟩
def aSu : List PV → Option (Prop × PV)
 | [.w (.one (.lit (.int .i64 h)))] => some (True, pvI (vZ h))
 | _ => none
theorem aOk : SpecOk Tryz.prog ShaMem 19 (bD true aSu) := by
 refine bM (aF Tryz.func19 (by kernel_rfl) rfl) (fun xs p r hg hp => ?_)
 unfold aSu at hg
 split at hg
 ·cases hg
  exact aSt _
 ·cases hg
def kuL5 (m : KuM) (s : KuS) : List (Nat × Spec) := (35, iM 71 (kuG m s aVf)) :: (19, bD true aSu) :: (36, bD true aNb) :: kuL4 m s
theorem ku5_ok (m : KuM) (s : KuS) : ∀ p ∈ kuL5 m s, SpecOk Tryz.prog ShaMem p.1 p.2 := by
 intro p hp
 simp only [kuL5, List.mem_cons] at hp
 rcases hp with rfl | rfl | rfl | hp
 ·exact aFv m s
 ·exact aOk
 ·exact aIj
 ·exact ku4_ok m s p (by simpa [kuL4] using hp)
theorem kuM5 (m : KuM) (s : KuS) : Mach Tryz.prog ShaMem (find (kuL5 m s)) := ⟨dD (ku5_ok m s), iE⟩
def swK (m : KuM) (seed msg : List UInt8) (h : Nat) (s : KuS) : (Sig × Int) × KuS :=
 if (bK m (Prg.levelOf 2 16) s).2.stop = true then ((⟨0, [], []⟩, 0), (bK m (Prg.levelOf 2 16) s).2)
 else if 2 ^ h ≤ (bK m (Prg.levelOf 2 16) s).1 then ((⟨0, [], []⟩, 17), (bK m (Prg.levelOf 2 16) s).2)
 else if (raC m 2 16 ((bK m (Prg.levelOf 2 16) s).1 + 1) (bK m (Prg.levelOf 2 16) s).2).1.2 ≠ 0 ∨ (raC m 2 16 ((bK m (Prg.levelOf 2 16) s).1 + 1) (bK m (Prg.levelOf 2 16) s).2).2.stop = true
  then ((⟨0, [], []⟩, (raC m 2 16 ((bK m (Prg.levelOf 2 16) s).1 + 1) (bK m (Prg.levelOf 2 16) s).2).1.2), (raC m 2 16 ((bK m (Prg.levelOf 2 16) s).1 + 1) (bK m (Prg.levelOf 2 16) s).2).2)
 else (sgnT seed h (bK m (Prg.levelOf 2 16) s).1 msg, (raC m 2 16 ((bK m (Prg.levelOf 2 16) s).1 + 1) (bK m (Prg.levelOf 2 16) s).2).2)
theorem swK_eq (m : KuM) (seed msg : List UInt8) (h : Nat) (s : KuS) : (swK m seed msg h s).2 = (bK m (Prg.sign h) s).2 ∧ ((swK m seed msg h s).2.stop = false → (swK m seed msg h s).1 = sgO seed h msg (bK m (Prg.sign h) s).1) := by
 unfold swK Prg.sign
 rw [eQ]
 generalize bK m (Prg.levelOf 2 16) s = q
 obtain ⟨n, s1⟩ := q
 dsimp only
 by_cases h1 : s1.stop = true
 ·rw [if_pos h1, oN m _ s1 h1]
  exact ⟨rfl, fun h => by rw [h1] at h; cases h⟩
 ·rw [if_neg h1]
  by_cases h2 : 2 ^ h ≤ n
  ·rw [if_pos h2, if_pos h2]
   exact ⟨rfl, fun _ => rfl⟩
  ·rw [if_neg h2, if_neg h2, eQ]
   obtain ⟨e1, e2⟩ := raC_eq m 2 16 (n + 1) s1
   generalize raC m 2 16 (n + 1) s1 = r at e1 e2
   generalize bK m (Prg.raiseTo 2 16 (n + 1)) s1 = t at e1 e2
   obtain ⟨⟨r1, r2⟩, r3⟩ := r
   obtain ⟨⟨t1, t2⟩, t3⟩ := t
   dsimp only at e1 e2
   subst e1
   by_cases h3 : r2 ≠ 0 ∨ r3.stop = true
   ·rw [if_pos h3]
    refine ⟨rfl, fun hs => ?_⟩
    dsimp only at hs ⊢
    cases e2 hs
    have h4 : r2 ≠ 0 := h3.resolve_right (by rw [hs]; exact Bool.false_ne_true)
    show _ = sgO seed h msg (n, r2)
    unfold sgO
    rw [if_neg h4]
   ·rw [if_neg h3]
    refine ⟨rfl, fun hs => ?_⟩
    dsimp only at hs ⊢
    cases e2 hs
    have h4 : r2 = 0 := Decidable.byContradiction fun h => h3 (.inl h)
    subst h4
    rfl
def aJn (m : KuM) (s : KuS) (seed msg : List UInt8) (h n : Nat) : St := ⟨[(0, none, pv1 (.pt px 0 0)), (2, none, pvI (h : Int)), (5, none, pv1 (.pt 0 0 0)), (7, none, pv1 (.pt 1 0 0)), (8, none, pv1 (.pt 2 0 0)), (10, none, pvI (n : Int))],
 [(px, none, 0, .box 71 (kuP m s)), (0, none, 0, .box 23 [.bs 16 seed]), (1, none, 0, .box 23 [.bs 16 msg]), (2, none, 0, .box 32 [.lit (.int .i64 0), .lit (.slice none 0 0), .lit (.slice none 0 0)])]⟩
def ku_swSt2 (m : KuM) (s : KuS) (seed msg : List UInt8) (h n : Nat) (e : Int) : St := ⟨(aJn m s seed msg h n).t ++ [(12, none, pvI e)], (aJn m s seed msg h n).o⟩
theorem pow16 {h : Nat} (hh : h ≤ 4) : 2 ^ h ≤ 16 := Nat.pow_le_pow_right (n := 2) (by omega) hh
theorem aSs {h : Nat} (hh : h ≤ 4) : vZ (h : Int) = ((2 ^ h : Nat) : Int) := by
 unfold vZ
 rw [if_pos (by omega), Int.toNat_natCast]
theorem aIl (seed msg : List UInt8) (h : Nat) (hh : h ≤ 4) : FunK 20 [.w (.agg [.bs 16 seed]), pvI (h : Int), .w (.agg [.bs 16 msg])] (fun m s => HasB m s 2) (fun m s => ((swK m seed msg h s).2, aBp (swK m seed msg h s).1)) := by
 intro m s0 hok0 hC0 hi
 have hpw := pow16 hh
 have hmn := aSs hh
 dsimp only at hi ⊢
 obtain ⟨R, hR⟩ : ∃ R, swK m seed msg h s0 = R := ⟨_, rfl⟩
 rw [hR] at hi ⊢
 have hn0 := aRl m 2 16 s0
 have hle0 : (bK m (Prg.levelOf 2 16) s0).2.i ≤ 1000000 := by
  refine Nat.le_trans ?_ hi
  rw [← hR, (swK_eq m seed msg h s0).1]
  unfold Prg.sign
  rw [eQ]
  exact lC m _ _
 unfold swK at hR
 have hok1 := lG (Prg.levelOf 2 16) hok0 hle0
 have hC1 := hC0.shp (jU m (Prg.levelOf 2 16) s0)
 refine iF Tryz.func20 rfl rfl rfl (fun A hn hI => ?_)
 have M := kuM5 m s0
 refine aB M hI hn (by rfl) (by kernel_rfl) ?_ ?_
 ·simp
 refine aB M hI hn (by rfl) (by kernel_rfl) ?_ ?_
 ·simp
  exact ⟨hok0, hC0, hle0⟩
 refine aV (s' := aJn m (bK m (Prg.levelOf 2 16) s0).2 seed msg h (bK m (Prg.levelOf 2 16) s0).1) (fun a w hg => (hg.reset (kT := [0, 2, 5, 7, 8, 10]) (kO := [px, 0, 1, 2]) (by rfl) (by simp)).same ?_ ?_) ?_
 ·exact .cons rfl (.cons rfl (.cons rfl (.cons rfl (.cons rfl (.cons rfl .nil)))))
 ·exact .cons (.box rfl) (.cons (.box rfl) (.cons (.box rfl) (.cons (.box rfl) .nil)))
 generalize bK m (Prg.levelOf 2 16) s0 = q0 at hR hn0 hok1 hC1 ⊢
 obtain ⟨n, s⟩ := q0
 dsimp only at hR hn0 hok1 hC1 ⊢
 refine aI ?_
 refine aB M hI hn (by rfl) (by kernel_rfl) ?_ ?_
 ·simp
 refine aJ (by rfl) (fun hc => ?_) (fun hc => ?_)
 ·have hst : s.stop = true := hc
  rw [if_pos hst] at hR
  rw [← hR]
  refine aB M hI hn (by rfl) (by kernel_rfl) ?_ ?_
  ·simp
  refine bC (fun a w hg => ⟨.inr rfl, _, ⟨?_, (fun o ho => by obtain rfl := List.mem_singleton.1 ho; exact ⟨_, rfl, dA rfl⟩), fun p hp => (by cases hp)⟩, hg⟩)
  refine iL (by rfl) (by simp) (by rfl) ?_
  exact .tup (.cons (.agg (.cons (.cold rfl) (.cons .nil (.cons .nil .nil)))) (.cons (.one (.cold rfl)) .nil))
 have hst : s.stop = false := hc
 rw [if_neg (by rw [hst]; exact Bool.false_ne_true)] at hR
 refine aN ?_
 change Tri _ _ _ _ _
 refine aI ?_
 have M := kuM5 m s
 refine aB M hI hn (by rfl) (by kernel_rfl) ?_ ?_
 ·simp
 refine aJ (by rfl) (fun hc => ?_) (fun hc => ?_)
 ·have hge : 2 ^ h ≤ n := by
   have hc' : decide ((n : Int) ≥ vZ (h : Int)) = true := hc
   have := of_decide_eq_true hc'
   rw [hmn] at this
   omega
  rw [if_pos hge] at hR
  rw [← hR]
  refine aB M hI hn (by rfl) (by kernel_rfl) ?_ ?_
  ·simp
  refine bC (fun a w hg => ⟨.inr rfl, _, ⟨?_, (fun o ho => by obtain rfl := List.mem_singleton.1 ho; exact ⟨_, rfl, dA rfl⟩), fun p hp => (by cases hp)⟩, hg⟩)
  refine iL (by rfl) (by simp) (by rfl) ?_
  exact .tup (.cons (.agg (.cons (.cold rfl) (.cons .nil (.cons .nil .nil)))) (.cons (.one (.cold rfl)) .nil))
 have hge : ¬ 2 ^ h ≤ n := by
  have hc' : decide ((n : Int) ≥ vZ (h : Int)) = false := hc
  have := of_decide_eq_false hc'
  rw [hmn] at this
  omega
 rw [if_neg hge] at hR
 refine aN ?_
 change Tri _ _ _ _ _
 have hw2 : IntKind.i64.wrap ((n : Int) + 1) = ((n + 1 : Nat) : Int) := bZ n (by omega)
 have hle1 : (raC m 2 16 (n + 1) s).2.i ≤ 1000000 := by
  rw [← hR] at hi
  split at hi
  ·exact hi
  ·exact hi
 refine aB M hI hn (by rfl) (by kernel_rfl) ?_ ?_
 ·simp
  rw [hw2]
  exact ⟨hok1, ⟨hC1, by omega⟩, hle1⟩
 refine aV (s' := ku_swSt2 m (raC m 2 16 (n + 1) s).2 seed msg h n (raC m 2 16 (n + 1) s).1.2) (fun a w hg => (hg.reset (kT := [0, 2, 5, 7, 8, 10, 12]) (kO := [px, 0, 1, 2]) (by rfl) (by simp)).same ?_ ?_) ?_
 ·refine .cons rfl (.cons rfl (.cons rfl (.cons rfl (.cons rfl (.cons rfl (.cons ?_ .nil))))))
  show pvI (raC m 2 16 (IntKind.i64.wrap ((n : Int) + 1)).toNat s).1.2 = _
  rw [hw2]
  rfl
 ·refine .cons (.box ?_) (.cons (.box rfl) (.cons (.box rfl) (.cons (.box rfl) .nil)))
  show kuP m (raC m 2 16 (IntKind.i64.wrap ((n : Int) + 1)).toNat s).2 = _
  rw [hw2]
  rfl
 generalize raC m 2 16 (n + 1) s = q at hR ⊢
 obtain ⟨⟨q1, e⟩, s2⟩ := q
 dsimp only at hR ⊢
 refine aI ?_
 refine aB M hI hn (by rfl) (by kernel_rfl) ?_ ?_
 ·simp
 refine aJ (by rfl) (fun hc => ?_) (fun hc => ?_)
 ·have hcc : (bif e != 0 then true else s2.stop) = true := hc
  have hb : e ≠ 0 ∨ s2.stop = true := by
   by_cases h : e = 0
   ·subst h; exact .inr hcc
   ·exact .inl h
  rw [if_pos hb] at hR
  rw [← hR]
  refine aB M hI hn (by rfl) (by kernel_rfl) ?_ ?_
  ·simp
  refine bC (fun a w hg => ⟨.inr rfl, _, ⟨?_, (fun o ho => by obtain rfl := List.mem_singleton.1 ho; exact ⟨_, rfl, dA rfl⟩), fun p hp => (by cases hp)⟩, hg⟩)
  refine iL (by rfl) (by simp) (by rfl) ?_
  exact .tup (.cons (.agg (.cons (.cold rfl) (.cons .nil (.cons .nil .nil)))) (.cons (.one (.cold rfl)) .nil))
 ·have hcc : (bif e != 0 then true else s2.stop) = false := hc
  have hb : ¬ (e ≠ 0 ∨ s2.stop = true) := by
   rintro (h | h)
   ·have : (e != 0) = true := by simpa using h
    rw [this] at hcc
    cases hcc
   ·rw [h] at hcc
    cases he : (e != 0) <;> rw [he] at hcc <;> cases hcc
  rw [if_neg hb] at hR
  rw [← hR]
  refine aN ?_
  change Tri _ _ _ _ _
  refine aB M hI hn (by rfl) (by kernel_rfl) ?_ ?_
  ·simp
  refine bC (fun a w hg => ⟨.inr rfl, _, ⟨?_, (fun o ho => by obtain rfl := List.mem_singleton.1 ho; exact ⟨_, rfl, dA rfl⟩), fun p hp => (by cases hp)⟩, hg⟩)
  refine aK (by rfl) (by simp) (by rfl) (by rfl) ?_
  all_goals rfl
def aVe : List PV → Option (KuC × KuF)
 | [.w (.agg [.bs 16 seed]), .w (.one (.lit (.int .i64 h))), .w (.agg [.bs 16 msg])] => some (fun m s => HasB m s 2 ∧ 0 ≤ h ∧ h ≤ 4, fun m s => ((swK m seed msg h.toNat s).2, aBp (swK m seed msg h.toNat s).1))
 | _ => none
theorem aFt (m : KuM) (s : KuS) : SpecOk Tryz.prog ShaMem 20 (iM 71 (kuG m s aVe)) :=
 jT (aF Tryz.func20 (by kernel_rfl) rfl) (fun ys C F h => by
  unfold aVe at h
  split at h
  ·rename_i seed b msg
   cases h
   intro m s hok hC hi
   obtain ⟨k, rfl⟩ := Int.eq_ofNat_of_zero_le hC.2.1
   exact aIl seed msg k (by have := hC.2.2; omega) m s hok hC.1 hi
  ·cases h)
end Go.Proofs.YtihghljfmlbfhaaGreatDoor.Pv
namespace Go.Proofs.YtihghljfmlbfhaaGreatDoor
open Go.RowKit
section
variable {α β : Type} {F : List Int} {pre : List Int → Prop} {cut : List Int → Prop}
end
end Go.Proofs.YtihghljfmlbfhaaGreatDoor
namespace Go.Proofs.YtihghljfmlbfhaaGreatDoor
open Go.RowKit
end Go.Proofs.YtihghljfmlbfhaaGreatDoor
namespace Go.Proofs.YtihghljfmlbfhaaGreatDoor.Pv
open Go.RowKit
theorem aQs (h : Nat) (hh : h ≤ 4) : Prg.signI (h : Int) = Prg.sign h := by
 unfold Prg.signI
 rw [if_pos ⟨by omega, by omega⟩, Int.toNat_natCast]
theorem aAf (f g : Nat → List UInt8) : ∀ n, (∀ k, k < n → f k = g k) → mG f n = mG g n
 | 0, _ => rfl
 | n + 1, h => by rw [lQ, lQ, aAf f g n fun k hk => h k (by omega), h n (by omega)]
theorem aDj (seed : List UInt8) (index : Int) (m : List UInt8) : iR m (eU (mQ seed index m 68)) = dQ seed index := by
 rw [← aCy seed index m]
 unfold iR keyOf
 rw [aAf _ _ 68 fun k hk => ?_]
 have : eU (mQ seed index m 68) k = sV seed index m k := by
  unfold eU mQ
  rw [zG, List.getElem?_map, List.getElem?_range hk]
  rfl
 rw [this]
theorem sgnT_yes (seed m : List UInt8) (h i : Nat) (hh : h ≤ 4) (hi : i < 2 ^ h) : sgnT seed (h : Int) (i : Int) m = (⟨(i : Int), mQ seed (i : Int) m 68, dI (cO seed (2 ^ h)) i⟩, 0) := by
 unfold sgnT
 rw [if_neg (by omega)]
 simp only [Int.toNat_natCast]
 rw [if_pos hi]
theorem aNe (seed m : List UInt8) (h i : Int) : (sgnT seed h i m).1.chain.length ≤ 68 ∧ (sgnT seed h i m).1.path.length ≤ 16 := by
 unfold sgnT
 split
 ·exact ⟨Nat.zero_le _, Nat.zero_le _⟩
 ·rename_i ho
  split
  ·refine ⟨by dsimp only; rw [wP]; exact Nat.le_refl _, ?_⟩
   dsimp only
   have h4 : 0 ≤ h ∧ h ≤ 4 := by omega
   have := pJ _ (cO seed (2 ^ h.toNat)) i.toNat (Nat.le_refl _)
   rw [fF] at this
   have h16 : 2 ^ h.toNat ≤ 2 ^ 4 := Nat.pow_le_pow_right (by omega) (by omega)
   omega
  ·exact ⟨Nat.zero_le _, Nat.zero_le _⟩
theorem wX {α : Type} (F : List Flt) {p : Prg α} : ∀ {n : Nat}, p.Within n → ∀ h i, (gV F p h i).2.2 ≤ i + n := by
 induction p with
 | ret a => intro n _ h i; exact Nat.le_add_right _ _
 | ask a k ih =>
  intro n hw h i
  cases n with
  | zero => exact hw.elim
  | succ n =>
   rw [gV]
   split
   ·show i + 1 ≤ i + (n + 1); omega
   ·have := ih (dF h a (bV F i)).2.1 (hw _) (dF h a (bV F i)).1 (i + 1)
    omega
def kuL6 (m : KuM) (s : KuS) : List (Nat × Spec) := (20, iM 71 (kuG m s aVe)) :: kuL5 m s
theorem ku6_ok (m : KuM) (s : KuS) : ∀ p ∈ kuL6 m s, SpecOk Tryz.prog ShaMem p.1 p.2 := by
 intro p hp
 rcases List.mem_cons.1 hp with rfl | hp
 ·exact aFt m s
 ·exact ku5_ok m s p hp
theorem kuM6 (m : KuM) (s : KuS) : Mach Tryz.prog ShaMem (find (kuL6 m s)) := ⟨dD (ku6_ok m s), iE⟩
def ru26St (m : KuM) (s : KuS) (seed msg : List UInt8) (h : Int) : St := ⟨[(2, none, pvI h), (6, none, pv1 (.pt 1 0 0)), (8, none, pv1 (.pt 2 0 0)), (10, none, pv1 (.pt 3 0 0)), (11, none, pv1 (.pt 4 0 0)), (14, none, pv1 (.pt 3003 0 0))],
 [(1, none, 0, .box 23 [.bs 16 seed]), (2, none, 0, .box 23 [.bs 16 msg]), (3, none, 0, .box 54 ([.lit (.slice none 0 0), .lit (.slice none 0 0), .bs 16 (List.replicate 16 0)])), (4, none, 0, .box 35 [.lit (.int .i64 0), .lit (.slice none 0 0), .lit (.slice none 0 0), .lit (.int .i64 0)]), (3003, none, 0, .box 71 (kuP m s))]⟩
def ru26S2 (m : KuM) (q : (Sig × Int) × KuS) (_ _ : List UInt8) (_ : Int) : St := ⟨[(10, none, pv1 (.pt 3 0 0)), (11, none, pv1 (.pt 4 0 0)), (14, none, pv1 (.pt 3003 0 0)), (15, none, pv1 (.pt 4008 0 0)), (16, none, pvI q.1.2)],
 [(3, none, 0, .box 54 ([.lit (.slice none 0 0), .lit (.slice none 0 0), .bs 16 (List.replicate 16 0)])), (4, none, 0, .box 35 [.lit (.int .i64 0), .lit (.slice none 0 0), .lit (.slice none 0 0), .lit (.int .i64 0)]), (3003, none, 0, .box 71 (kuP m q.2)), (4008, none, 0, .box 32 (qF q.1.1))]⟩
theorem rrun_fun (seed msg : List UInt8) (h : Int) (h0 : HwS) (F : List Flt) (hd : Dim h0) (hF : F.length ≤ 1000000) : iW Tryz.prog ShaMem 12 false [.w (.agg (hwL h0)), .w (.agg [.bs 16 seed]), pvI h, .w (.agg [.bs 16 msg]), pv1 (mF F)] (aGr seed msg h (gV F (Prg.signI h) h0 0)) := by
 obtain ⟨m, hm⟩ : ∃ m : KuM, m = ⟨true, [], F⟩ := ⟨_, rfl⟩
 obtain ⟨s0, hs0⟩ : ∃ s : KuS, s = ⟨0, ⟨0, 0, 0, bF⟩, false, false, h0⟩ := ⟨_, rfl⟩
 refine eF Tryz.func12 rfl rfl fJ (fun A hS hn hI => ?_)
 have M := kuM6 m s0
 refine aB M hI hn (by rfl) (by kernel_rfl) ?_ ?_
 ·simp
 refine aI ?_
 refine aB M hI hn (by rfl) (by kernel_rfl) ?_ ?_
 ·simp
 refine aJ (by rfl) (fun hc => ?_) (fun hc => ?_)
 ·have hno : ¬ (0 ≤ h ∧ h ≤ 4) := by
   intro h2
   have hc' : (vZ h == 0) = true := hc
   unfold vZ at hc'
   rw [if_pos h2] at hc'
   have h3 : ((2 ^ h.toNat : Nat) : Int) = 0 := by simpa using hc'
   have := Nat.one_le_two_pow (n := h.toNat)
   omega
  have hE : gV F (Prg.signI h) h0 0 = (some (0, 1), h0, 0) := by
   unfold Prg.signI
   rw [if_neg hno]
   rfl
  rw [hE]
  refine aB M hI hn (by rfl) (by kernel_rfl) ?_ ?_
  ·simp
  refine bC (fun a w hg => ⟨.inr rfl, _, ?_, hg⟩)
  refine iL (by rfl) (by simp) (by rfl) ?_
  exact .tup (.cons (.agg (.cons (.cold rfl) (.cons (.cold rfl) (.cons (.cold rfl) .nil)))) (.cons (.agg (.cons (.cold rfl) (.cons .nil (.cons .nil (.cons (.cold rfl) .nil))))) (.cons (.one (.cold rfl)) (.cons (.one (.cold rfl)) .nil))))
 have hok : 0 ≤ h ∧ h ≤ 4 := by
  have hc' : (vZ h == 0) = false := hc
  unfold vZ at hc'
  by_cases h2 : 0 ≤ h ∧ h ≤ 4
  ·exact h2
  ·rw [if_neg h2] at hc'
   cases hc'
 obtain ⟨k, rfl⟩ := Int.eq_ofNat_of_zero_le hok.1
 have hk : k ≤ 4 := by omega
 refine aN ?_
 change Tri _ _ _ _ _
 refine aB M hI hn (by rfl) (by kernel_rfl) ?_ ?_
 ·simp
 refine aV (s' := ru26St m s0 seed msg (k : Int)) (fun a w hg => ((hg.boxTo (b := 3003) (l' := kuP m s0) (by rfl) (fun C xs h => by subst hm hs0; exact h.map1 (fun _ => r_nil) (fun _ h => h))).reset (kT := [2, 6, 8, 10, 11, 14]) (kO := [1, 2, 3, 4, 3003]) (by rfl) (by simp)).same ?_ ?_) ?_
 ·exact .cons rfl (.cons rfl (.cons rfl (.cons rfl (.cons rfl (.cons rfl .nil)))))
 ·exact .cons (.box rfl) (.cons (.box rfl) (.cons (.box rfl) (.cons (.box rfl) (.cons (.box rfl) .nil))))
 have hkok : KuOk m s0 := by
  subst hm hs0
  exact ⟨hd.ok, Nat.zero_le _, fun r hr => absurd hr (by simp), hF, Nat.zero_le _⟩
 have hsg : Prg.signI (k : Int) = Prg.sign k := aQs k hk
 have hwi := wX F (mZ (k : Int)) h0 0
 have hlv := aOu (m := m) (by rw [hm]) (Prg.sign k) (s := s0) (by rw [hs0]) (by rw [hs0])
 have hsq := swK_eq m seed msg k s0
 have hHB : HasB m s0 2 := fun _ => by
  subst hs0
  exact ⟨⟨by omega, by have := hd.n; show (2 : Int) < (h0.b.length : Int); omega⟩, hd.l⟩
 rw [hsg] at hwi ⊢
 rw [show m.F = F by rw [hm], show s0.h = h0 by rw [hs0], show s0.i = 0 by rw [hs0], show s0.ask = ⟨0, 0, 0, bF⟩ by rw [hs0]] at hlv
 generalize gV F (Prg.sign k) h0 0 = q at hwi hlv ⊢
 obtain ⟨o, h', j⟩ := q
 generalize bK m (Prg.sign k) s0 = r at hlv hsq
 obtain ⟨r1, r2⟩ := r
 dsimp only at hwi hsq
 have hi : (swK m seed msg k s0).2.i ≤ 1000000 := by
  rw [hsq.1]
  cases o with
  | none =>
   dsimp only at hlv
   rw [hlv]
   show j ≤ _
   omega
  | some a =>
   dsimp only at hlv
   cases hlv
   show j ≤ _
   omega
 refine aB M hI hn (by rfl) (by kernel_rfl) ?_ ?_
 ·simp
  exact ⟨hkok, ⟨hHB, by omega⟩, hi⟩
 refine aV (s' := ru26S2 m (swK m seed msg k s0) seed msg (k : Int)) (fun a w hg => (hg.reset (kT := [10, 11, 14, 15, 16]) (kO := [3, 4, 3003, 4008]) (by rfl) (by simp)).same ?_ ?_) ?_
 ·exact .cons rfl (.cons rfl (.cons rfl (.cons rfl (.cons rfl .nil))))
 ·exact .cons (.box rfl) (.cons (.box rfl) (.cons (.box rfl) (.cons (.box rfl) .nil)))
 generalize swK m seed msg k s0 = w at hsq ⊢
 obtain ⟨⟨w1, w2⟩, w3⟩ := w
 obtain ⟨e1, e2⟩ := hsq
 dsimp only at e1 e2
 subst e1
 refine aI ?_
 cases o with
 | none =>
  dsimp only at hlv
  subst hlv
  refine aB M hI hn (by rfl) (by kernel_rfl) ?_ ?_
  ·simp
  refine aJ (by rfl) (fun hc => ?_) (fun hc => ?_)
  ·refine aB M hI hn (by rfl) (by kernel_rfl) ?_ ?_
   ·simp
   refine bC (fun a w hg => ⟨.inr rfl, _, ?_, hg⟩)
   refine iL (by rfl) (by simp) (by rfl) ?_
   exact .tup (.cons (.agg (.cons (.cold rfl) (.cons (.cold rfl) (.cons (.cold rfl) .nil)))) (.cons (.agg (.cons (.cold rfl) (.cons .nil (.cons .nil (.cons (.cold rfl) .nil))))) (.cons (.one (.cold rfl)) (.cons (.one (.cold rfl)) .nil))))
  ·cases hc
 | some a =>
  dsimp only at hlv
  cases hlv
  have e3 := e2 rfl
  have e4 := congrArg (·.1) e3
  have e5 := congrArg (·.2) e3
  dsimp only at e4 e5
  subst e4 e5
  refine aB M hI hn (by rfl) (by kernel_rfl) ?_ ?_
  ·simp
  refine aJ (by rfl) (fun hc => ?_) (fun hc => ?_)
  ·cases hc
  ·refine aN ?_
   change Tri _ _ _ _ _
   refine aB M hI hn (by rfl) (by kernel_rfl) ?_ ?_
   ·simp
   refine bC (fun a w hg => ⟨.inr rfl, _, ?_, hg⟩)
   refine aK (by rfl) (by simp) (by rfl) (by rfl) ?_
   all_goals rfl
end Go.Proofs.YtihghljfmlbfhaaGreatDoor.Pv
namespace Go.Proofs.YtihghljfmlbfhaaGreatDoor
open Go.RowKit
structure RunInv (A L : Nat) (lv : Value) (log : List Res) (i : Nat) (X : Nat → Prop) (w : World) : Prop where
 at_ : w.heap[A]? = some (.cells #[.int .i64 (i : Int)] 3 (0, 0))
 logv : w.heap[L]? = some (.cells #[lv] 24 (0, 0))
 reads : Reads w 2 lv log.length (logCells log)
 ne : A ≠ L
 own : 0 < log.length → lv.ownBlock ≠ some A
 le : i ≤ log.length
 mine : ∀ k, X k → k < w.heap.size ∧ k ≠ A ∧ k ≠ L ∧ (0 < log.length → lv.ownBlock ≠ some k)
def pending (a : Acc) : Value := .iface 88 a.v
theorem RunInv.chg {A L : Nat} {lv : Value} {log : List Res} {i : Nat} {X : Nat → Prop} {w w' : World} (h : RunInv A L lv log i X w) (hc : Chg X w w') : RunInv A L lv log i X w' :=
 ⟨Chg.blk hc h.at_ (fun hx => (h.mine _ hx).2.1 rfl), Chg.blk hc h.logv (fun hx => (h.mine _ hx).2.2.1 rfl), h.reads.chg hc (fun _ hn hk hx => (h.mine _ hx).2.2.2 hn hk), h.ne, h.own, h.le,
  fun k hk => ⟨Nat.lt_of_lt_of_le (h.mine k hk).1 hc.size, (h.mine k hk).2⟩⟩
theorem RunInv.step {A L : Nat} {lv : Value} {log : List Res} {i : Nat} {X : Nat → Prop} {w : World} (h : RunInv A L lv log i X w) (hi : i < log.length) : RunInv A L lv log (i + 1) X (w.setCell ⟨A, 0, none⟩ (.int .i64 ((i : Int) + 1))) := by
 have hc : Chg (fun k => k = A) w (w.setCell ⟨A, 0, none⟩ (.int .i64 ((i : Int) + 1))) := Chg.setCell (S := fun k => k = A) (p := ⟨A, 0, none⟩) (Chg.refl _ _) (.inl rfl) _
 refine ⟨?_, Chg.blk hc h.logv (fun e => h.ne e.symm), h.reads.chg hc (fun k hn hk e => h.own hn (e ▸ hk)), h.ne, h.own, hi, fun k hk => ⟨Nat.lt_of_lt_of_le (h.mine k hk).1 hc.size, (h.mine k hk).2⟩⟩
 exact one_setCell h.at_
theorem run_do (A L : Nat) (lv : Value) (log : List Res) (a : Acc) (i : Nat) (X : Nat → Prop) (w : World) (h : RunInv A L lv log i X w) (F : Nat) (hF : F = 30) :
  Calls Tryz.prog F (#[a.v] ++ #[.pointer (some ⟨A, 0, none⟩), .pointer (some ⟨L, 0, none⟩)]) w (jX (RunInv A L lv log) (fun k => k = A) X pending w Res.v (replay log a i)) := by
 subst hF
 have hA := cell_of_one h.at_
 have hfA := free_of_one h.at_
 have hL := cell_of_one h.logv
 have hAw := lt_of_heap h.at_
 have hLw := lt_of_heap h.logv
 have hne : ¬ L = A := fun e => h.ne e.symm
 have hmx := h.reads.len_le
 have HH := hide h
 obtain ⟨_, B, c, rfl, hnc, hcm, _⟩ := h.reads
 clear h
 unfold maxLen at hmx
 obtain ⟨ak, ab, ac, ax⟩ := a
 simp only [Acc.v]
 by_cases hlt : i < log.length
 ·obtain ⟨b, o, c', u1, u2, hv, _, _, hb, hu1, hu2, hc1, hc2⟩ := (aA HH).reads.at2 hlt
  cases hv
  have hbA : ¬ b = A := fun e => (aA HH).own (by omega) (by rw [e]; rfl)
  rw [(wU log i).1, zH hlt] at hu1
  rw [(wU log i).2, zH hlt] at hu2
  cases hu1
  cases hu2
  have R : Hid (replay log ⟨ak, ab, ac, ax⟩ i = .ok log[i] (i + 1)) := hide (by unfold replay; rw [zH hlt])
  generalize log[i] = r at *
  have hli : ¬ log.length ≤ i := by omega
  go_enter Tryz.func30, Tryz.ntmps30
  go_wp2
  go_returns
  have hs := (aA HH).step hlt
  refine jX.ok (aA R) rfl ?_ ?_
  ·exact (hs.chg (Chg.alloc (Chg.refl _ _) _)).chg (Chg.alloc (Chg.refl _ _) _)
  ·exact ((Chg.setCell (S := fun k => k = A) (p := ⟨A, 0, none⟩) (Chg.refl _ _) (.inl rfl) _).alloc _).alloc _
 ·have R : Hid (replay log ⟨ak, ab, ac, ax⟩ i = .error ⟨ak, ab, ac, ax⟩ i) := hide (by unfold replay; rw [List.getElem?_eq_none (by omega)])
  have hli : log.length ≤ i := by omega
  go_enter Tryz.func30, Tryz.ntmps30
  go_wp2
  refine ⟨rfl, jX.err (aA R) rfl ?_ ?_⟩
  ·exact ((aA HH).chg (Chg.alloc (Chg.refl _ _) _)).chg (Chg.alloc (Chg.refl _ _) _)
  ·exact ((Chg.refl _ _).alloc _).alloc _
theorem aBe (x : Value) (w : World) : (Instr.typeAssert (.iface 88 x) 20 88 true).run Tryz.prog w = .ok (.tuple #[x, .bool true]) w := by kernel_rfl
attribute [local go_sem] aBe
theorem catch_panicking (Ab Ob Db : Nat) (a : Acc) (x0 x1 x2 x3 y0 y1 y2 y3 z0 : Value) (older : List PanicEntry) (w : World)
  (hA : Blk w Ab 29 #[x0, x1, x2, x3]) (hO : Blk w Ob 35 #[y0, y1, y2, y3]) (hD : Blk w Db 4 #[z0]) (hAO : ¬ Ab = Ob) (hAD : ¬ Ab = Db) (hOD : ¬ Ob = Db) :
  CallsD Tryz.prog 31 #[.pointer (some ⟨Ab, 0, none⟩), .pointer (some ⟨Ob, 0, none⟩), .pointer (some ⟨Db, 0, none⟩)] (.panicking ({ v := pending a, recovered := false } :: older)) w fun e u' w' =>
   e = .returned (.tuple #[]) ∧ u' = .panicking ({ v := pending a, recovered := true } :: older) ∧ Chg (fun k => k = Ab ∨ k = Ob ∨ k = Db) w w' ∧
   Blk w' Ab 29 #[.int .i64 a.kind, .int .i64 a.bank, .int .i64 a.cell, .string a.bytes] ∧ Blk w' Ob 35 #[.int .i64 0, .slice none 0 0, .slice none 0 0, .int .i64 0] ∧ Blk w' Db 4 #[.bool false] := by
 have hA0 := hA.cell 0
 have hA1 := hA.cell 1
 have hA2 := hA.cell 2
 have hA3 := hA.cell 3
 have hO0 := hO.cell 0
 have hO1 := hO.cell 1
 have hO2 := hO.cell 2
 have hO3 := hO.cell 3
 have hD0 := hD.cell 0
 have fA := hA.frozen
 have fO := hO.frozen
 have fD := hD.frozen
 have lA := hA.lt
 have lO := hO.lt
 have lD := hD.lt
 simp only [List.getElem?_toArray, List.getElem?_cons_zero, List.getElem?_cons_succ] at hA0 hA1 hA2 hA3 hO0 hO1 hO2 hO3 hD0
 have HA := hide hA
 have HO := hide hO
 have HD := hide hD
 clear hA hO hD
 have hAO' : ¬ Ob = Ab := fun e => hAO e.symm
 have hAD' : ¬ Db = Ab := fun e => hAD e.symm
 have hOD' : ¬ Db = Ob := fun e => hOD e.symm
 obtain ⟨ak, ab, ac, ax⟩ := a
 simp only [pending, Acc.v]
 refine callsD_of_wpS Tryz.func31 rfl fun c₀ cs hu => ?_
 simp only [Tryz.ntmps31, List.size_toArray, List.length_cons, List.length_nil, Nat.reduceAdd, Nat.reduceSub, Array.replicate_succ, Array.replicate_zero, List.push_toArray, List.append_toArray, List.nil_append, List.cons_append]
 apply wpS_seq
 apply wpS_region
 simp [wpOpsS, go_sem, recoverD, hu, Exit.thenS]
 refine wpS_of_wp ?_
 go_wp2
 go_region
 go_wp2
 refine ⟨rfl, _, rfl, .tuple #[], results_none rfl _ _ _, rfl, rfl, ?_, ?_, ?_, ?_⟩
 ·repeat' (first | (with_reducible exact Chg.refl _ _) | (with_reducible exact Ext.refl _) | (with_reducible assumption) | (with_reducible refine Chg.alloc ?_ _) | (with_reducible refine Chg.drew ?_) | (with_reducible refine Chg.drewN ?_ _) | (with_reducible refine Chg.setCell ?_ ?_ _) | (with_reducible refine Ext.alloc ?_ _) | (with_reducible refine Ext.drew ?_) | (with_reducible refine Ext.drewN ?_ _) | (with_reducible refine Ext.setCell ?_ ?_ _) | (simp; done) | (simp; omega) | omega)
 ·exact ((((((((((((aA HA).set_ 0 _).set_ 1 _).set_ 2 _).set_ 3 _).far (p := ⟨Ob, 0, none⟩) hAO _).far (p := ⟨Ob, 1, none⟩) hAO _).far (p := ⟨Ob, 2, none⟩) hAO _).far (p := ⟨Ob, 3, none⟩) hAO _).far (p := ⟨Db, 0, none⟩) hAD _).alloc _).alloc _).drew
 ·exact ((((((((((((aA HO).far (p := ⟨Ab, 0, none⟩) hAO' _).far (p := ⟨Ab, 1, none⟩) hAO' _).far (p := ⟨Ab, 2, none⟩) hAO' _).far (p := ⟨Ab, 3, none⟩) hAO' _).set_ 0 _).set_ 1 _).set_ 2 _).set_ 3 _).far (p := ⟨Db, 0, none⟩) hOD _).alloc _).alloc _).drew
 ·exact ((((((((((((aA HD).far (p := ⟨Ab, 0, none⟩) hAD' _).far (p := ⟨Ab, 1, none⟩) hAD' _).far (p := ⟨Ab, 2, none⟩) hAD' _).far (p := ⟨Ab, 3, none⟩) hAD' _).far (p := ⟨Ob, 0, none⟩) hOD' _).far (p := ⟨Ob, 1, none⟩) hOD' _).far (p := ⟨Ob, 2, none⟩) hOD' _).far (p := ⟨Ob, 3, none⟩) hOD' _).set_ 0 _).alloc _).alloc _).drew
theorem catch_idle (x y z : Value) (w : World) :
  CallsD Tryz.prog 31 #[x, y, z] .returning w fun e u' w' => e = .returned (.tuple #[]) ∧ u' = .returning ∧ w = w' := by
 refine callsD_of_wpS Tryz.func31 rfl fun c₀ cs hu => ?_
 simp only [Tryz.ntmps31, List.size_toArray, List.length_cons, List.length_nil, Nat.reduceAdd, Nat.reduceSub, Array.replicate_succ, Array.replicate_zero, List.push_toArray, List.append_toArray, List.nil_append, List.cons_append]
 apply wpS_seq
 apply wpS_region
 simp [wpOpsS, go_sem, recoverD, hu, Exit.thenS]
 refine wpS_of_wp ?_
 go_wp2
 exact ⟨rfl, .returning, by cases c₀; simp_all, .tuple #[], results_none rfl _ _ _, rfl, rfl, rfl⟩
end Go.Proofs.YtihghljfmlbfhaaGreatDoor
namespace Go.Proofs.YtihghljfmlbfhaaGreatDoor
open Go.RowKit
def jP (w : World) (lv : Value) : World :=
 ((((w.alloc (.cells #[lv] 24)).alloc (.cells #[.int .i64 0, .int .i64 0, .int .i64 0, .string { data := #[] }] 29)).alloc (.cells #[.int .i64 0, .slice none 0 0, .slice none 0 0, .int .i64 0] 35)).alloc (.cells #[.bool false] 4)).alloc (.cells #[.int .i64 0] 3)
theorem aAy (w : World) (lv : Value) (log : List Res) (hl : Reads w 2 lv log.length (logCells log)) :
  Ext w (jP w lv) ∧ (jP w lv).heap.size = w.heap.size + 5 ∧
  RunInv (w.heap.size + 1 + 1 + 1 + 1) w.heap.size lv log 0 (fun k => k = w.heap.size + 1 ∨ k = w.heap.size + 1 + 1 ∨ k = w.heap.size + 1 + 1 + 1) (jP w lv) ∧
  Blk (jP w lv) (w.heap.size + 1) 29 #[.int .i64 0, .int .i64 0, .int .i64 0, .string { data := #[] }] ∧
  Blk (jP w lv) (w.heap.size + 1 + 1) 35 #[.int .i64 0, .slice none 0 0, .slice none 0 0, .int .i64 0] ∧ Blk (jP w lv) (w.heap.size + 1 + 1 + 1) 4 #[.bool false] := by
 have hlt := fun k (hn : 0 < log.length) hk => hl.own_lt (by omega) hn k hk
 have hE : Ext w (jP w lv) := by
  unfold jP
  repeat' (first | (with_reducible exact Chg.refl _ _) | (with_reducible exact Ext.refl _) | (with_reducible assumption) | (with_reducible refine Chg.alloc ?_ _) | (with_reducible refine Chg.drew ?_) | (with_reducible refine Chg.drewN ?_ _) | (with_reducible refine Chg.setCell ?_ ?_ _) | (with_reducible refine Ext.alloc ?_ _) | (with_reducible refine Ext.drew ?_) | (with_reducible refine Ext.drewN ?_ _) | (with_reducible refine Ext.setCell ?_ ?_ _) | (simp; done) | (simp; omega) | omega)
 refine ⟨hE, by simp [jP], ⟨?_, ?_, hl.ext hE, by omega, ?_, by omega, ?_⟩, ?_, ?_, ?_⟩
 ·exact Blk.new' _ _ _ (by simp)
 ·exact ((((Blk.new w 24 #[lv]).alloc _).alloc _).alloc _).alloc _
 ·intro hn hk
  have := hlt _ hn hk
  omega
 ·rintro k hk
  refine ⟨by simp [jP]; omega, by omega, by omega, fun hn hk' => ?_⟩
  have := hlt _ hn hk'
  omega
 ·exact (((Blk.new' _ _ _ (by simp)).alloc _).alloc _).alloc _
 ·exact ((Blk.new' _ _ _ (by simp)).alloc _).alloc _
 ·exact (Blk.new' _ _ _ (by simp)).alloc _
theorem yR (tmps : Array Value) (w : World) (Ab Ob Db : Nat) (a0 a1 a2 a3 o0 o1 o2 o3 d0 : Value) (h4 : tmps[4]?.getD undef = .pointer (some ⟨Ab, 0, none⟩)) (h5 : tmps[5]?.getD undef = .pointer (some ⟨Ob, 0, none⟩)) (h6 : tmps[6]?.getD undef = .pointer (some ⟨Db, 0, none⟩))
  (hA : Blk w Ab 29 #[a0, a1, a2, a3]) (hO : Blk w Ob 35 #[o0, o1, o2, o3]) (hD : Blk w Db 4 #[d0]) :
  (results Tryz.f17 tmps).run Tryz.prog w = .ok (.tuple #[.agg #[a0, a1, a2, a3], .agg #[o0, o1, o2, o3], d0]) w := by
 have a0 := hA.cell 0
 have a1 := hA.cell 1
 have a2 := hA.cell 2
 have a3 := hA.cell 3
 have o0 := hO.cell 0
 have o1 := hO.cell 1
 have o2 := hO.cell 2
 have o3 := hO.cell 3
 have d0 := hD.cell 0
 simp only [List.getElem?_toArray, List.getElem?_cons_zero, List.getElem?_cons_succ] at a0 a1 a2 a3 o0 o1 o2 o3 d0
 simp [results, Tryz.results17, go_sem, h4, h5, h6, a0, a1, a2, a3, o0, o1, o2, o3, d0]
theorem runS_any {α : Type} (G : Nat) (pc : Array Value) (lv : Value) (log : List Res) (p : Prg α) (V : α → Array Value → World → Prop) (g : Nat) (w : World) (hl : Reads w 2 lv log.length (logCells log)) (hG : ∀ (args : Array Value) (w : World), (callFunc G args).run Tryz.prog w = .ok (.enter G args) w)
    (hV : ∀ a ys w1 w2, V a ys w1 → Chg (fun k => w.heap.size ≤ k ∧ k < w.heap.size + 5) w1 w2 → V a ys w2)
    (hp : ∀ w1, Ext w w1 → w1.heap.size = w.heap.size + 5 → RunInv (w.heap.size + 1 + 1 + 1 + 1) w.heap.size lv log 0 (fun k => k = w.heap.size + 1 ∨ k = w.heap.size + 1 + 1 ∨ k = w.heap.size + 1 + 1 + 1) w1 →
      Calls Tryz.prog G (#[.func (.func 30) #[] #[.pointer (some ⟨w.heap.size + 1 + 1 + 1 + 1, 0, none⟩), .pointer (some ⟨w.heap.size, 0, none⟩)]] ++ pc) w1 fun e w2 => Chg (fun k => k = w.heap.size + 1 + 1 + 1 + 1 ∨ (g ≤ k ∧ k < w.heap.size)) w1 w2 ∧
        ((∃ a i z A1 n1 c1 A2 n2 c2 er, p.run (replay log) 0 = .ok a i ∧ e = .returned (.agg #[.int .i64 z, .slice A1 n1 c1, .slice A2 n2 c2, .int .i64 er]) ∧ V a #[.int .i64 z, .slice A1 n1 c1, .slice A2 n2 c2, .int .i64 er] w2) ∨ ∃ c i, p.run (replay log) 0 = .error c i ∧ e = .panicked [{ v := pending c, recovered := false }])) :
    Calls Tryz.prog 17 #[.func (.func G) #[] pc, lv] w fun e w' => Chg (fun k => g ≤ k) w w' ∧
      ((∃ a i z A1 n1 c1 A2 n2 c2 er, p.run (replay log) 0 = .ok a i ∧ e = .returned (.tuple #[.agg #[.int .i64 0, .int .i64 0, .int .i64 0, .string bF], .agg #[.int .i64 z, .slice A1 n1 c1, .slice A2 n2 c2, .int .i64 er], .bool true]) ∧ V a #[.int .i64 z, .slice A1 n1 c1, .slice A2 n2 c2, .int .i64 er] w') ∨
       ∃ c i, p.run (replay log) 0 = .error c i ∧ e = .returned (.tuple #[c.v, .agg #[.int .i64 0, .slice none 0 0, .slice none 0 0, .int .i64 0], .bool false])) := by
  have hmf : ∀ (fn : Fn) (first cap : Array Value) (w : World), (Instr.makeFunc fn first cap).run Tryz.prog w = .ok (.func fn first cap) w := fun _ _ _ _ => rfl
  have HP := hide hp
  have HL := hide hl
  obtain ⟨_, B, c, rfl, hnc, hcm, _⟩ := hl
  clear hp hnc hcm
  go_enter_defers Tryz.func17, Tryz.ntmps17
  go_wp2_with fail
  obtain ⟨hE, hsz, hI, hBA, hBO, hBD⟩ := aAy w (.slice B log.length c) log (aA HL)
  refine (aA HP (jP w (.slice B log.length c)) hE hsz hI).mono ?_
  rintro e w1 ⟨h2, hq⟩
  have nA : ¬ (w.heap.size + 1 = w.heap.size + 1 + 1 + 1 + 1 ∨ (g ≤ w.heap.size + 1 ∧ w.heap.size + 1 < w.heap.size)) := by omega
  have nO : ¬ (w.heap.size + 1 + 1 = w.heap.size + 1 + 1 + 1 + 1 ∨ (g ≤ w.heap.size + 1 + 1 ∧ w.heap.size + 1 + 1 < w.heap.size)) := by omega
  have nD : ¬ (w.heap.size + 1 + 1 + 1 = w.heap.size + 1 + 1 + 1 + 1 ∨ (g ≤ w.heap.size + 1 + 1 + 1 ∧ w.heap.size + 1 + 1 + 1 < w.heap.size)) := by omega
  rcases hq with ⟨a, s, z, A1, n1, c1, A2, n2, c2, er, hr, rfl, hv⟩ | ⟨a, s, hr, rfl⟩
  · have HR := hide hr
    have HVV := hide (And.intro hV hv)
    have hA := hide (hBA.chg h2 nA)
    have hO := hide (hBO.chg h2 nO)
    have hD := hide (hBD.chg h2 nD)
    have hEx : Hid (Chg (fun k => g ≤ k) w w1) := hide (hE.trans' h2 (fun _ _ h => h.elim) (fun i hi e => by rcases e with e | e <;> omega))
    have a0 := (aA hA).cell 0
    have a1 := (aA hA).cell 1
    have a2 := (aA hA).cell 2
    have a3 := (aA hA).cell 3
    have o0 := (aA hO).cell 0
    have o1 := (aA hO).cell 1
    have o2 := (aA hO).cell 2
    have o3 := (aA hO).cell 3
    have d0 := (aA hD).cell 0
    simp only [List.getElem?_toArray, List.getElem?_cons_zero, List.getElem?_cons_succ] at a0 a1 a2 a3 o0 o1 o2 o3 d0
    have fA := (aA hA).frozen
    have fO := (aA hO).frozen
    have fD := (aA hD).frozen
    clear hr h2 hE hsz hI hBA hBO hBD HP hv hV
    go_wp2
    have e1 : ¬ w.heap.size + 1 = w.heap.size + 1 + 1 := by omega
    have e2 : ¬ w.heap.size + 1 = w.heap.size + 1 + 1 + 1 := by omega
    have e3 : ¬ w.heap.size + 1 + 1 = w.heap.size + 1 := by omega
    have e4 : ¬ w.heap.size + 1 + 1 = w.heap.size + 1 + 1 + 1 := by omega
    have e5 : ¬ w.heap.size + 1 + 1 + 1 = w.heap.size + 1 := by omega
    have e6 : ¬ w.heap.size + 1 + 1 + 1 = w.heap.size + 1 + 1 := by omega
    refine leaves_cons (f := 31) (args := #[.pointer (some ⟨w.heap.size + 1, 0, none⟩), .pointer (some ⟨w.heap.size + 1 + 1, 0, none⟩), .pointer (some ⟨w.heap.size + 1 + 1 + 1, 0, none⟩)]) (by simp) (by simp [go_sem]) ?_
    refine (catch_idle _ _ _ _).mono ?_
    rintro e u' w2 ⟨rfl, rfl, rfl⟩
    refine ⟨_, yR _ _ (w.heap.size + 1) (w.heap.size + 1 + 1) (w.heap.size + 1 + 1 + 1) (.int .i64 0) (.int .i64 0) (.int .i64 0) (.string { data := #[] }) (.int .i64 z) (.slice A1 n1 c1) (.slice A2 n2 c2) (.int .i64 er) (.bool true) rfl rfl rfl ?_ ?_ ?_, ?_, ?_⟩
    · exact (((((((((aA hA).set_ 0 _).set_ 1 _).set_ 2 _).set_ 3 _).far (p := ⟨w.heap.size + 1 + 1, 0, none⟩) e1 _).far (p := ⟨w.heap.size + 1 + 1, 1, none⟩) e1 _).far (p := ⟨w.heap.size + 1 + 1, 2, none⟩) e1 _).far (p := ⟨w.heap.size + 1 + 1, 3, none⟩) e1 _).far (p := ⟨w.heap.size + 1 + 1 + 1, 0, none⟩) e2 _
    · exact (((((((((aA hO).far (p := ⟨w.heap.size + 1, 0, none⟩) e3 _).far (p := ⟨w.heap.size + 1, 1, none⟩) e3 _).far (p := ⟨w.heap.size + 1, 2, none⟩) e3 _).far (p := ⟨w.heap.size + 1, 3, none⟩) e3 _).set_ 0 _).set_ 1 _).set_ 2 _).set_ 3 _).far (p := ⟨w.heap.size + 1 + 1 + 1, 0, none⟩) e4 _
    · exact (((((((((aA hD).far (p := ⟨w.heap.size + 1, 0, none⟩) e5 _).far (p := ⟨w.heap.size + 1, 1, none⟩) e5 _).far (p := ⟨w.heap.size + 1, 2, none⟩) e5 _).far (p := ⟨w.heap.size + 1, 3, none⟩) e5 _).far (p := ⟨w.heap.size + 1 + 1, 0, none⟩) e6 _).far (p := ⟨w.heap.size + 1 + 1, 1, none⟩) e6 _).far (p := ⟨w.heap.size + 1 + 1, 2, none⟩) e6 _).far (p := ⟨w.heap.size + 1 + 1, 3, none⟩) e6 _).set_ 0 _
    · have hx := aA hEx
      repeat' (first | (with_reducible exact Chg.refl _ _) | (with_reducible exact Ext.refl _) | (with_reducible assumption) | (with_reducible refine Chg.alloc ?_ _) | (with_reducible refine Chg.drew ?_) | (with_reducible refine Chg.drewN ?_ _) | (with_reducible refine Chg.setCell ?_ ?_ _) | (with_reducible refine Ext.alloc ?_ _) | (with_reducible refine Ext.drew ?_) | (with_reducible refine Ext.drewN ?_ _) | (with_reducible refine Ext.setCell ?_ ?_ _) | (simp; done) | (simp; omega) | omega)
    · refine .inl ⟨a, s, z, A1, n1, c1, A2, n2, c2, er, aA HR, rfl, (aA HVV).1 _ _ _ _ (aA HVV).2 ?_⟩
      repeat' (first | (with_reducible exact Chg.refl _ _) | (with_reducible exact Ext.refl _) | (with_reducible assumption) | (with_reducible refine Chg.alloc ?_ _) | (with_reducible refine Chg.drew ?_) | (with_reducible refine Chg.drewN ?_ _) | (with_reducible refine Chg.setCell ?_ ?_ _) | (with_reducible refine Ext.alloc ?_ _) | (with_reducible refine Ext.drew ?_) | (with_reducible refine Ext.drewN ?_ _) | (with_reducible refine Ext.setCell ?_ ?_ _) | (simp; done) | (simp; omega) | omega)
  · have HR := hide hr
    have hA := hide (hBA.chg h2 nA)
    have hO := hide (hBO.chg h2 nO)
    have hD := hide (hBD.chg h2 nD)
    have hEx : Hid (Chg (fun k => g ≤ k) w w1) := hide (hE.trans' h2 (fun _ _ h => h.elim) (fun i hi e => by rcases e with e | e <;> omega))
    clear hr h2 hE hsz hI hBA hBO hBD HP hV
    go_wp2
    refine leaves_cons (f := 31) (args := #[.pointer (some ⟨w.heap.size + 1, 0, none⟩), .pointer (some ⟨w.heap.size + 1 + 1, 0, none⟩), .pointer (some ⟨w.heap.size + 1 + 1 + 1, 0, none⟩)]) (by simp) (by simp [go_sem]) ?_
    refine (catch_panicking _ _ _ a _ _ _ _ _ _ _ _ _ [] _ (aA hA) (aA hO) (aA hD) (by omega) (by omega) (by omega)).mono ?_
    rintro e u' w2 ⟨rfl, rfl, hc, hA', hO', hD'⟩
    refine ⟨_, yR _ _ _ _ _ _ _ _ _ _ _ _ _ _ rfl rfl rfl hA' hO' hD', ?_, ?_⟩
    rotate_left 1
    · exact .inr ⟨a, s, aA HR, rfl⟩
    · exact (aA hEx).trans' hc (fun _ _ h => h) (fun i hi e => by rcases e with e | e | e <;> omega)
end Go.Proofs.YtihghljfmlbfhaaGreatDoor
namespace Go.Proofs.YtihghljfmlbfhaaGreatDoor.Pv
open Go.RowKit
def logO (log : List Res) : List Acc → Option Res := fun l => match l.length with
 | 0 => none
 | n + 1 => log[n]?
theorem vJ (log : List Res) (l : List Acc) (c : Acc) : logO log (l ++ [c]) = log[l.length]? := by
 unfold logO
 rw [List.length_append]
 rfl
theorem zJ {log : List Res} {a : Acc} {i : Nat} {r : Res} (h : log[i]? = some r) : replay log a i = .ok r (i + 1) := by unfold replay; rw [h]
theorem zK {log : List Res} {a : Acc} {i : Nat} (h : log[i]? = none) : replay log a i = .error a i := by unfold replay; rw [h]
theorem aTu {α : Type} (log : List Res) (p : Prg α) : ∀ l : List Acc, l.length ≤ log.length →
  ((go (logO log) p l).2.length ≤ log.length → p.run (replay log) l.length = .ok (go (logO log) p l).1 (go (logO log) p l).2.length) ∧
  (∀ l' c, l' ++ [c] <+: (go (logO log) p l).2 → l <+: l' → l'.length = log.length → p.run (replay log) l.length = .error c log.length) := by
 induction p with
 | ret a =>
  refine fun l hl => ⟨fun _ => rfl, fun l' c h1 h2 h3 => ?_⟩
  have h4 := h1.length_le
  have h5 := h2.length_le
  rw [List.length_append, List.length_singleton] at h4
  have h6 : (go (logO log) (Prg.ret a) l).2 = l := rfl
  rw [h6] at h4
  omega
 | ask a k ih =>
  intro l hl
  rw [aLs]
  have hpre := aLr (logO log) (k (ans (logO log) (l ++ [a]))) (l ++ [a])
  have hlen : (l ++ [a]).length = l.length + 1 := by simp
  cases hr : log[l.length]? with
  | some r =>
   have hlt : l.length < log.length := (List.getElem?_eq_some_iff.1 hr).1
   have ha : ans (logO log) (l ++ [a]) = r := by unfold ans; rw [vJ, hr]; rfl
   rw [ha] at hpre ⊢
   obtain ⟨i1, i2⟩ := ih r (l ++ [a]) (by omega)
   rw [hlen] at i1 i2
   have hrun : (Prg.ask a k).run (replay log) l.length = (k r).run (replay log) (l.length + 1) := by
    simp only [Prg.run, zJ hr]
   rw [hrun]
   refine ⟨i1, fun l' c h1 h2 h3 => i2 l' c h1 ?_ h3⟩
   exact List.prefix_of_prefix_length_le hpre ((List.prefix_append l' [c]).trans h1) (by rw [hlen]; omega)
  | none =>
   have hge : log.length ≤ l.length := List.getElem?_eq_none_iff.1 hr
   have hrun : (Prg.ask a k).run (replay log) l.length = .error a l.length := by
    simp only [Prg.run, zK hr]
   refine ⟨fun h => ?_, fun l' c h1 h2 h3 => ?_⟩
   ·have := hpre.length_le
    rw [hlen] at this
    omega
   ·have hll : l' = l := (h2.eq_of_length (by omega)).symm
    subst hll
    have := List.prefix_of_prefix_length_le h1 hpre (by simp)
    have h4 := this.eq_of_length (by simp)
    have h5 : c = a := by simpa using h4
    rw [hrun, h5, h3]
def runD (A L : Nat) (lv : Value) (log : List Res) : Dv where
 hd := .func (.func 30) #[] #[.pointer (some ⟨A, 0, none⟩), .pointer (some ⟨L, 0, none⟩)]
 O := logO log
 S := fun k => k = A
 inv := fun l X w => RunInv A L lv log l.length X w
 pan := fun l _ _ chain => ∃ l' c, l = l' ++ [c] ∧ l'.length ≤ log.length ∧ chain = [{ v := pending c, recovered := false }]
 one := rfl
 noBlk := rfl
 notS := fun _ _ _ b h hb => (h.mine b hb).2.1
 grow := fun l X Y w w' h hc hY => by
  have h' := h.chg hc
  refine ⟨h'.at_, h'.logv, h'.reads, h'.ne, h'.own, h'.le, fun k hk => ?_⟩
  rcases hY k hk with hx | ⟨h1, h2⟩
  ·exact h'.mine k hx
  ·have h3 := lt_of_heap h.at_
   have h4 := lt_of_heap h.logv
   refine ⟨h2, by omega, by omega, fun hn hk' => ?_⟩
   have := h.reads.own_lt (by omega) hn k hk'
   omega
theorem aRb (A L : Nat) (lv : Value) (log : List Res) : ∀ {stp : List Acc → Prop}, oP Tryz.prog (runD A L lv log) stp := fun l X w h => by
 refine ⟨_, _, rfl, (fun args w => by kernel_rfl), fun c _ => ?_⟩
 refine (run_do A L lv log c l.length X w h _ rfl).mono ?_
 intro e w' hp
 cases hr : log[l.length]? with
 | some r =>
  obtain ⟨h1, h2, h3⟩ := hp.of_ok (zJ hr)
  refine ⟨h3, .inl ⟨r, ?_, h1, ?_⟩⟩
  ·exact (vJ log l c).trans hr
  ·show RunInv A L lv log (l ++ [c]).length X w'
   rw [List.length_append]
   exact h2
 | none =>
  obtain ⟨h1, h2, h3⟩ := hp.of_err (zK hr)
  exact ⟨h3, .inr ⟨_, (vJ log l c).trans hr, h1, l, c, rfl, h.le, rfl⟩⟩
end Go.Proofs.YtihghljfmlbfhaaGreatDoor.Pv
