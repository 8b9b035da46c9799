/-
  Several texts in one file: each has its own heading below.
-/
import Derived.Test.YtihghljfmlbfhaaGreatDoorRzF
import Derived.Test.YtihghljfmlbfhaaGreatDoorRzA
import Derived.Deep.RegionHeld
import Derived.Test.YtihghljfmlbfhaaGreatDoorRzL
import Derived.Test.YtihghljfmlbfhaaGreatDoorRzI
import Derived.Test.YtihghljfmlbfhaaGreatDoorRzK
import Derived.Deep.RegionHeld3
set_option maxRecDepth 100000
set_option maxHeartbeats 4000000
namespace Go.Proofs.YtihghljfmlbfhaaGreatDoor
open Go.RowKit
theorem qI.of_ext {w w' : World} (h : Ext w w') : qI w w' := fun _ _ hk _ => h.blk hk
theorem qI.own {β : Type} {B : Nat} {I : β → World → Prop} (h : ∀ s W W', I s W → qI W W' → I s W') : OwnFrom B I := by
 intro s W W' row hs hg hrow
 refine h s W W' hs fun k o hk ho => ?_
 rw [hg.block k (lt_of_heap hk) (fun e => ?_)]
 ·exact hk
 ·obtain ⟨_, q, hq, hqc⟩ := hrow k e.symm
  rw [hk] at hq
  cases hq
  rw [ho] at hqc
  cases hqc
theorem aQe {α : Type} {P : Program} {g : Operand} {ps : Array Tmp} {assign body : Code} {Q : Exit → Act → World → Prop} {a : Act} {w : World}
  {gf : Nat} {lb : Array Value} (hg : a.eval g = .func (.func gf) #[] lb) (eg : ∀ args w, (callFunc gf args).run P w = .ok (.enter gf args) w)
  {encs : α → Array Value} {S : Nat → Prop} {all : List α} {N : Nat}
  (hseq : SeqStopsK Fence.wide 2 P gf lb encs (rQ S) (fun ys => ys = all) (fun _ => True) N w) (hps : ∀ x, (encs x).size = ps.size)
  (J : List α → World → Prop) (hJ : ∀ pre W W', J pre W → qI W W' → J pre W') (h0 : J [] w) (Ax : α → Act → World → Prop) (hAx : ∀ x a' W W', Ax x a' W → qI W W' → Ax x a' W')
  (hassign : ∀ (l : Nat) (pre : List α) (x : α) (W : World) (K : Act → World → Prop), Chg S w W → J pre W → (∀ a' W', Ext W W' → Ax x a' W' → K a' W') →
   assign.wpIn (Fence.wide.inRound l) 1 P (Exit.then K (fun _ _ _ => False)) { tmps := (ps.zip (encs x)).foldl (fun t (p, v) => t.setIfInBounds p v) a.tmps, defers := [] } W)
  (hbody : ∀ (l : Nat) (pre : List α) (x : α) (a' : Act) (W : World), Chg S w W → J pre W → Ax x a' W → pre.length < N →
   body.wpIn (Fence.wide.inRound l) 1 P (Exit.then (fun _ W' => Chg S W W' ∧ KeepsFrom w.heap.size W W' ∧ J (pre ++ [x]) W') (fun _ _ _ => False)) a' W)
  (hdone : ∀ (D : Nat) (W : World), w.heap.size ≤ D → Chg S w W → J all W → W.heap[D]? = some (.deferred (some [])) → Q .normal { a with defers := { target := .collected D, args := #[] } :: a.defers } W) :
  (Code.rangeFunc g ps assign body).wp P Q a w := by
 refine (wpIn_wide (n := 3)).1 ?_
 refine wpIn_rangeFunc_ownH (n := 3) (N := N) (w0 := w) rfl (by omega) hg trivial eg hseq (fun h k => h.trans k) (fun W l o o' _ h ho _ => rQ.putObj W l o' h ho) (Below.refl _ _) hps
  (fun pre W => Chg S w W ∧ J pre W) (fun _ _ _ => False) ?hI (fun _ _ _ _ _ h _ _ => h) ⟨Chg.refl _ _, h0⟩ Ax (fun x a' => qI.own fun _ W W' h k => hAx x a' W W' h k) ?hassign ?hbody ?hdone (fun _ _ _ _ _ _ h _ => h.elim)
 case hI =>
  rintro pre W W' row ⟨hc, hj⟩ hgr hrow
  exact ⟨hc.grown hgr fun k e => .inr (hrow k e).1, qI.own (B := w.heap.size) hJ pre W W' row hj hgr hrow⟩
 case hassign =>
  rintro l pre x W K ⟨hc, hj⟩ hK
  refine hassign l pre x W K hc hj fun a' W' hE hA => hK a' W' ⟨hE.size', fun k o _ hk _ => hE.blk hk⟩ (rQ.of_chg hE.chg) ⟨hc.ext hE, hJ _ _ _ hj (qI.of_ext hE)⟩ hA
 case hbody =>
  rintro l pre x a' W _ _ ⟨hc, hj⟩ hA hl
  refine wpIn_mono (hbody l pre x a' W hc hj hA hl) ?_
  rintro e b W' h
  cases e with
  | normal =>
   obtain ⟨h1, h3, h2⟩ := h
   exact ⟨h3, rQ.of_chg h1, hc.trans h1, h2⟩
  | _ => exact h.elim
 case hdone =>
  rintro D xs W hD rfl ⟨hc, hj⟩ hd
  exact hdone D W hD hc hj hd
theorem aTo {B0 B : Nat} {w w' : World} {e : TypeId} {size : Nat} {v : Value} {n : Nat} {xs : List Value} (h : w.ownsRow B e size v n xs) (hc : Chg (fun k => v.ownBlock = some k) w w') : KeepsFrom B0 w w' := by
 refine ⟨hc.size, fun k o _ hk ho => hc.blk hk fun hv => ?_⟩
 rcases h.2 with ⟨rfl, _⟩ | ⟨g, cap, cur, rfl, _, hg, _⟩
 ·simp [Value.ownBlock] at hv
 ·simp only [Value.ownBlock, Option.some.injEq] at hv
  subst hv
  rw [hg] at hk
  cases hk
  simp [Obj.isCells] at ho
theorem qI.own' {w w' : World} (hk : qI w w') {B : Nat} {e : TypeId} {size : Nat} {v : Value} {n : Nat} {xs : List Value} (h : w.ownsRow B e size v n xs) : w'.ownsRow B e size v n xs := by
 refine ⟨h.1, ?_⟩
 rcases h.2 with hn | ⟨g, cap, cur, rfl, hb, hgg, rest⟩
 ·exact .inl hn
 ·exact .inr ⟨g, cap, cur, rfl, hb, hk _ _ hgg rfl, rest⟩
theorem aHa {w w' : World} (h : Ext w w') : w.grownBy w' none := ⟨h.os, h.tape, h.output, h.size', fun k hk _ => h.block k hk (fun h => h)⟩
section
variable {P : Program} {ops : Array Oper} {Q : Exit → Act → World → Prop} {md : Region.Mode} {k : Nat} {C : World → Prop}
def qB (P : Program) (md : Region.Mode) (ops : Array Oper) (Q : Exit → Act → World → Prop) (k : Nat) (C : World → Prop) : Nat → Array Bool → Act → World → Prop
 | 0, l, a, w => Region.ready md ops l = [] ∧ Q .normal a w
 | f + 1, l, a, w => (Region.ready md ops l = [] → Q .normal a w) ∧
  ∀ i ∈ Region.ready md ops l, wpOp P ops Q i (fun a' w' => ((l.setIfInBounds i true).getD k true = false → C w') ∧ qB P md ops Q k C f (l.setIfInBounds i true) a' w') a w
theorem wL : ∀ (f : Nat) (l : Array Bool) (a : Act) (w : World), qB P md ops Q k C f l a w → wpAny P md ops Q f l a w
 | 0, _, _, _, h => h
 | f + 1, _, _, _, h => ⟨h.1, fun i hi => wpOp_mono (fun a' w' h' => wL f _ a' w' h'.2) (h.2 i hi)⟩
def aKp (md : Region.Mode) (ops : Array Oper) (k i : Nat) : Bool := match ops[k]? with
 | some o => o.after.any fun e => Region.binds md e && e.on == i
 | none => false
theorem ready_ne {l : Array Bool} {i j : Nat} (hi : i ∈ Region.ready md ops l) (hj : j ∈ Region.ready md ops l) (hk : aKp md ops k i = true) : j ≠ k := by
 rintro rfl
 obtain ⟨_, o, ho, hall⟩ := mem_ready.1 hj
 unfold aKp at hk
 rw [ho] at hk
 obtain ⟨e, he, h2⟩ := Array.any_eq_true'.1 hk
 rw [Bool.and_eq_true, beq_iff_eq] at h2
 have h1 := hall e he h2.1
 have h0 := (mem_ready.1 hi).1
 rw [h2.2] at h1
 rcases Nat.lt_or_ge i l.size with h' | h'
 ·simp [h'] at h0 h1; rw [h0] at h1; cases h1
 ·simp [Array.getElem?_eq_none h'] at h1
theorem nM {l : Array Bool} {i j : Nat} (d : Bool) (h : i ≠ j) : (l.setIfInBounds i true).getD j d = l.getD j d := by
 simp [Array.getD_eq_getD_getElem?, Array.getElem?_setIfInBounds_ne h]
theorem aEy {i : Nat} {oi : Oper} {v : Value} (hi : ops[i]? = some oi) (hsel : ∀ (j : Nat) (o : Oper) cs b, ops[j]? = some o → o.op ≠ .select cs b)
  (hQ : ∀ c a w, Q (.panic c) (a.put oi.dst v) w → Q (.panic c) a w) (hki : aKp md ops k i = true) :
  ∀ (f : Nat) (l : Array Bool) (a : Act) (w : World),
   (∀ j oj, ops[j]? = some oj → j ≠ i → l.getD j true = false → (∀ e ∈ oj.after, Region.binds md e = true → e.on ≠ i) → oi.apart ops oj = true) →
   i ∈ Region.ready md ops l → l.getD k true = false → i ≠ k → YieldsIf P ops C oi v a → C w →
   qB P md ops Q k C f (l.setIfInBounds i true) (a.put oi.dst v) w → qB P md ops Q k C (f + 1) l a w := by
 intro f
 induction f with
 | zero =>
  intro l a w _ hr _ _ hy hC H
  refine ⟨fun h => (by rw [h] at hr; cases hr), fun j hj => ?_⟩
  by_cases hji : j = i
  ·subst hji; exact hy.wpOp hi hC ⟨fun _ => hC, H⟩
  ·have := ready_mono hj hji
   rw [H.1] at this
   cases this
 | succ f ih =>
  intro l a w hfree hr hkl hik hy hC H
  refine ⟨fun h => (by rw [h] at hr; cases hr), fun j hj => ?_⟩
  by_cases hji : j = i
  ·subst hji; exact hy.wpOp hi hC ⟨fun _ => hC, H⟩
  ·have hjk : j ≠ k := ready_ne hr hj hki
   have h1 := H.2 j (ready_mono hj hji)
   obtain ⟨hjun, oj, hoj, hall⟩ := mem_ready.1 hj
   have hnot : ∀ e ∈ oj.after, Region.binds md e = true → e.on ≠ i := fun e he hb heq => by
    have h1 := hall e he hb
    have h0 := (mem_ready.1 hr).1
    rw [heq] at h1
    rcases Nat.lt_or_ge i l.size with h' | h'
    ·simp [h'] at h0 h1; rw [h0] at h1; cases h1
    ·simp [Array.getElem?_eq_none h'] at h1
   have h2 := wpOp_putIf hoj (hfree j oj hoj hji hjun hnot) (fun cs b => hsel i oi cs b hi) (fun cs b => hsel j oj cs b hoj) hQ hy h1
   have hfree' : ∀ m om, ops[m]? = some om → m ≠ i → (l.setIfInBounds j true).getD m true = false →
     (∀ e ∈ om.after, Region.binds md e = true → e.on ≠ i) → oi.apart ops om = true := fun m om hm hmi hun hno => by
    refine hfree m om hm hmi ?_ hno
    by_cases hjm : j = m
    ·subst hjm; exact hjun
    ·rw [nM true hjm] at hun; exact hun
   have hkl' : (l.setIfInBounds j true).getD k true = false := by rw [nM true hjk]; exact hkl
   refine wpOp_mono (fun a' w' h3 => ?_) h2
   have hC' : C w' := h3.2.1 (by rw [nM true hjk, nM true hik]; exact hkl)
   refine ⟨fun _ => hC', ih (l.setIfInBounds j true) a' w' hfree' (ready_mono hr (Ne.symm hji)) hkl' hik h3.1 hC' ?_⟩
   rw [Array.setIfInBounds_comm _ _ hji]
   exact h3.2.2
theorem oU {i : Nat} {oi : Oper} {v : Value} {f : Nat} {l : Array Bool} {a : Act} {w : World} (hi : ops[i]? = some oi)
  (hs : Region.noSelect ops = true) (hf : Region.free md ops l i = true) (hr : (Region.ready md ops l).contains i = true) (hki : aKp md ops k i = true) (hkl : (!l.getD k true && i != k) = true)
  (hQ : ∀ c a w, Q (.panic c) (a.put oi.dst v) w → Q (.panic c) a w) (hy : YieldsIf P ops C oi v a) (hC : C w)
  (h : qB P md ops Q k C f (l.setIfInBounds i true) (a.put oi.dst v) w) : qB P md ops Q k C (f + 1) l a w := by
 rw [Bool.and_eq_true, Bool.not_eq_true', bne_iff_ne] at hkl
 exact aEy hi (Region.noSelect_spec hs) hQ hki f l a w (Region.free_spec hi hf) (by simpa using hr) hkl.1 hkl.2 hy hC h
def dG (P : Program) (md : Region.Mode) (ops : Array Oper) (Q : Exit → Act → World → Prop) (k : Nat) (C : World → Prop) (f : Nat) (l : Array Bool) (a : Act) (w : World) (rs : List Nat) : Prop :=
 ∀ i ∈ rs, wpOp P ops Q i (fun a' w' => ((l.setIfInBounds i true).getD k true = false → C w') ∧ qB P md ops Q k C f (l.setIfInBounds i true) a' w') a w
theorem dG.nil {f : Nat} {l : Array Bool} {a : Act} {w : World} : dG P md ops Q k C f l a w [] := fun _ h => by cases h
theorem dG.cons {f : Nat} {l : Array Bool} {a : Act} {w : World} {i : Nat} {o : Oper} {rs : List Nat} (ho : ops[i]? = some o)
  (h : ∀ K' : Act → World → Prop, Shut (∀ a w, C w → (C w → qB P md ops Q k C f (l.setIfInBounds i true) a w) → K' a w) → if Region.wanted o (yielded ops a.tmps) = true then Oper.wp P o a w K' Q else K' (a.put o.dst undef) w)
  (hs : dG P md ops Q k C f l a w rs) : dG P md ops Q k C f l a w (i :: rs) := fun j hj => by
 rcases List.mem_cons.1 hj with rfl | hj
 ·exact wpOp_step ho (fun K' hK => h K' (fun a w hS hW => hK a w ⟨fun _ => hS, hW hS⟩))
 ·exact hs j hj
theorem dG.key {f : Nat} {l : Array Bool} {a : Act} {w : World} {i : Nat} {o : Oper} (hk : (l.setIfInBounds i true).getD k true = true) (ho : ops[i]? = some o)
  (h : ∀ K' : Act → World → Prop, Shut (∀ a w, True → (True → qB P md ops Q k C f (l.setIfInBounds i true) a w) → K' a w) → if Region.wanted o (yielded ops a.tmps) = true then Oper.wp P o a w K' Q else K' (a.put o.dst undef) w) : dG P md ops Q k C f l a w [i] := fun j hj => by
 rcases List.mem_cons.1 hj with rfl | hj
 ·exact wpOp_step ho (fun K' hK => h K' (fun a w hS hW => hK a w ⟨(by rw [hk]; intro h; cases h), hW hS⟩))
 ·cases hj
theorem iG {rs : List Nat} {f : Nat} {l : Array Bool} {a : Act} {w : World} (hr : Region.ready md ops l = rs) (hne : rs ≠ [])
  (h : dG P md ops Q k C f l a w rs) : qB P md ops Q k C (f + 1) l a w :=
 ⟨fun h0 => absurd (hr ▸ h0) hne, hr ▸ h⟩
theorem yG {l : Array Bool} {a : Act} {w : World} (hr : Region.ready md ops l = []) (h : Q .normal a w) : ∀ f, qB P md ops Q k C f l a w
 | 0 => ⟨hr, h⟩
 | _ + 1 => ⟨fun _ => h, by rw [hr]; simp⟩
theorem uG (k : Nat) (C : World → Prop) {id : Nat} {a : Act} {w : World} (hm : P.follows .mixedOrders = true) (hC : C w.drew)
  (h : C w.drew → qB P .any ops Q k C ops.size (Array.replicate ops.size false) a w.drew) : (Code.region id ops true).wp P Q a w :=
 wp_region_any hm (wL _ _ _ _ (h hC))
end
end Go.Proofs.YtihghljfmlbfhaaGreatDoor
namespace Go.Proofs.YtihghljfmlbfhaaGreatDoor
open Go.RowKit
theorem pJ : ∀ (n : Nat) (l : List (List UInt8)) (i : Nat), l.length ≤ n → (dI l i).length ≤ l.length
 | 0, l, i, h => by rw [oI l i (by omega)]; simp
 | n + 1, l, i, h => by
  by_cases h1 : l.length ≤ 1
  ·rw [oI l i h1]; simp
  ·have hb := eY l.length (by omega)
   by_cases hk : i < aG l.length
   ·have := pJ n (l.take (aG l.length)) i (by rw [List.length_take]; omega)
    rw [tH l i (by omega) hk]
    rw [List.length_take] at this
    simp
    omega
   ·have := pJ n (l.drop (aG l.length)) (i - aG l.length) (by rw [List.length_drop]; omega)
    rw [qW l i (by omega) hk]
    rw [List.length_drop] at this
    simp
    omega
def okH (h : Int) : Prop := 0 ≤ h ∧ h ≤ 4
def cO (seed : List UInt8) (n : Nat) : List (List UInt8) := (List.range n).map fun (k : Nat) => dQ seed (k : Int)
theorem fF (seed : List UInt8) (n : Nat) : (cO seed n).length = n := by unfold cO; simp
theorem aGv (seed : List UInt8) (n : Nat) : cO seed (n + 1) = cO seed n ++ [dQ seed (n : Int)] := by unfold cO; rw [List.range_succ, List.map_append]; rfl
theorem nV (seed : List UInt8) (i : Int) : (dQ seed i).length = 16 := bY _ _
theorem aOr (seed : List UInt8) (n : Nat) : D16 (cO seed n) := fun d hd => by
 unfold cO at hd
 obtain ⟨k, _, rfl⟩ := List.mem_map.1 hd
 exact nV _ _
theorem yK (h : Int) (w : World) (hh : okH h) : Calls Tryz.prog 71 #[.int .i64 h] w fun e w' => e = .returned (.bool true) ∧ w = w' := by
 obtain ⟨h1, h2⟩ := hh
 go_enter Tryz.func71, Tryz.ntmps71
 go_wp2
 go_ret
 exact ⟨rfl, rfl⟩
theorem valid_no (h : Int) (w : World) (hh : ¬ okH h) : Calls Tryz.prog 71 #[.int .i64 h] w fun e w' => e = .returned (.bool false) ∧ w = w' := by
 unfold okH at hh
 by_cases h1 : 0 ≤ h
 ·have h2 : ¬ h ≤ 4 := by omega
  clear hh
  go_enter Tryz.func71, Tryz.ntmps71
  go_wp2
  go_ret
  exact ⟨rfl, rfl⟩
 ·clear hh
  go_enter Tryz.func71, Tryz.ntmps71
  go_wp2
  go_ret
  exact ⟨rfl, rfl⟩
theorem pow_five {P : Nat → Prop} (h : Nat) (hh : h ≤ 4) (h0 : P 0) (h1 : P 1) (h2 : P 2) (h3 : P 3) (h4 : P 4) : P h := by
 match h, hh with
 | 0, _ => exact h0
 | 1, _ => exact h1
 | 2, _ => exact h2
 | 3, _ => exact h3
 | 4, _ => exact h4
theorem yQ (h : Nat) (hh : h ≤ 4) : wrap64 ((2 : Int) ^ h) = ((2 ^ h : Nat) : Int) :=
 pow_five (P := fun h => wrap64 ((2 : Int) ^ h) = ((2 ^ h : Nat) : Int)) h hh (by decide +kernel) (by decide +kernel) (by decide +kernel) (by decide +kernel) (by decide +kernel)
theorem keys_any (arr : Array Value) (h : Int) (w : World) :
  Calls Tryz.prog 98 #[.agg arr, .int .i64 h] w fun e w' => e = .returned (.func (.func 116) #[] #[.pointer (some ⟨w.heap.size + 1, 0, none⟩), .pointer (some ⟨w.heap.size, 0, none⟩)]) ∧
   (w.alloc (.cells arr 23)).alloc (.cells #[.int .i64 h] 3) = w' := by
 have hmf := mkfun
 go_enter Tryz.func98, Tryz.ntmps98
 go_wp2
 go_ret
 exact ⟨rfl, rfl⟩
theorem aAt {P : Program} {F : Fence} {n0 : Nat} {ops : Array Oper} {rest : List Oper} {o : Oper} {a : Act} {w : World} {Q : Exit → Act → World → Prop} (hgd : o.guard = none) {ty : TypeId} {x : Operand} (ho : o.op = .load ty x) {n : Nat} (W : Wide P ty n)
  {g off : Nat} (hx : a.eval x = .pointer (some ⟨g, off, none⟩)) {cs : List Value} (hB : w.rangeAt g off cs) (hn : cs.length = n) (h : wpListIn F n0 P ops Q rest (a.put o.dst (.agg cs.toArray)) w) : wpListIn F n0 P ops Q (o :: rest) a w :=
 wpListIn_plain hgd fun _ hK => by
  obtain ⟨d, hu, hd⟩ := W.und
  unfold Oper.wpIn
  refine ⟨by simp [Oper.about, ho], ?_⟩
  rw [Oper.semAt_plain F _ _ (by rw [ho]; intro c h; cases h)]
  unfold execOp
  have hr := run_loadVar_mid (P := P) w g off ty cs d hB hu hd (by rw [hn]; exact W.info)
  simp only [ho, hx, Instr.loadAt, Instr.sureAddr, Sem.run_bind, Sem.run_pure, Result.andThen_ok, hr]
  exact hK _ _ h
section
variable {P : Program} {F : Fence} {n0 : Nat}
theorem yF {ops : Array Oper} {rest : List Oper} {o : Oper} {a : Act} {w : World} {Q : Exit → Act → World → Prop} (hgd : o.guard = none) {t e : TypeId} {size bytes : Nat} (T : SlTy P t e size bytes) (hsz : size ≤ 1000) {x : Operand} (ho : o.op = .buildSlice t 1 #[(0, x)]) {cs : Array Value} (hx : a.eval x = .agg cs) (hn : cs.size = size)
  (h : wpListIn F n0 P ops Q rest (a.put o.dst (.slice (some ⟨w.heap.size, 0, none⟩) 1 1)) (w.alloc (.cells cs e))) : wpListIn F n0 P ops Q (o :: rest) a w :=
 wpListIn_plain hgd fun _ hK => by
  obtain ⟨ht, ⟨i, z, hi, hz, hsize, _, hzs⟩, h0, _⟩ := T
  unfold Oper.wpIn
  refine ⟨by simp [Oper.about, ho], ?_⟩
  rw [Oper.semAt_plain F _ _ (by rw [ho]; intro c h; cases h)]
  unfold execOp
  have hfl : Instr.fill (fun i' => some (i' * i.size, i.size)) ((Array.range (1 * i.size)).map (z.cells[· % z.cells.size]!)) ((#[(0, x)] : Array (Nat × Operand)).map fun (i, x) => (i, a.eval x)).toList = some cs := by
   rw [hsize]
   have := aLx ((Array.range (1 * size)).map (z.cells[· % z.cells.size]!)) cs size (by simp) hn
   simpa [hx] using this
  simp only [ho, Sem.run_bind, run_buildSlice w t e 1 _ cs i z ht hi hz (by rw [hsize]; omega) (by rw [hsize]; omega) hfl, Result.andThen_ok]
  exact hK _ _ h
theorem aEx {ops : Array Oper} {rest : List Oper} {o : Oper} {a : Act} {w : World} {Q : Exit → Act → World → Prop} (hgd : o.guard = none) {s x : Operand} {t : TypeId}
  (ho : o.op = .call { callee := .builtin .append, args := #[s, x], argTypes := #[t, t] })
  {B : Nat} {e : TypeId} {size bytes : Nat} (T : SlTy P t e size bytes) {v : Value} (hs : a.eval s = v) {n : Nat} {xs : List Value} (hown : w.ownsRow B e size v n xs)
  {u : Value} (hx : a.eval x = u) {m : Nat} {news : List Value} (hr : Reads w size u m news) (h1 : bP news) (hbytes : (n + m) * bytes ≤ 140737488355328) (hbase : B ≤ w.heap.size)
  (h : ∀ (A' : Option Addr) (c' : Nat) w', w'.ownsRow B e size (.slice A' (n + m) c') (n + m) (xs ++ news) → Chg (fun k => v.ownBlock = some k) w w' → wpListIn F n0 P ops Q rest (a.put o.dst (.slice A' (n + m) c')) w') : wpListIn F n0 P ops Q (o :: rest) a w :=
 wpListIn_plain hgd fun _ hK => by
  obtain ⟨v', w', hrun, h2, h3, _⟩ := aRa (P := P) (ty := o.type) T hown hr h1 hbytes hbase
  obtain ⟨A', c', rfl⟩ := iO h2
  unfold Oper.wpIn
  refine ⟨by simp [Oper.about, ho, resolve, Target.leads, Sem.run_pure], ?_⟩
  rw [Oper.semAt_plain F _ _ (by rw [ho]; intro c h; cases h)]
  simp [execOp, ho, resolve, invoke, builtin, hs, hx, hrun, Result.andThen]
  exact hK _ _ (h A' c' w' h2 h3)
end
attribute [local go_sem] Oper.semAt_some
theorem keys_stops (seed : List UInt8) (h n : Nat) (hn : n = 2 ^ h) (hh : h ≤ 4) (Bh Bs : Nat) (S : Nat → Prop) (w : World) (hv : seed.length = 16) (hM : ShaMem w) (hs1 : ¬ S 1) (hs2 : ¬ S 0) (_ : ¬ S Bh) (hs4 : ¬ S Bs)
  (h1 : w.cell? ⟨Bh, 0, none⟩ = some (.int .i64 (h : Int))) (h2 : Blk w Bs 23 (seed.map u8v).toArray) :
  SeqStopsK Fence.wide 2 Tryz.prog 116 #[.pointer (some ⟨Bh, 0, none⟩), .pointer (some ⟨Bs, 0, none⟩)] (fun x : Fin n => #[.agg ((dQ seed ((x.val : Nat) : Int)).map u8v).toArray]) (rQ S) (fun ys => ys = List.finRange n) (fun _ => True) n w := by
 intro l J Jx W hW hJ hJx hY h0
 have hE := Ext.of_below hW
 have k1 := Ext.cellv hE h1
 have hn16 : n ≤ 16 := by subst hn; exact Nat.le_trans (Nat.pow_le_pow_right (by omega) hh) (by omega)
 have HI0 := hide (show ShaMem W ∧ W.rangeAt Bs 0 (seed.map u8v) from ⟨hM.ext hE, fun j v hj => Ext.cellv hE (by rw [Nat.zero_add, h2.cell]; simpa using hj)⟩)
 have HPb := hide (fun k (hk : k < n) W (hM : ShaMem W) => aOe seed ((k : Nat) : Int) W hM hv (by omega) (by omega))
 have HSL := hide (show (seed.map u8v).length = 16 from by simpa using hv)
 clear h1 h2 hM hE hW
 refine callsIn_wide.2 ?_
 have hsh : wrap64 ((2 : Int) ^ h) = (n : Int) := by rw [yQ h hh, hn]
 clear hn hv
 go_enter Tryz.func116, Tryz.ntmps116
 go_wp2
 clear hsh
 go_loopw [7] (fun i wr => ∃ k : Nat, k ≤ n ∧ i = .int .i64 k ∧ Hid (J ((List.finRange n).take k) wr ∧ ShaMem wr ∧ wr.rangeAt Bs 0 (seed.map u8v))) (fun i _ => n - (intOf i).toNat)
 case atStart => exact ⟨0, Nat.zero_le _, rfl, hide ⟨h0, (aA HI0).1, (aA HI0).2⟩⟩
 case round =>
  obtain ⟨k, hk, rfl, HJ⟩ := hrel
  by_cases hlt : k < n
  ·have HP := hide (aA HPb k hlt wr (aA HJ).2.1)
   have hltI : (k : Int) < (n : Int) := by omega
   have HY := hide (fun W (hE : Ext wr W) => hY ((List.finRange n).take k) ⟨k, hlt⟩ W (hJ _ _ W none (aA HJ).1 (aHa hE) (fun r e => by cases e)) (by simp; omega))
   obtain ⟨arr, harr⟩ : ∃ x, (seed.map u8v).toArray = x := ⟨_, rfl⟩
   obtain ⟨pb, hpb⟩ : ∃ x, ((dQ seed ((k : Nat) : Int)).map u8v).toArray = x := ⟨_, rfl⟩
   rw [harr] at HP
   rw [hpb] at HP HY
   go_upto_region 3 with fail
   refine (wpIn_wide (n := 2)).1 ?_
   gi_wp2_with ((refine aAt (ty := 23) (x := .tmp 2) rfl rfl aC rfl (aA HJ).2.2 (aA HSL) ?_; rw [harr]))
   refine ⟨trivial, ?_⟩
   refine (callsIn_wide.2 (aA HP)).mono ?_
   rintro e w1 ⟨rfl, hE1⟩
   have H1 := hide hE1
   obtain ⟨fn, tmps, assign, body, hy, hR⟩ := aA HY w1 hE1
   clear hE1
   try dsimp only at hy
   gi_wp2
   clear hy
   refine hR.mono ?_
   rintro e W3 (⟨rfl, hJ3, hk3⟩ | ⟨rfl, hJx3⟩)
   ·have HJ4 := hide (show J ((List.finRange n).take (k + 1)) W3 ∧ ShaMem W3 ∧ W3.rangeAt Bs 0 (seed.map u8v) from
     ⟨by rw [aLw n k hlt]; exact hJ3, ⟨fun j v hj => hk3 _ _ hs1 (((aA HJ).2.1.ext (aA H1)).k j v hj), fun j v hj => hk3 _ _ hs2 (((aA HJ).2.1.ext (aA H1)).h j v hj)⟩, fun j v hj => hk3 _ _ hs4 (Ext.cellv (aA H1) ((aA HJ).2.2 j v hj))⟩)
    clear hJ3 hk3
    gi_wp2
    go_wp2
    go_roundw
    case rel => exact ⟨k + 1, by omega, by go_num, HJ4⟩
    case measure => simp [intOf]; omega
   ·gi_wp2
    go_wp2
    refine bodyPost_ret (results_none rfl _ _ _) rfl ?_
    exact ⟨⟨_, rfl⟩, .inr ⟨_, trivial, hJx3⟩⟩
  ·obtain rfl : k = n := by omega
   go_wp2
   go_end0
   exact ⟨⟨_, rfl⟩, .inl ⟨_, rfl, by have := (aA HJ).1; rwa [List.take_of_length_le (by simp)] at this⟩⟩
def LJ (seed : List UInt8) (B bo : Nat) {n : Nat} (pre : List (Fin n)) (W : World) : Prop := ∃ A c, Blk W bo 30 #[.slice A pre.length c] ∧ W.ownsRow B 23 16 (.slice A pre.length c) pre.length (iP (pre.map fun x => dQ seed ((x.val : Nat) : Int)))
theorem LJ.keep {seed : List UInt8} {B bo n : Nat} {pre : List (Fin n)} {W W' : World} (h : LJ seed B bo pre W) (hk : qI W W') : LJ seed B bo pre W' := by
 obtain ⟨A, c, h1, h2⟩ := h
 exact ⟨A, c, hk.blk h1, hk.own' h2⟩
theorem aPf (seed : List UInt8) (n : Nat) : (List.finRange n).map (fun x => dQ seed ((x.val : Nat) : Int)) = cO seed n := by
 unfold cO
 rw [← aUk, List.map_map]
 rfl
theorem aOq (seed : List UInt8) (h n : Nat) (hn : n = 2 ^ h) (hh : h ≤ 4) (w : World) (hv : seed.length = 16) (hM : ShaMem w) :
  Calls Tryz.prog 73 #[.agg (seed.map u8v).toArray, .int .i64 (h : Int)] w fun e w' => ∃ A c, e = .returned (.slice A n c) ∧ GD w w.heap.size (.slice A n c) n (cO seed n) w' := by
 have hsl := hM.lt
 have hn16 : n ≤ 16 := by subst hn; exact Nat.le_trans (Nat.pow_le_pow_right (by omega) hh) (by omega)
 have HST := hide (fun W (hE : Ext w W) (h1 : W.cell? ⟨w.heap.size + 3, 0, none⟩ = some (.int .i64 (h : Int))) (h2 : Blk W (w.heap.size + 2) 23 (seed.map u8v).toArray) =>
  keys_stops seed h n hn hh (w.heap.size + 3) (w.heap.size + 2) (fun k => k = w.heap.size + 1 ∨ w.heap.size + 4 ≤ k) W hv (hM.ext hE) (by omega) (by omega) (by omega) (by omega) h1 h2)
 have HF := hide (aPf seed n)
 have H16 := hide (aOr seed n)
 have HPL := hide (nV seed)
 obtain ⟨arr, harr⟩ : ∃ x, (seed.map u8v).toArray = x := ⟨_, rfl⟩
 have HSZ := hide (show arr.size = 16 from by rw [← harr]; simpa using hv)
 rw [harr] at HST ⊢
 have HKy := hide (fun W => keys_any arr (h : Int) W)
 clear hM hsl hn hh harr hv
 refine (callsIn_wide (n := 3)).1 (callsIn_of_wp_marks Tryz.func73 rfl trivial ((wpIn_wide (n := 3)).2 ?_))
 simp only [Tryz.ntmps73, List.size_toArray, List.length_cons, List.length_nil, Nat.reduceAdd, Nat.reduceSub, Array.replicate_succ, Array.replicate_zero, List.push_toArray, List.append_toArray, List.nil_append, List.cons_append]
 go_wp2_with (first
  | (refine aZ (ty := 23) (t := 23) (x := .tmp 2) rfl rfl aC rfl (cs := arr) ((Blk.new w _ _).alloc _) (aA HSZ) ?_)
  | (go_at_call 98; refine (aA HKy _).mono ?_; rintro e w1 ⟨rfl, rfl⟩))
 have HW := hide (show Ext w ((((w.alloc (.cells arr 23)).alloc (.cells #[.slice none 0 0] 30)).alloc (.cells arr 23)).alloc (.cells #[.int .i64 (h : Int)] 3)) ∧
   Blk ((((w.alloc (.cells arr 23)).alloc (.cells #[.slice none 0 0] 30)).alloc (.cells arr 23)).alloc (.cells #[.int .i64 (h : Int)] 3)) (w.heap.size + 1) 30 #[.slice none 0 0] ∧
   Blk ((((w.alloc (.cells arr 23)).alloc (.cells #[.slice none 0 0] 30)).alloc (.cells arr 23)).alloc (.cells #[.int .i64 (h : Int)] 3)) (w.heap.size + 2) 23 arr ∧
   ((((w.alloc (.cells arr 23)).alloc (.cells #[.slice none 0 0] 30)).alloc (.cells arr 23)).alloc (.cells #[.int .i64 (h : Int)] 3)).cell? ⟨w.heap.size + 3, 0, none⟩ = some (.int .i64 (h : Int)) ∧
   ((((w.alloc (.cells arr 23)).alloc (.cells #[.slice none 0 0] 30)).alloc (.cells arr 23)).alloc (.cells #[.int .i64 (h : Int)] 3)).heap.size = w.heap.size + 4 from
  ⟨((((Ext.refl w).alloc _).alloc _).alloc _).alloc _, ((Blk.new' _ _ _ (by simp)).alloc _).alloc _, (Blk.new' _ _ _ (by simp)).alloc _, fE _ _ _ (by simp) rfl, by simp⟩)
 generalize hW0 : ((((w.alloc (.cells arr 23)).alloc (.cells #[.slice none 0 0] 30)).alloc (.cells arr 23)).alloc (.cells #[.int .i64 (h : Int)] 3)) = W0 at *
 clear hW0
 refine aQe (gf := 116) (S := fun k => k = w.heap.size + 1 ∨ w.heap.size + 4 ≤ k) (all := List.finRange n) (N := n) (encs := fun x : Fin n => #[.agg ((dQ seed ((x.val : Nat) : Int)).map u8v).toArray]) rfl (aF Tryz.func116 (by kernel_rfl) rfl)
  (aA HST W0 (aA HW).1 (aA HW).2.2.2.1 (aA HW).2.2.1) (fun _ => rfl)
  (LJ seed (w.heap.size + 4) (w.heap.size + 1)) (fun _ _ _ h k => h.keep k) ⟨none, 0, (aA HW).2.1, World.ownsRow_nil _ _ _ _⟩
  (fun x a' W => ∃ Bx, Blk W Bx 23 ((dQ seed ((x.val : Nat) : Int)).map u8v).toArray ∧ a' = { tmps := #[.agg arr, .int .i64 (h : Int), .pointer (some ⟨w.heap.size, 0, none⟩), undef, .slice none 0 0, .pointer (some ⟨w.heap.size + 1, 0, none⟩), .pointer (some ⟨Bx, 0, none⟩), .agg arr, .int .i64 (h : Int), .func (.func 116) #[] #[.pointer (some ⟨w.heap.size + 1 + 1 + 1, 0, none⟩), .pointer (some ⟨w.heap.size + 1 + 1, 0, none⟩)], .agg ((dQ seed ((x.val : Nat) : Int)).map u8v).toArray, undef, undef, undef, undef, undef], defers := [] })
  (fun x a' W W' h k => by obtain ⟨Bx, h1, h2⟩ := h; exact ⟨Bx, k.blk h1, h2⟩) ?assign ?body ?done
 case assign =>
  intro l pre x W K hc hj hK
  have HPx := hide (show ((dQ seed ((x.val : Nat) : Int)).map u8v).toArray.size = 16 from by simpa using aA HPL _)
  obtain ⟨pb, hpb⟩ : ∃ y, ((dQ seed ((x.val : Nat) : Int)).map u8v).toArray = y := ⟨_, rfl⟩
  have HPb := hide (show pb.all (·.oneCell') = true from by rw [← hpb]; exact bG _)
  rw [hpb] at hK HPx ⊢
  clear hpb
  gi_wp2_with (refine qL (ty := 23) (t := 23) (x := .tmp 6) (y := .tmp 10) rfl rfl aC rfl rfl (Blk.new W _ _) rfl (aA HPx) (aA HPb) ?_; intro w10 hb10 hc10 hz10; have H10 := hide (And.intro hb10 (aSv hc10)); clear hb10 hc10 hz10)
  exact hK _ _ (aA H10).2 ⟨_, (aA H10).1, rfl⟩
 case body =>
  rintro l pre x a' W hc ⟨A, c, hb, ho⟩ ⟨Bx, hx, rfl⟩ hlen
  have HPx := hide (aA HPL ((x.val : Nat) : Int))
  have HQ := hide (show iP ((pre ++ [x]).map fun x => dQ seed ((x.val : Nat) : Int)) = iP (pre.map fun x => dQ seed ((x.val : Nat) : Int)) ++ (dQ seed ((x.val : Nat) : Int)).map u8v from by rw [List.map_append, qA]; congr 1; exact wH _)
  generalize dQ seed ((x.val : Nat) : Int) = p at *
  have HB := hide (And.intro hb (And.intro ho (And.intro hx (And.intro hc (show w.heap.size + 4 ≤ W.heap.size from by have := hc.size; have := (aA HW).2.2.2.2; omega)))))
  have cb : W.cell? ⟨w.heap.size + 1, 0, none⟩ = some (.slice A pre.length c) := by rw [hb.cell]; rfl
  have fb := hb.frozen 0
  have lb := hb.lt
  clear hb ho hx hc
  gi_wp2_with (first
   | (refine sS (ty := 23) (t := 23) (x := .tmp 6) rfl rfl aC rfl (aA HB).2.2.1 (by simpa using aA HPx) ?_)
   | (refine yF (t := 30) (x := .tmp 12) rfl gY (by omega) rfl rfl (by simpa using aA HPx) ?_)
   | (gi_at_builtin; refine aEx rfl rfl gY rfl (aQ (aA HB).2.1 ((Ext.refl W).alloc _)) rfl (Reads.newD _ _ _ (aA HPx) rfl) (bP.u8 p) (by omega) (by have := (aA HB).2.2.2.2; simp; omega) ?_; intro A' c' w4 ho hc4; have H4 := hide (And.intro ho hc4); have cb4 := Chg.cellv hc4 (dS W (.cells (p.map u8v).toArray 23) cb) (fun e => by have := ((aA HB).2.1.lt _ e).1; simp at this); have fb4 := (((aA HB).1.alloc (.cells (p.map u8v).toArray 23)).chg hc4 (fun e => by have := ((aA HB).2.1.lt _ e).1; omega)).frozen 0; clear ho hc4))
  refine ⟨?_, ?_, A', c', ?_, ?_⟩
  ·exact ((((Ext.refl W).alloc _).chg (S := fun k => k = w.heap.size + 1 ∨ w.heap.size + 4 ≤ k)).trans ((aA H4).2.mono (fun k _ hk => .inr ((aA HB).2.1.lt k hk).1))).setCell (p := ⟨w.heap.size + 1, 0, none⟩) (.inl (.inl rfl)) _
  ·exact (((KeepsOthers.alloc W _).from _).trans (aTo (aQ (aA HB).2.1 ((Ext.refl W).alloc _)) (aA H4).2)).trans ((KeepsOthers.setCell _ _ _).from _)
  ·have := (((aA HB).1.alloc (.cells (p.map u8v).toArray 23)).chg (aA H4).2 (fun e => by have := ((aA HB).2.1.lt _ e).1; omega)).set_ 0 (.slice A' (pre.length + 1) c')
   rw [List.length_append]
   exact this
  ·rw [aA HQ, List.length_append]
   refine dB (aA H4).1 (Chg.setCell (Chg.refl (fun k => k = w.heap.size + 1) w4) (p := ⟨w.heap.size + 1, 0, none⟩) (.inl rfl) _) (fun k hk => ?_)
   have := ((aA H4).1.lt k hk).1
   omega
 case done =>
  rintro D W hD hc ⟨A, c, hb, ho⟩ hK
  rw [aA HF] at ho
  rw [List.length_finRange] at hb ho
  have cb : W.cell? ⟨w.heap.size + 1, 0, none⟩ = some (.slice A n c) := by rw [hb.cell]; rfl
  have HB := hide (And.intro ho (And.intro hc hK))
  have hDw : w.heap.size + 4 ≤ D := by have := (aA HW).2.2.2.2; omega
  clear hb ho hc hK
  go_wp2
  refine aCb rfl (aA HB).2.2 (results_tmp rfl _ _ _) ?_
  have hE : Ext w W := (aA HW).1.trans' (aA HB).2.1 (fun _ _ h => h) (fun i hi e => by omega)
  exact ⟨A, c, rfl, ownsRow_base (ownsRow_putObj (aA HB).1 _ (aA HB).2.2 rfl) (by omega), aA H16, vU _ hE (by omega), Nat.le_refl _, by have := (vU (D := D) (.deferred none) hE (by omega)).size'; exact this⟩
end Go.Proofs.YtihghljfmlbfhaaGreatDoor
namespace Go.Proofs.YtihghljfmlbfhaaGreatDoor
open Go.RowKit
theorem aNy (m : List UInt8) (k : Nat) (w : World) (hm : m.length = 16) (hk : k < 64) :
  Calls Tryz.prog 67 #[.agg (m.map u8v).toArray, .int .i64 (k : Int)] w fun e w' => e = .returned (.int .i64 ((dig m k : Nat) : Int)) ∧ Ext w w' := by
 obtain ⟨arr, harr⟩ : ∃ r, (m.map u8v).toArray = r := ⟨_, rfl⟩
 have cm : ∀ t, (w.alloc (.cells arr t)).cell? ⟨w.heap.size, k / 4, none⟩ = some (.int .u8 ((m.getD (k / 4) 0).toNat : Int)) := fun t => by
  rw [(Blk.new w _ _).cell, ← harr, List.getElem?_toArray, List.getElem?_map, zG, zH (by omega)]
  rfl
 have HD : Hid (dig m k = (m.getD (k / 4) 0).toNat / 4 ^ (3 - k % 4) % 4) := hide rfl
 rw [harr]
 generalize m.getD (k / 4) 0 = x at *
 have hx := x.toNat_lt
 clear harr hm
 go_enter Tryz.func67, Tryz.ntmps67
 have cm1 := cm 23
 clear cm
 go_wp2_with fail
 go_loop [5, 6] (fun n i => ∃ j : Nat, k % 4 ≤ j ∧ j ≤ 3 ∧ i = .int .i64 j ∧ n = .int .i64 ((x.toNat / 4 ^ (j - k % 4) : Nat) : Int)) (fun _ i => 3 - (intOf i).toNat)
 case atStart => exact ⟨k % 4, Nat.le_refl _, by omega, int_eq (by omega), int_eq (by simp)⟩
 case round =>
  clear cm1
  obtain ⟨j, hj1, hj, rfl, rfl⟩ := hrel
  by_cases hlt : j < 3
  ·have HS := hide (show x.toNat / 4 ^ (j + 1 - k % 4) = x.toNat / 4 ^ (j - k % 4) / 4 from by rw [show j + 1 - k % 4 = (j - k % 4) + 1 from by omega, Nat.pow_succ, Nat.div_div_eq_div_mul])
   have hy : x.toNat / 4 ^ (j - k % 4) ≤ x.toNat := Nat.div_le_self _ _
   generalize x.toNat / 4 ^ (j - k % 4) = y at *
   go_wp2
   go_round
   case rel => exact ⟨j + 1, by omega, by omega, by go_num, int_eq (by rw [aA HS]; first | omega | (unfold wrap64; omega))⟩
   case measure => simp [intOf]; omega
  ·obtain rfl : j = 3 := by omega
   generalize x.toNat / 4 ^ (3 - k % 4) = y at *
   go_wp2
   go_ret
   exact ⟨pF (by rw [aA HD]; simp), (Ext.refl w).alloc _⟩
theorem aJr (m : List UInt8) : fH (digC m) 68 = fH (dig m) 64 ++ [.int .i64 ((chk m : Int) / 64), .int .i64 ((chk m : Int) / 16 % 4), .int .i64 ((chk m : Int) / 4 % 4), .int .i64 ((chk m : Int) % 4)] := by
 have h := aVt m
 have e64 : fH (digC m) 64 = fH (dig m) 64 := nK fun j hj => by unfold digC; rw [if_pos hj]
 have e4 : digC m 64 = chk m / 64 % 4 := rfl
 have e5 : digC m 65 = chk m / 16 % 4 := rfl
 have e6 : digC m 66 = chk m / 4 % 4 := rfl
 have e7 : digC m 67 = chk m / 1 % 4 := rfl
 rw [mD, mD, mD, mD, e64, e4, e5, e6, e7]
 simp only [List.append_assoc, List.cons_append, List.nil_append]
 congr 2
 ·congr 1; omega
 ·simp
structure GI (w0 : World) (B : Nat) (v : Value) (n : Nat) (l : List Value) (wr : World) : Prop where
 own : wr.ownsRow B 3 1 v n l
 ext : Ext w0 wr
 base : w0.heap.size ≤ B
 room : B ≤ wr.heap.size
theorem GI.nil {w0 wr : World} {B : Nat} (hE : Ext w0 wr) (hB : w0.heap.size ≤ B) (hR : B ≤ wr.heap.size) : GI w0 B (.slice none 0 0) 0 [] wr := ⟨World.ownsRow_nil _ _ _ _, hE, hB, hR⟩
theorem GI.to {w0 wr w1 : World} {B n : Nat} {v : Value} {l : List Value} (h : GI w0 B v n l wr) (hE : Ext wr w1) : GI w0 B v n l w1 := ⟨aQ h.own hE, h.ext.trans hE, h.base, Nat.le_trans h.room hE.size'⟩
theorem GI.step {w0 wr w1 w2 : World} {B n n' : Nat} {v v' : Value} {l l' : List Value} (h : GI w0 B v n l wr) (hE : Ext wr w1) (hc : Chg (fun k => v.ownBlock = some k) w1 w2) (ho : w2.ownsRow B 3 1 v' n' l') : GI w0 B v' n' l' w2 :=
 ⟨ho, (h.ext.trans hE).trans' hc (fun _ _ h => h) (fun i hi e => by have := (h.own.lt i e).1; have := h.base; omega), h.base, Nat.le_trans h.room (Nat.le_trans hE.size' hc.size)⟩
theorem GI.blk {w0 wr w1 w2 : World} {B n : Nat} {v : Value} {l : List Value} (h : GI w0 B v n l wr) (hE : Ext wr w1) (hc : Chg (fun k => v.ownBlock = some k) w1 w2) {g : Nat} {t : TypeId} {cs : Array Value} (hb : Blk wr g t cs) (hg : g < B) : Blk w2 g t cs :=
 (hb.ext hE).chg hc (fun e => by have := (h.own.lt g e).1; omega)
theorem GI.reads {w0 wr : World} {B n : Nat} {v : Value} {l : List Value} (h : GI w0 B v n l wr) : Reads wr 1 v n l := Reads.of_own h.own
theorem aTr : SlTy Tryz.prog 110 3 1 8 := SlTy.mk' (z := .int .i64 0) (by kernel_rfl) (by kernel_rfl) rfl (by omega) (by omega)
theorem zL (m : List UInt8) (w : World) (hm : m.length = 16) :
  Calls Tryz.prog 50 #[.agg (m.map u8v).toArray] w fun e w' => ∃ A c, e = .returned (.slice A 68 c) ∧ Reads w' 1 (.slice A 68 c) 68 (fH (digC m) 68) ∧ Ext w w' := by
 have HD := hide (fun k (hk : k < 64) (W : World) => aNy m k W hm hk)
 have H4 := hide (aJr m)
 have hch := aVt m
 have HL := hide (fun k => sumTo_le m k)
 have HC := hide (show sumTo m 64 = chk m from rfl)
 obtain ⟨arr, harr⟩ : ∃ r, (m.map u8v).toArray = r := ⟨_, rfl⟩
 rw [harr] at HD ⊢
 have hasz : arr.size = 16 := by rw [← harr]; simpa using hm
 clear harr hm
 go_enter Tryz.func50, Tryz.ntmps50
 go_wp2_with fail
 go_loopw [3, 4, 5] (fun b s i wr => ∃ (k : Nat) (A : Option Addr) (c : Nat), k ≤ 64 ∧ i = .int .i64 k ∧ s = .int .i64 ((sumTo m k : Nat) : Int) ∧ b = .slice A k c ∧ Hid (GI w (w.heap.size + 1) (.slice A k c) k (fH (dig m) k) wr ∧ Blk wr w.heap.size 23 arr)) (fun _ _ i _ => 64 - (intOf i).toNat)
 case atStart => exact ⟨0, none, 0, by omega, rfl, rfl, rfl, hide ⟨GI.nil ((Ext.refl w).alloc _) (by omega) (by simp), Blk.new w _ _⟩⟩
 case round =>
  obtain ⟨k, A, c, hk, rfl, rfl, rfl, HI⟩ := hrel
  by_cases hlt : k < 64
  ·have HDk := hide (aA HD k hlt)
   have HS := hide (mD (dig m) k)
   have HT := hide (show sumTo m (k + 1) = sumTo m k + (3 - dig m k) from rfl)
   have hd := aUz m k
   have hs := aA HL k
   generalize dig m k = d at *
   generalize sumTo m k = s at *
   have hkI : (k : Int) < 64 := by omega
   go_wp2_with (first
    | (refine aZ (ty := 23) (t := 23) (x := .tmp 1) rfl rfl aC rfl (aA HI).2 hasz ?_)
    | (go_at_call 67; refine (aA HDk _).mono ?_; rintro e w2 ⟨rfl, hE2⟩; have H2 := hide hE2; clear hE2)
    | (at_builtin; refine aU rfl rfl aTr rfl ((aA HI).1.to ((aA H2).alloc _)).own rfl (Reads.new1 _ _ _) (bP.one rfl) (by omega) ((aA HI).1.to ((aA H2).alloc _)).room ?_; intro A' c' w3 ho hc hv; have H3 := hide (And.intro ((aA HI).1.step ((aA H2).alloc _) hc (l' := fH (dig m) k ++ [.int .i64 (d : Int)]) ho) ((aA HI).1.blk ((aA H2).alloc _) hc (aA HI).2 (by omega))); clear ho hc hv)
    | (refine aZ (ty := 23) (t := 23) (x := .tmp 1) rfl rfl aC rfl (aA H3).2 hasz ?_))
   go_roundw
   case rel => exact ⟨k + 1, A', c', by omega, by go_num, int_eq (by rw [aA HT]; omega), rfl, hide ⟨by rw [aA HS]; exact (aA H3).1.to (aA H2), (aA H3).2.ext (aA H2)⟩⟩
   case measure => simp [intOf]; omega
  ·obtain rfl : k = 64 := by omega
   rw [aA HC]
   generalize chk m = ch at *
   go_wp2_with (at_builtin; refine aU rfl rfl aTr rfl ((aA HI).1.to ((Ext.refl wr).alloc _)).own rfl (Reads.of_blk (Blk.new _ _ #[.int .i64 ((ch : Int) / 64), .int .i64 ((ch : Int) / 16 % 4), .int .i64 ((ch : Int) / 4 % 4), .int .i64 ((ch : Int) % 4)]) (i := 0) (n := 4) (c := 4) (by simp) (by omega) (by unfold maxLen; omega)) ?_ (by omega) ((aA HI).1.to ((Ext.refl wr).alloc _)).room ?_; (focus (intro u hu; simp at hu; rcases hu with rfl | rfl | rfl | rfl <;> rfl)); intro A' c' w3 ho hc hv; have H3 := hide ((aA HI).1.step ((Ext.refl wr).alloc _) hc (l' := fH (digC m) 68) (by rw [aA H4]; exact ho)); clear ho hc hv)
   go_ret
   exact ⟨A', c', rfl, (aA H3).reads, (aA H3).ext⟩
theorem xH (d : List UInt8) (w : World) (hd : d.length = 16) :
  Calls Tryz.prog 51 #[.agg (d.map u8v).toArray] w fun e w' => ∃ A c, e = .returned (.slice A d.length c) ∧ Reads w' 1 (.slice A d.length c) d.length (d.map u8v) ∧ Ext w w' := by
 obtain ⟨arr, harr⟩ : ∃ r, (d.map u8v).toArray = r := ⟨_, rfl⟩
 have HA := hide harr
 rw [harr]
 rw [hd]
 clear harr
 go_enter Tryz.func51, Tryz.ntmps51
 go_wp2_with fail
 go_loopw [3, 4] (fun b i wr => ∃ (k : Nat) (A : Option Addr) (c : Nat), k ≤ 16 ∧ i = .int .i64 k ∧ b = .slice A k c ∧ Hid (GB w (w.heap.size + 1) (.slice A k c) k (d.take k) wr ∧ Blk wr w.heap.size 23 arr)) (fun _ i _ => 16 - (intOf i).toNat)
 case atStart => exact ⟨0, none, 0, by omega, rfl, rfl, hide ⟨GB.nil ((Ext.refl w).alloc _) (by omega) (by simp), Blk.new w _ _⟩⟩
 case round =>
  obtain ⟨k, A, c, hk, rfl, rfl, HI⟩ := hrel
  by_cases hlt : k < 16
  ·have hc : wr.cell? ⟨w.heap.size, k, none⟩ = some (u8v (d[k]'(by omega))) := by
    rw [(aA HI).2.cell, ← aA HA, List.getElem?_toArray, List.getElem?_map, zH (by omega)]
    rfl
   have HS := hide (jB d k (by omega))
   generalize d[k]'(by omega) = x at *
   unfold u8v at hc
   have hkI : (k : Int) < 16 := by omega
   go_wp2_with (at_builtin; refine aU rfl rfl eG rfl ((aA HI).1.to ((Ext.refl wr).alloc _)).own rfl (Reads.new1 _ _ _) (bP.one rfl) (by omega) ((aA HI).1.to ((Ext.refl wr).alloc _)).room ?_; intro A' c' w3 ho hc3 hv; have H3 := hide (And.intro ho hc3); clear ho hc3 hv)
   go_roundw
   case rel => exact ⟨k + 1, A', c', by omega, by go_num, rfl, hide ⟨(aA HI).1.step ((Ext.refl wr).alloc _) (aA H3).2 (by rw [aA HS, List.map_append]; exact (aA H3).1), (aA HI).1.blk ((Ext.refl wr).alloc _) (aA H3).2 (aA HI).2 (by omega)⟩⟩
   case measure => simp [intOf]; omega
  ·obtain rfl : k = 16 := by omega
   have hX := (aA HI).1.reads
   rw [List.take_of_length_le (by omega)] at hX
   have HX := hide hX
   clear hX
   go_wp2
   go_ret
   exact ⟨A, c, rfl, aA HX, (aA HI).1.ext⟩
def S2 (w : World) (v : Array Value) (W : World) : Prop := Ext w W ∧ Blk W w.heap.size 23 v ∧ ∃ cs : Array Value, cs.size = 16 ∧ Blk W (w.heap.size + 1) 23 cs
theorem S2.ext {w : World} {v : Array Value} {W W' : World} (h : S2 w v W) (hE : Ext W W') : S2 w v W' := ⟨h.1.trans hE, h.2.1.ext hE, h.2.2.imp fun _ k => ⟨k.1, k.2.ext hE⟩⟩
theorem S2.new (w : World) (v : Array Value) : S2 w v ((w.alloc (.cells v 23)).alloc (.cells (Array.replicate 16 (.int .u8 0)) 23)) := ⟨((Ext.refl w).alloc _).alloc _, (Blk.new w _ _).alloc _, _, rfl, Blk.new' _ _ _ (by simp)⟩
theorem S2.store {w : World} {v cs : Array Value} {W W' : World} (h : S2 w v W) (hb : Blk W' (w.heap.size + 1) 23 cs) (hc : Chg (fun k => k = w.heap.size + 1) W W') (hs : cs.size = 16) : S2 w v W' :=
 ⟨h.1.trans' hc (fun _ _ h => h) (fun i hi e => by omega), h.2.1.chg hc (by omega), _, hs, hb⟩
theorem aRd (k : Nat) (v : List UInt8) (w : World) (hv : v.length = 16) (hk : k < 1000) :
  Calls Tryz.prog 68 #[.int .i64 (k : Int), .agg (v.map u8v).toArray] w fun e w' => e = .returned (.agg ((stepS k v).map u8v).toArray) ∧ Ext w w' := by
 have HW := hide (fun w => xK (k : Int) w (by omega) (by omega))
 have HRw := hide (fun w => xH v w hv)
 have HD := hide (fun (W : World) (A A' : Option Addr) (c c' : Nat) (pv : Value) (h1 : Reads W 1 pv 2 [.slice A (wInt k).length c, .slice A' v.length c']) (h2 : Reads W 1 (.slice A (wInt k).length c) (wInt k).length ((wInt k).map u8v)) (h3 : Reads W 1 (.slice A' v.length c') v.length (v.map u8v)) =>
  jK 3 [wInt k, v] pv W (Parts.two h1 h2 h3) (by simp) (fun p hp => by have := gQ (k : Int); simp at hp; rcases hp with rfl | rfl <;> omega))
 obtain ⟨arr, harr⟩ : ∃ r, (v.map u8v).toArray = r := ⟨_, rfl⟩
 rw [harr] at HRw ⊢
 have hasz : arr.size = 16 := by rw [← harr]; simpa using hv
 obtain ⟨res, hres⟩ : ∃ r, stepS k v = r := ⟨_, rfl⟩
 have HR := hide (And.intro hres (show res.length = 16 from by rw [← hres]; exact bY _ _))
 rw [hres]
 clear harr hres hv
 have HZ := hide (S2.new w arr)
 go_enter Tryz.func68, Tryz.ntmps68
 go_upto_region 1 with fail
 refine wp_region_held_drew (S := S2 w arr) (by kernel_rfl) ((aA HZ).ext ((Ext.refl _).drew)) (fun hHeld => ?_)
 refine wpAnyH_take (i := 0) (v := ?_) rfl (by kernel_rfl) (by kernel_rfl) (by kernel_rfl) (fun _ _ _ h => h) (Or.inl ⟨by rfl, fun wz hSz => ?_⟩) (by assumption) ?_
 rotate_left
 ·(first | (go_simp; done) | (go_simp; with_reducible rfl))
 try simp only [Act.put, zA, zB, zC, zD, zF]
 refine wpAnyH_take (i := 2) (v := _) rfl (by kernel_rfl) (by kernel_rfl) (by kernel_rfl) (fun _ _ _ h => h) (ylb aC rfl (by rfl) rfl hasz (fun w' hw => hw.2.1)) (by assumption) ?_
 try simp only [Act.put, zA, zB, zC, zD, zE, zF]
 refine wpAnyH_ready (rs := [1]) (by kernel_rfl) (by simp) (AllReadyH.cons (o := _) rfl (fun K hK => ?_) AllReadyH.nil)
 try go_simp
 (refine (aA HW _).mono ?_; rintro e w3 ⟨A3, c3, rfl, ho3, hE3⟩; have hS := hHeld.ext hE3; have H3 := hide (Reads.of_own ho3); clear hHeld hE3 ho3)
 refine hK.out _ _ ?_ (fun hHeld => ?_)
 ·exact hS
 clear hK K
 try simp only [Act.put, zA, zB, zC, zD, zE, zF]
 refine wpAnyH_ready (rs := [3]) (by kernel_rfl) (by simp) (AllReadyH.cons (o := _) rfl (fun K hK => ?_) AllReadyH.nil)
 try go_simp
 (refine (aA HRw _).mono ?_; rintro e w4 ⟨A4, c4, rfl, ho4, hE4⟩; have hS := hHeld.ext hE4; have H4 := hide (And.intro ((aA H3).ext hE4) ho4); clear hHeld hE4 ho4 H3)
 refine hK.out _ _ ?_ (fun hHeld => ?_)
 ·exact hS
 clear hK K
 try simp only [Act.put, zA, zB, zC, zD, zE, zF]
 refine wpAnyH_ready (rs := [4]) (by kernel_rfl) (by simp) (AllReadyH.cons (o := _) rfl (fun K hK => ?_) AllReadyH.nil)
 try go_simp
 (have hS := hHeld.ext ((Ext.refl w4).alloc (.cells #[.slice A3 (wInt k).length c3, .slice A4 v.length c4] 40)); clear hHeld)
 refine hK.out _ _ ?_ (fun hHeld => ?_)
 ·exact hS
 clear hK K
 try simp only [Act.put, zA, zB, zC, zD, zE, zF]
 refine wpAnyH_ready (rs := [5]) (by kernel_rfl) (by simp) (AllReadyH.cons (o := _) rfl (fun K hK => ?_) AllReadyH.nil)
 try go_simp
 (refine (aA HD _ A3 A4 c3 c4 _ (Reads.new2 _ _ _ _ rfl) ((aA H4).1.ext ((Ext.refl _).alloc _)) ((aA H4).2.ext ((Ext.refl _).alloc _))).mono ?_; rintro e w5 ⟨rfl, hE5⟩; rw [show fP 3 [wInt k, v] = res from (aA HR).1]; have hS := hHeld.ext hE5; clear hHeld hE5)
 refine hK.out _ _ ?_ (fun hHeld => ?_)
 ·exact hS
 clear hK K
 try simp only [Act.put, zA, zB, zC, zD, zE, zF]
 obtain ⟨cs, hcs, hBk⟩ := hHeld.2.2
 refine wpAnyH_ready (rs := [6]) (by kernel_rfl) (by simp) (AllReadyH.cons (o := _) rfl (fun K hK => ?_) AllReadyH.nil)
 (refine eP (ty := 23) (t := 23) (x := .tmp 4) (y := .tmp 10) rfl rfl aC rfl rfl hBk hcs (by simpa using (aA HR).2) (bG _) ?_; intro w7 hb7 hc7 hz7; have hS := hHeld.store hb7 hc7 (by simpa using (aA HR).2); have H7 := hide hb7; clear hb7 hc7 hz7 hHeld)
 refine hK.out _ _ ?_ (fun hHeld => ?_)
 ·exact hS
 clear hK K
 try simp only [Act.put, zD, zE, zF]
 refine wpAnyH_done (by kernel_rfl) ?_ _
 have H8 := hide hHeld.1
 go_wp2
 refine bodyPost_ret (v := .agg (res.map u8v).toArray) (aX aC rfl (aA H7) (by simpa using (aA HR).2) rfl) rfl ⟨rfl, aA H8⟩
theorem aDn (k n : Nat) (v : List UInt8) (w : World) (hv : v.length = 16) (hk : k < 1000) (hn : n < 1000) :
  Calls Tryz.prog 52 #[.int .i64 (k : Int), .agg (v.map u8v).toArray, .int .i64 (n : Int)] w fun e w' => e = .returned (.agg ((advS k v n).map u8v).toArray) ∧ Ext w w' := by
 have HD := hide (fun (j : Nat) (W : World) => aRd k (advS k v j) W (fQ k v hv j) hk)
 have HL := hide (fQ k v hv)
 have HS := hide (fun j => show stepS k (advS k v j) = advS k v (j + 1) from rfl)
 obtain ⟨F, hF⟩ : ∃ F, advS k v = F := ⟨_, rfl⟩
 rw [hF] at HD HL HS ⊢
 have h0 : F 0 = v := by rw [← hF]; rfl
 go_enter Tryz.func52, Tryz.ntmps52
 go_wp2_with fail
 go_loopw [7] (fun i wr => ∃ j : Nat, j ≤ n ∧ i = .int .i64 j ∧ Hid (Blk wr w.heap.size 23 ((F j).map u8v).toArray ∧ Blk wr (w.heap.size + 1) 23 (Array.replicate 16 (.int .u8 0)) ∧ Ext w wr)) (fun i _ => n - (intOf i).toNat)
 case atStart => exact ⟨0, by omega, rfl, hide ⟨by rw [h0]; exact (Blk.new w _ _).alloc _, Blk.new' _ _ _ (by simp), ((Ext.refl w).alloc _).alloc _⟩⟩
 case round =>
  obtain ⟨j, hj, rfl, HI⟩ := hrel
  by_cases hlt : j < n
  ·have HJ := hide (aA HS j)
   have HL1 := hide (aA HL (j + 1))
   have HLj := hide (aA HL j)
   have HDj := hide (aA HD j)
   rw [aA HJ] at HDj
   go_wp2_with (first
    | (refine aZ (ty := 23) (t := 23) (x := .tmp 4) rfl rfl aC rfl (aA HI).1 (by simpa using aA HLj) ?_)
    | (go_at_call 68; refine (aA HDj _).mono ?_; rintro e w5 ⟨rfl, hE5⟩; have H5 := hide hE5; clear hE5)
    | (refine aH (ty := 23) (t := 23) (x := .tmp 4) (y := .tmp 15) rfl rfl aC rfl rfl ((aA HI).1.ext (aA H5)) (by simpa using aA HLj) (by simpa using aA HL1) (bG _) ?_; intro w6 hb6 hc6 hz6; have H6 := hide (And.intro hb6 hc6); clear hb6 hc6 hz6))
   go_roundw
   case rel => exact ⟨j + 1, by omega, by go_num, hide ⟨(aA H6).1, ((aA HI).2.1.ext (aA H5)).chg (aA H6).2 (by omega), ((aA HI).2.2.trans (aA H5)).trans' (aA H6).2 (fun _ _ h => h) (fun i hi e => by omega)⟩⟩
   case measure => simp [intOf]; omega
  ·obtain rfl : j = n := by omega
   go_wp2_with (first
    | (refine aZ (ty := 23) (t := 23) (x := .tmp 4) rfl rfl aC rfl (aA HI).1 (by simpa using aA HL j) ?_)
    | (refine aH (ty := 23) (t := 23) (x := .tmp 6) (y := .tmp 16) rfl rfl aC rfl rfl (aA HI).2.1 rfl (by simpa using aA HL j) (bG _) ?_; intro w7 hb7 hc7 hz7; have H7 := hide (And.intro hb7 hc7); clear hb7 hc7 hz7))
   refine bodyPost_ret (v := .agg ((F j).map u8v).toArray) (aX aC rfl (aA H7).1 (by simpa using aA HL j) rfl) rfl ⟨rfl, ?_⟩
   exact (aA HI).2.2.trans' (aA H7).2 (fun _ _ h => h) (fun i hi e => by omega)
theorem aBs (k : Nat) (seed : List UInt8) (index : Int) (w : World) (hv : seed.length = 16) (hk : k < 1000) (h1 : -9223372036854775808 ≤ index) (h2 : index < 9223372036854775808) :
    Calls Tryz.prog 66 #[.agg (seed.map u8v).toArray, .int .i64 index, .int .i64 (k : Int)] w fun e w' => e = .returned (.agg ((gX seed index k).map u8v).toArray) ∧ Ext w w' := by
  have HW := hide (fun w => xK index w h1 h2)
  have HW2 := hide (fun w => xK (k : Int) w (by omega) (by omega))
  have HRw := hide (fun w => xH seed w hv)
  have HD := hide (fun (W : World) (A A' A0 : Option Addr) (c c' c0 : Nat) (pv : Value) (h1 : Reads W 1 pv 2 [.slice A (wInt index).length c, .slice A' (wInt k).length c']) (h2 : Reads W 1 (.slice A (wInt index).length c) (wInt index).length ((wInt index).map u8v)) (h2' : Reads W 1 (.slice A' (wInt k).length c') (wInt k).length ((wInt k).map u8v)) (h3 : Reads W 1 (.slice A0 seed.length c0) seed.length (seed.map u8v)) =>
    aIx seed (.slice A0 seed.length c0) ⟨#[119, 111, 116, 115]⟩ [wInt index, wInt k] pv W h3 (by omega) (by decide) (Parts.two h1 h2 h2') (by simp) (fun p hp => by have := gQ (k : Int); have := gQ index; simp at hp; rcases hp with rfl | rfl <;> omega))
  obtain ⟨arr, harr⟩ : ∃ r, (seed.map u8v).toArray = r := ⟨_, rfl⟩
  rw [harr] at HRw ⊢
  have hasz : arr.size = 16 := by rw [← harr]; simpa using hv
  obtain ⟨res, hres⟩ : ∃ r, gX seed index k = r := ⟨_, rfl⟩
  have HR := hide (And.intro hres (show res.length = 16 from by rw [← hres]; exact dO _ _ _))
  rw [hres]
  clear harr hres h1 h2 hv
  have HT := hide True.intro
  have HZ := hide (S2.new w arr)
  go_enter Tryz.func66, Tryz.ntmps66
  go_wp2_with (first
    | (refine aZ (ty := 23) (t := 23) (x := .tmp 3) rfl rfl aC rfl (aA HZ).2.1 hasz ?_)
    | (go_at_call 51; refine (aA HRw _).mono ?_; rintro e w0 ⟨A0, c0, rfl, ho0, hE0⟩; have H0 := hide (And.intro ho0 ((aA HZ).ext hE0)); clear ho0 hE0)
    | (clear HT; go_at_call 88; refine (aA HW _).mono ?_; rintro e w3 ⟨A3, c3, rfl, ho3, hE3⟩; have H3 := hide (And.intro ((aA H0).1.ext hE3) (And.intro (Reads.of_own ho3) ((aA H0).2.ext hE3))); clear ho3 hE3)
    | (go_at_call 88; refine (aA HW2 _).mono ?_; rintro e w4 ⟨A4, c4, rfl, ho4, hE4⟩; have H4 := hide (And.intro ((aA H3).1.ext hE4) (And.intro ((aA H3).2.1.ext hE4) (And.intro (Reads.of_own ho4) ((aA H3).2.2.ext hE4)))); clear ho4 hE4)
    | (go_at_call 91; refine (aA HD _ A3 A4 A0 c3 c4 c0 _ (Reads.new2 _ _ _ _ rfl) ((aA H4).2.1.ext ((Ext.refl _).alloc _)) ((aA H4).2.2.1.ext ((Ext.refl _).alloc _)) ((aA H4).1.ext ((Ext.refl _).alloc _))).mono ?_; rintro e w5 ⟨rfl, hE5⟩; rw [show rH seed (⟨#[119, 111, 116, 115]⟩ : ByteArray).data.toList [wInt index, wInt k] = res from (aA HR).1]; have H5 := hide ((aA H4).2.2.2.ext (((Ext.refl w4).alloc _).trans hE5)); clear hE5
       obtain ⟨cs, hcs, hBk⟩ := (aA H5).2.2
       have HBk := hide (And.intro hcs hBk)
       clear hcs hBk)
    | (refine aH (ty := 23) (t := 23) (x := .tmp 6) (y := .tmp 14) rfl rfl aC rfl rfl (aA HBk).2 (aA HBk).1 (by simpa using (aA HR).2) (bG _) ?_; intro w6 hb6 hc6 hz6; have H6 := hide (And.intro hb6 hc6); clear hb6 hc6 hz6))
  refine bodyPost_ret (v := .agg (res.map u8v).toArray) (aX aC rfl (aA H6).1 (by simpa using (aA HR).2) rfl) rfl ⟨rfl, ?_⟩
  exact (aA H5).1.trans' (aA H6).2 (fun _ _ h => h) (fun i hi e => by omega)
theorem aIo (seed : List UInt8) (index : Int) (w : World) (hv : seed.length = 16) (h1 : -9223372036854775808 ≤ index) (h2 : index < 9223372036854775808) :
  Calls Tryz.prog 49 #[.agg (seed.map u8v).toArray, .int .i64 index] w fun e w' => e = .returned (.agg ((dQ seed index).map u8v).toArray) ∧ Ext w w' := by
 have HS := hide (fun k (hk : k < 68) (W : World) => aBs k seed index W hv (by omega) h1 h2)
 have HA := hide (fun k (hk : k < 68) (W : World) => aDn k 3 (gX seed index k) W (dO _ _ _) (by omega) (by omega))
 have HW := hide (fun k (W : World) => xH (advS k (gX seed index k) 3) W (fQ k _ (dO _ _ _) 3))
 have HL := hide (fun k => fQ k _ (dO seed index k) 3)
 have HE := hide (lQ (fun k => advS k (gX seed index k) 3))
 have HEL := hide (kQ (fun k => advS k (gX seed index k) 3) (aA HL) 68)
 have HP := hide (show fP 4 [mG (fun k => advS k (gX seed index k) 3) 68] = dQ seed index ∧ (dQ seed index).length = 16 from ⟨rfl, bY _ _⟩)
 obtain ⟨F, hF⟩ : ∃ F, mG (fun k => advS k (gX seed index k) 3) = F := ⟨_, rfl⟩
 have hF0 : F 0 = [] := by rw [← hF]; rfl
 rw [hF] at HE HEL HP
 obtain ⟨arr, harr⟩ : ∃ r, (seed.map u8v).toArray = r := ⟨_, rfl⟩
 rw [harr] at HS ⊢
 have hasz : arr.size = 16 := by rw [← harr]; simpa using hv
 obtain ⟨res, hres⟩ : ∃ r, dQ seed index = r := ⟨_, rfl⟩
 rw [hres] at HP ⊢
 have HD := hide (fun (W : World) (A : Option Addr) (c : Nat) (pv : Value) (h1 : Reads W 1 pv 1 [.slice A (F 68).length c]) (h2 : Reads W 1 (.slice A (F 68).length c) (F 68).length ((F 68).map u8v)) =>
  jK 4 [F 68] pv W (Parts.one h1 h2) (by simp) (fun p hp => by have := aA HEL; simp at hp; subst hp; omega))
 clear harr hres hF hv h1 h2
 have HZ := hide (S2.new w arr)
 go_enter Tryz.func49, Tryz.ntmps49
 go_wp2_with fail
 go_loopw [5, 6] (fun b i wr => ∃ (k : Nat) (A : Option Addr) (c : Nat), k ≤ 68 ∧ i = .int .i64 k ∧ b = .slice A (16 * k) c ∧ Hid (GB w (w.heap.size + 2) b (16 * k) (F k) wr ∧ Blk wr w.heap.size 23 arr ∧ Blk wr (w.heap.size + 1) 23 (Array.replicate 16 (.int .u8 0)))) (fun _ i _ => 68 - (intOf i).toNat)
 case atStart => exact ⟨0, none, 0, by omega, rfl, rfl, hide ⟨by rw [hF0]; exact GB.nil (aA HZ).1 (by omega) (by simp), (aA HZ).2.1, Blk.new' _ _ _ (by simp)⟩⟩
 case round =>
  clear HZ
  obtain ⟨k, A, c, hk, rfl, rfl, HI⟩ := hrel
  by_cases hlt : k < 68
  ·have HSk := hide (aA HS k hlt)
   have HAk := hide (aA HA k hlt)
   have HWk := hide (aA HW k)
   have HLk := hide (aA HL k)
   have HEk := hide (aA HE k)
   generalize hd : advS k (gX seed index k) 3 = d at *
   generalize hst : ((gX seed index k).map u8v).toArray = st at *
   have hkI : (k : Int) < 68 := by omega
   clear hd hst
   go_wp2_with (first
    | (refine aZ (ty := 23) (t := 23) (x := .tmp 2) rfl rfl aC rfl (aA HI).2.1 hasz ?_)
    | (go_at_call 66; refine (aA HSk _).mono ?_; rintro e w2 ⟨rfl, hE2⟩; have H2 := hide hE2; clear hE2)
    | (go_at_call 52; refine (aA HAk _).mono ?_; rintro e w3 ⟨rfl, hE3⟩; have H3 := hide ((aA H2).trans hE3); clear hE3)
    | (go_at_call 51; refine (aA HWk _).mono ?_; rintro e w4 ⟨A4, c4, rfl, ho4, hE4⟩; have H4 := hide (And.intro ho4 ((aA H3).trans hE4)); clear hE4 ho4)
    | (at_builtin; refine aU rfl rfl eG rfl ((aA HI).1.to (aA H4).2).own rfl (aA H4).1 (bP.u8 d) (by have := aA HLk; omega) ((aA HI).1.to (aA H4).2).room ?_; intro A' c' w5 ho hc hv; have H5 := hide (And.intro ho hc); clear ho hc hv))
   go_roundw
   case rel =>
    have e16 : 16 * k + d.length = 16 * (k + 1) := by have := aA HLk; omega
    refine ⟨k + 1, A', c', by omega, by go_num, by rw [e16], hide ⟨?_, (aA HI).1.blk (aA H4).2 (aA H5).2 (aA HI).2.1 (by omega), (aA HI).1.blk (aA H4).2 (aA H5).2 (aA HI).2.2 (by omega)⟩⟩
    have h5 := (aA H5).1
    rw [← List.map_append] at h5
    rw [aA HEk, ← e16]
    exact (aA HI).1.step (aA H4).2 (aA H5).2 h5
   case measure => simp [intOf]; omega
  ·obtain rfl : k = 68 := by omega
   have HX := hide (show GB w (w.heap.size + 2) (.slice A (F 68).length c) (F 68).length (F 68) wr from by rw [aA HEL]; exact (aA HI).1)
   have HZ2 := hide (aA HI).2.2
   have e68 : 16 * 68 = (F 68).length := (aA HEL).symm
   rw [e68]
   clear HI e68
   go_wp2_with (first
    | (go_at_call 45; refine (aA HD _ A c _ (Reads.new1 _ _ _) ((aA HX).reads.ext ((Ext.refl _).alloc _))).mono ?_; rintro e w5 ⟨rfl, hE5⟩; rw [(aA HP).1]; have H5 := hide (((Ext.refl wr).alloc _).trans hE5); clear hE5)
    | (refine aH (ty := 23) (t := 23) (x := .tmp 4) (y := .tmp 22) rfl rfl aC rfl rfl ((aA HZ2).ext (aA H5)) rfl (by simpa using (aA HP).2) (bG _) ?_; intro w7 hb7 hc7 hz7; have H7 := hide (And.intro hb7 hc7); clear hb7 hc7 hz7))
   refine bodyPost_ret (v := .agg (res.map u8v).toArray) (aX aC rfl (aA H7).1 (by simpa using (aA HP).2) rfl) rfl ⟨rfl, ?_⟩
   exact ((aA HX).ext.trans (aA H5)).trans' (aA H7).2 (fun _ _ h => h) (fun i hi e => by omega)
theorem aJk (h : Int) (w : World) (hh : ¬ okH h) : Calls Tryz.prog 19 #[.int .i64 h] w fun e w' => e = .returned (.int .i64 0) ∧ w = w' := by
 unfold okH at hh
 by_cases h1 : h < 0
 ·clear hh
  go_enter Tryz.func19, Tryz.ntmps19
  go_wp2
  go_ret
  exact ⟨rfl, rfl⟩
 ·have h2 : 4 < h := by omega
  clear hh
  go_enter Tryz.func19, Tryz.ntmps19
  go_wp2
  go_ret
  exact ⟨rfl, rfl⟩
theorem rY (j h : Nat) (hj : j ≤ h) (hh : h ≤ 4) : 2 ^ j ≤ 16 := Nat.le_trans (Nat.pow_le_pow_right (by omega) (Nat.le_trans hj hh)) (by omega)
theorem sD (h n : Nat) (hn : n = 2 ^ h) (hh : h ≤ 4) (w : World) : Calls Tryz.prog 19 #[.int .i64 (h : Int)] w fun e w' => e = .returned (.int .i64 (n : Int)) ∧ w = w' := by
 have HN := hide hn
 clear hn
 go_enter Tryz.func19, Tryz.ntmps19
 go_wp2
 go_loop [3, 4] (fun x y => ∃ j q : Nat, j ≤ h ∧ q ≤ 16 ∧ x = .int .i64 q ∧ y = .int .i64 j ∧ Hid (q = 2 ^ j)) (fun _ y => h - (intOf y).toNat)
 case atStart => exact ⟨0, 1, by omega, by omega, rfl, rfl, hide rfl⟩
 case round =>
  obtain ⟨j, q, hj, hq, rfl, rfl, HQ⟩ := hrel
  by_cases hlt : j < h
  ·have hltI : (j : Int) < (h : Int) := by omega
   go_wp2
   go_round
   case rel => exact ⟨j + 1, 2 * q, by omega, by have := rY (j + 1) h (by omega) hh; have := aA HQ; rw [Nat.pow_succ] at *; omega, by go_num, by go_num, hide (by rw [aA HQ, Nat.pow_succ]; omega)⟩
   case measure => simp [intOf]; omega
  ·obtain rfl : j = h := by omega
   obtain rfl : n = q := by rw [aA HN, aA HQ]
   go_wp2
   go_ret
   exact ⟨rfl, rfl⟩
theorem aGc (seed : List UInt8) (h n : Nat) (hn : n = 2 ^ h) (hh : h ≤ 4) (w : World) (hv : seed.length = 16) :
  Calls Tryz.prog 27 #[.agg (seed.map u8v).toArray, .int .i64 (h : Int)] w fun e w' => ∃ A c, e = .returned (.slice A n c) ∧ GD w w.heap.size (.slice A n c) n (cO seed n) w' := by
 have hn16 : n ≤ 16 := by subst hn; exact rY h h (Nat.le_refl _) hh
 have HMn := hide (fun W => sD h n hn hh W)
 have HPb := hide (fun k (hk : k < n) W => aIo seed ((k : Nat) : Int) W hv (by omega) (by omega))
 have HPL := hide (nV seed)
 have HST := hide (aGv seed)
 have HS0 := hide (show cO seed 0 = [] from rfl)
 obtain ⟨arr, harr⟩ : ∃ x, (seed.map u8v).toArray = x := ⟨_, rfl⟩
 have HSZ := hide (show arr.size = 16 from by rw [← harr]; simpa using hv)
 rw [harr] at HPb ⊢
 clear hn hh harr hv
 go_enter Tryz.func27, Tryz.ntmps27
 go_wp2_with fail
 go_loopw [5, 6] (fun b i wr => ∃ (k : Nat) (A : Option Addr) (c : Nat), k ≤ n ∧ i = .int .i64 k ∧ b = .slice A k c ∧ Hid (GD w (w.heap.size + 1) (.slice A k c) k (cO seed k) wr ∧ Blk wr w.heap.size 23 arr)) (fun _ i _ => n - (intOf i).toNat)
 case atStart => exact ⟨0, none, 0, by omega, rfl, rfl, hide ⟨by rw [aA HS0]; exact GD.nil ((Ext.refl w).alloc _) (by omega) (by simp), Blk.new w _ _⟩⟩
 case round =>
  obtain ⟨k, A, c, hk, rfl, rfl, HI⟩ := hrel
  by_cases hlt : k < n
  ·have HP := hide (aA HPb k hlt wr)
   have HL := hide (aA HPL ((k : Nat) : Int))
   have HTk := hide (aA HST k)
   have hltI : (k : Int) < (n : Int) := by omega
   generalize dQ seed ((k : Nat) : Int) = p at *
   go_wp2_with (first
    | (go_at_call 19; refine (aA HMn _).mono ?_; rintro e wz ⟨rfl, rfl⟩)
    | (refine aZ (ty := 23) (t := 23) (x := .tmp 2) rfl rfl aC rfl (cs := arr) (aA HI).2 (aA HSZ) ?_)
    | (go_at_call 49; refine (aA HP).mono ?_; rintro e w3 ⟨rfl, hE3⟩; have H3 := hide hE3; clear hE3)
    | (refine kX (t := 30) (x := .tmp 16) rfl gY (by omega) rfl rfl (by simpa using aA HL) ?_)
    | (at_builtin; refine aU rfl rfl gY rfl ((aA HI).1.to ((aA H3).alloc _)).own rfl (Reads.newD _ _ _ (aA HL) rfl) (bP.u8 p) (by omega) ((aA HI).1.to ((aA H3).alloc _)).room ?_; intro A' c' w4 ho hc4 hv; have H4 := hide (And.intro ho hc4); clear ho hc4 hv))
   go_roundw
   case rel =>
    refine ⟨k + 1, A', c', by omega, by go_num, rfl, hide ⟨by rw [aA HTk]; exact (aA HI).1.step (aA HL) ((aA H3).alloc _) (aA H4).2 (aA H4).1, ?_⟩⟩
    exact ((aA HI).2.ext ((aA H3).alloc _)).chg (aA H4).2 (fun e => by have h5 := ((aA HI).1.own.lt _ e).1; omega)
   case measure => simp [intOf]; omega
  ·obtain rfl : k = n := by omega
   go_wp2_with (go_at_call 19; refine (aA HMn _).mono ?_; rintro e wz ⟨rfl, rfl⟩)
   go_ret
   exact ⟨A, c, rfl, ⟨ownsRow_base (aA HI).1.own (by omega), (aA HI).1.all, (aA HI).1.ext, Nat.le_refl _, (aA HI).1.ext.size'⟩⟩
theorem aRc (seed : List UInt8) (h : Int) (w : World) (hh : ¬ okH h) :
  Calls Tryz.prog 15 #[.agg (seed.map u8v).toArray, .int .i64 h] w fun e w' => e = .returned (.tuple #[.agg (z16.map u8v).toArray, .int .i64 1]) ∧ Ext w w' := by
 have HV := hide (fun W => aJk h W hh)
 obtain ⟨arr, harr⟩ : ∃ x, (seed.map u8v).toArray = x := ⟨_, rfl⟩
 rw [harr]
 clear hh harr
 go_enter Tryz.func15, Tryz.ntmps15
 go_wp2_with (go_at_call 19; refine (aA HV _).mono ?_; rintro e wz ⟨rfl, rfl⟩)
 refine bodyPost_ret (v := .tuple #[.agg (z16.map u8v).toArray, .int .i64 1]) (gG aC rfl (Blk.new' _ _ _ (by simp)) rfl rfl rfl) rfl ⟨rfl, ?_⟩
 exact ((Ext.refl w).alloc _).alloc _
theorem aSl (h : Nat) (hh : h ≤ 4) : okH (h : Int) := ⟨by omega, by omega⟩
theorem aNo (seed : List UInt8) (h n : Nat) (hn : n = 2 ^ h) (hh : h ≤ 4) (w : World) (hv : seed.length = 16)  :
  Calls Tryz.prog 15 #[.agg (seed.map u8v).toArray, .int .i64 (h : Int)] w fun e w' => e = .returned (.tuple #[.agg ((iC (cO seed n)).map u8v).toArray, .int .i64 0]) ∧ Ext w w' := by
 have hn16 : n ≤ 16 := by subst hn; exact rY h h (Nat.le_refl _) hh
 have hn1 : 1 ≤ n := by subst hn; exact Nat.one_le_two_pow
 have HV := hide (fun W => (fun W => sD h n hn hh W) W)
 have HK := hide (fun W (hE : Ext w W) => aGc seed h n hn hh W hv )
 have HG := hide (fun (A : Option Addr) (c : Nat) W (hE : Ext w W) (hD : Digs W (.slice A n c) (cO seed n)) => yU n (cO seed n) (.slice A n c) W  (by rw [fF]; omega) (by rw [fF]; omega) hD)
 have HL := hide (bW (cO seed n))
 obtain ⟨res, hres⟩ : ∃ x, iC (cO seed n) = x := ⟨_, rfl⟩
 rw [hres] at HG HL ⊢
 obtain ⟨arr, harr⟩ : ∃ x, (seed.map u8v).toArray = x := ⟨_, rfl⟩
 have HSZ := hide (show arr.size = 16 from by rw [← harr]; simpa using hv)
 rw [harr] at HK ⊢
 have hnI : ¬ (n : Int) = 0 := by omega
 clear hn hh harr hv hres
 go_enter Tryz.func15, Tryz.ntmps15
 go_wp2_with (first
  | (go_at_call 19; refine (aA HV _).mono ?_; rintro e wz ⟨rfl, rfl⟩)
  | (refine aZ (ty := 23) (t := 23) (x := .tmp 2) rfl rfl aC rfl (cs := arr) ((Blk.new w _ _).alloc _) (aA HSZ) ?_)
  | (go_at_call 27; refine (aA HK _ (((Ext.refl w).alloc _).alloc _)).mono ?_; rintro e w1 ⟨A1, c1, rfl, hG⟩; have H1 := hide (And.intro hG.digs (And.intro ((((Ext.refl w).alloc _).alloc _).trans hG.ext) ((Blk.new' (w.alloc (.cells arr 23)) 23 (Array.replicate 16 (.int .u8 0)) (g := w.heap.size + 1) (by simp)).ext hG.ext))); clear hG)
  | (go_at_call 26; refine (aA HG A1 c1 _ (aA H1).2.1 (aA H1).1).mono ?_; rintro e w2 ⟨rfl, hE2⟩; have H2 := hide (And.intro ((aA H1).2.1.trans hE2) ((aA H1).2.2.ext hE2)); clear hE2)
  | (refine aH (ty := 23) (t := 23) (x := .tmp 4) (y := .tmp 13) rfl rfl aC rfl rfl (aA H2).2 rfl (by simpa using aA HL) (bG _) ?_; intro w7 hb7 hc7 hz7; have H7 := hide (And.intro hb7 hc7); clear hb7 hc7 hz7))
 refine bodyPost_ret (v := .tuple #[.agg (res.map u8v).toArray, .int .i64 0]) (gG aC rfl (aA H7).1 (by simpa using aA HL) rfl rfl) rfl ⟨rfl, ?_⟩
 exact (aA H2).1.trans' (aA H7).2 (fun _ _ h => h) (fun i hi e => by omega)
theorem ret_sl {n m : Nat} {A : Option Addr} {c : Nat} {x : Value} (h : n = m) : Ending.returned (.tuple #[.slice A n c, x]) = .returned (.tuple #[.slice A m c, x]) := by rw [h]
theorem aNq (N : Nat) : ∀ (l : List (List UInt8)) (i : Nat) (v : Value) (w : World), l.length ≤ N → i < l.length → l.length ≤ 1000 → Digs w v l →
  Calls Tryz.prog 59 #[v, .int .i64 (i : Int)] w fun e w' => ∃ A c, e = .returned (.tuple #[.slice A (dI l i).length c, .int .i64 0]) ∧ GD w w.heap.size (.slice A (dI l i).length c) (dI l i).length (dI l i) w' := by
 induction N with
 | zero => intro l i v w h1 h2; omega
 | succ N ih =>
  intro l i v w hN hi h5 hD
  have hi1 : ¬ (i : Int) < 0 := by omega
  have hi2 : ¬ (l.length : Int) ≤ (i : Int) := by omega
  have hi3 : (i : Int) < (l.length : Int) := by omega
  by_cases h1 : l.length = 1
  ·obtain ⟨A, c, rfl, _, _⟩ := hD.form
   have HP := hide (oI l i (by omega))
   rw [h1] at hi2 hi3 ⊢
   obtain ⟨p, hp⟩ : ∃ p, dI l i = p := ⟨_, rfl⟩
   rw [hp] at HP ⊢
   obtain rfl : p = [] := aA HP
   clear hD ih hp HP h1
   go_enter Tryz.func59, Tryz.ntmps59
   go_wp2_with fail
   go_ret2
   exact ⟨none, 0, rfl, GD.nil (Ext.refl _) (Nat.le_refl _) (Nat.le_refl _)⟩
  ·have hb := eY l.length (by omega)
   have HSp := hide (fun W => aBt l.length W (by omega) (by omega))
   obtain ⟨b, o, c, rfl, hc1, hc2, hbl, hL, hRt⟩ := hD.parts (by omega) hb.1 hb.2
   have hll : (l.take (aG l.length)).length = aG l.length := by rw [List.length_take]; omega
   have hrl : (l.drop (aG l.length)).length = l.length - aG l.length := by rw [List.length_drop]
   have HDL := hide (hL c (by omega) (by omega))
   have HDR := hide (hRt (c - aG l.length) (by omega) (by omega))
   have hnI : ¬ (l.length : Int) = 1 := by omega
   have hk1 : aG l.length ≤ l.length := by omega
   have hk2 : aG l.length ≤ c := by omega
   have hk3 : ¬ l.length = aG l.length := by omega
   have hk4 : ¬ c = aG l.length := by omega
   unfold maxLen at hc2
   by_cases hk : i < aG l.length
   ·have HQ := hide (tH l i (by omega) hk)
    have HPL := hide (pJ l.length (l.take (aG l.length)) i (by omega))
    have hple : (dI (l.take (aG l.length)) i).length ≤ 1000 := by have := aA HPL; omega
    have HW := hide (fun W (hE : Ext w W) => ih (l.take (aG l.length)) i (.slice (some ⟨b, o, none⟩) (aG l.length) c) W (by omega) (by omega) (by omega) ((aA HDL).ext hE))
    obtain ⟨ro, hro⟩ : ∃ r, iC (l.drop (aG l.length)) = r := ⟨_, rfl⟩
    have HRt := hide (fun W (hE : Ext w W) => yU (l.drop (aG l.length)).length (l.drop (aG l.length)) (.slice (some ⟨b, o + aG l.length * 16, none⟩) (l.length - aG l.length) (c - aG l.length)) W (Nat.le_refl _) (by omega) ((aA HDR).ext hE))
    rw [hro] at HRt HQ
    have HL16 := hide (show ro.length = 16 from by rw [← hro]; exact bW _)
    have hkI : (i : Int) < ((aG l.length : Nat) : Int) := by omega
    obtain ⟨q, hq⟩ : ∃ q, dI l i = q := ⟨_, rfl⟩
    obtain ⟨q1, hq1⟩ : ∃ q, dI (l.take (aG l.length)) i = q := ⟨_, rfl⟩
    rw [hq, hq1] at HQ
    rw [hq1] at HW hple
    rw [hq]
    have HLQ := hide (show q.length = q1.length + 1 from by rw [aA HQ, List.length_append]; rfl)
    clear hD ih hL hRt hro hq hq1
    go_enter Tryz.func59, Tryz.ntmps59
    go_wp2_with (first
     | (go_at_call 47; refine (aA HSp _).mono ?_; rintro e wz ⟨rfl, rfl⟩)
     | (go_at_call 59; refine (aA HW _ (Ext.refl _)).mono ?_; rintro e w1 ⟨A1, c1, rfl, hG⟩; have H1 := hide hG; clear hG)
     | (go_at_call 26; refine (aA HRt _ (aA H1).ext).mono ?_; rintro e w3 ⟨rfl, hE3⟩; have H3 := hide hE3; clear hE3)
     | (refine kX (t := 30) (x := .tmp 40) rfl gY (by omega) rfl rfl (by simpa using aA HL16) ?_)
     | (at_builtin; refine aU rfl rfl gY rfl ((aA H1).to ((aA H3).alloc _)).own rfl (Reads.newD _ _ _ (aA HL16) rfl) (bP.u8 ro) (by omega) ((aA H1).to ((aA H3).alloc _)).room ?_; intro A' c' w4 ho hc4 hv; have H4 := hide ((aA H1).step (aA HL16) ((aA H3).alloc _) hc4 ho); clear ho hc4 hv))
    go_ret2
    exact ⟨A', c', ret_sl (aA HLQ).symm, by rw [aA HLQ, aA HQ]; exact aA H4⟩
   ·have HQ := hide (qW l i (by omega) hk)
    have HPL := hide (pJ l.length (l.drop (aG l.length)) (i - aG l.length) (by omega))
    have hple : (dI (l.drop (aG l.length)) (i - aG l.length)).length ≤ 1000 := by have := aA HPL; omega
    have HW := hide (fun W (hE : Ext w W) => ih (l.drop (aG l.length)) (i - aG l.length) (.slice (some ⟨b, o + aG l.length * 16, none⟩) (l.length - aG l.length) (c - aG l.length)) W (by omega) (by omega) (by omega) ((aA HDR).ext hE))
    obtain ⟨ro, hro⟩ : ∃ r, iC (l.take (aG l.length)) = r := ⟨_, rfl⟩
    have HRt := hide (fun W (hE : Ext w W) => yU (l.take (aG l.length)).length (l.take (aG l.length)) (.slice (some ⟨b, o, none⟩) (aG l.length) c) W (Nat.le_refl _) (by omega) ((aA HDL).ext hE))
    rw [hro] at HRt HQ
    have HL16 := hide (show ro.length = 16 from by rw [← hro]; exact bW _)
    have hkI : ¬ (i : Int) < ((aG l.length : Nat) : Int) := by omega
    have eki : ((i - aG l.length : Nat) : Int) = (i : Int) - ((aG l.length : Nat) : Int) := by omega
    rw [eki] at HW
    obtain ⟨q, hq⟩ : ∃ q, dI l i = q := ⟨_, rfl⟩
    obtain ⟨q1, hq1⟩ : ∃ q, dI (l.drop (aG l.length)) (i - aG l.length) = q := ⟨_, rfl⟩
    rw [hq, hq1] at HQ
    rw [hq1] at HW hple
    rw [hq]
    have HLQ := hide (show q.length = q1.length + 1 from by rw [aA HQ, List.length_append]; rfl)
    clear hD ih hL hRt hro hq hq1 eki
    go_enter Tryz.func59, Tryz.ntmps59
    go_wp2_with (first
     | (go_at_call 47; refine (aA HSp _).mono ?_; rintro e wz ⟨rfl, rfl⟩)
     | (go_at_call 59; refine (aA HW _ (Ext.refl _)).mono ?_; rintro e w1 ⟨A1, c1, rfl, hG⟩; have H1 := hide hG; clear hG)
     | (go_at_call 26; refine (aA HRt _ (aA H1).ext).mono ?_; rintro e w3 ⟨rfl, hE3⟩; have H3 := hide hE3; clear hE3)
     | (refine kX (t := 30) (x := .tmp 57) rfl gY (by omega) rfl rfl (by simpa using aA HL16) ?_)
     | (at_builtin; refine aU rfl rfl gY rfl ((aA H1).to ((aA H3).alloc _)).own rfl (Reads.newD _ _ _ (aA HL16) rfl) (bP.u8 ro) (by omega) ((aA H1).to ((aA H3).alloc _)).room ?_; intro A' c' w4 ho hc4 hv; have H4 := hide ((aA H1).step (aA HL16) ((aA H3).alloc _) hc4 ho); clear ho hc4 hv))
    go_ret2
    exact ⟨A', c', ret_sl (aA HLQ).symm, by rw [aA HLQ, aA HQ]; exact aA H4⟩
def S3 (w : World) (v : Array Value) (dv : Value) (m : List UInt8) (W : World) : Prop := Ext w W ∧ Blk W w.heap.size 23 v ∧ Reads W 1 dv 68 (fH (digC m) 68)
theorem S3.ext {w : World} {v : Array Value} {dv : Value} {m : List UInt8} {W W' : World} (h : S3 w v dv m W) (hE : Ext W W') : S3 w v dv m W' := ⟨h.1.trans hE, h.2.1.ext hE, h.2.2.ext hE⟩
theorem S3.chg {w : World} {v : Array Value} {dv : Value} {m : List UInt8} {W W' : World} {S : Nat → Prop} {B : Nat} (h : S3 w v dv m W) (hc : Chg S W W') (hS : ∀ k, S k → B ≤ k) (hB : w.heap.size < B) (hd : ∀ k, dv.ownBlock = some k → k < B) : S3 w v dv m W' :=
 ⟨h.1.trans' hc (fun _ _ h => h.elim) (fun i hi e => by have := hS i e; omega), h.2.1.chg hc (fun e => by have := hS _ e; omega), h.2.2.chg hc (fun k _ hk e => by have := hS k e; have := hd k hk; omega)⟩
theorem aRe (seed : List UInt8) (index : Int) (m : List UInt8) (w : World) (hv : seed.length = 16) (hm : m.length = 16) (h1 : -9223372036854775808 ≤ index) (h2 : index < 9223372036854775808) :
  Calls Tryz.prog 60 #[.agg (seed.map u8v).toArray, .int .i64 index, .agg (m.map u8v).toArray] w fun e w' => ∃ A c, e = .returned (.slice A 68 c) ∧ GD w w.heap.size (.slice A 68 c) 68 (mQ seed index m 68) w' := by
 have HDg := hide (fun (W : World) => zL m W hm)
 have HS := hide (fun k (hk : k < 68) (W : World) => aBs k seed index W hv (by omega) h1 h2)
 have HA := hide (fun k (hk : k < 68) (W : World) => aDn k (digC m k) (gX seed index k) W (dO _ _ _) (by omega) (by have := aEj m k; omega))
 have HL := hide (uQ seed index m)
 have HT := hide (aBo seed index m)
 have HG := hide (fun k (hk : k < 68) => jM (digC m) hk)
 have HQ := hide (fun k => show advS k (gX seed index k) (digC m k) = sV seed index m k from rfl)
 obtain ⟨arr, harr⟩ : ∃ r, (seed.map u8v).toArray = r := ⟨_, rfl⟩
 obtain ⟨marr, hmarr⟩ : ∃ r, (m.map u8v).toArray = r := ⟨_, rfl⟩
 rw [harr] at HS ⊢
 rw [hmarr] at HDg ⊢
 have hasz : arr.size = 16 := by rw [← harr]; simp; omega
 have hmsz : marr.size = 16 := by rw [← hmarr]; simp; omega
 clear harr hmarr hv hm
 go_enter Tryz.func60, Tryz.ntmps60
 go_wp2_with (refine aZ (ty := 23) (t := 23) (x := .tmp 5) rfl rfl aC rfl (Blk.new' _ _ _ (by simp)) hmsz ?_)
 refine (aA HDg _).mono ?_
 rintro e w1 ⟨A0, c0, rfl, hr1, hE1⟩
 have H1 := hide (show S3 w arr (.slice A0 68 c0) m w1 from ⟨(((Ext.refl w).alloc _).alloc _).trans hE1, ((Blk.new w 23 arr).alloc _).ext hE1, hr1⟩)
 have hol := hr1.own_lt (by omega) (by omega)
 obtain ⟨b0, o0, cc, u, hv0, _⟩ := hr1.at1 (k := 0) (by omega)
 cases hv0
 have HOL := hide hol
 clear hr1 hE1 hol
 go_wp2_with fail
 go_loopw [8, 9] (fun b i wr => ∃ (k : Nat) (A : Option Addr) (c : Nat), k ≤ 68 ∧ i = .int .i64 k ∧ b = .slice A k c ∧ Hid (GD w w1.heap.size (.slice A k c) k (mQ seed index m k) wr ∧ S3 w arr (.slice (some ⟨b0, o0, none⟩) 68 c0) m wr)) (fun _ i _ => 68 - (intOf i).toNat)
 case atStart => exact ⟨0, none, 0, by omega, rfl, rfl, hide ⟨GD.nil (aA H1).1 (aA H1).1.size' (Nat.le_refl _), aA H1⟩⟩
 case round =>
  obtain ⟨k, A, c, hk, rfl, rfl, HI⟩ := hrel
  by_cases hlt : k < 68
  ·have HF : Hid (∀ W, S3 w arr (.slice (some ⟨b0, o0, none⟩) 68 c0) m W → W.cell? ⟨b0, o0 + k, none⟩ = some (.int .i64 ((digC m k : Nat) : Int))) := hide (fun W hW => hW.2.2.at_ (aA HG k hlt))
   have HSk := hide (aA HS k hlt)
   have HAk := hide (aA HA k hlt)
   have HLk := hide (aA HL k)
   have HTk := hide (aA HT k)
   rw [aA HQ k] at HAk
   generalize digC m k = dk at *
   generalize hst : ((gX seed index k).map u8v).toArray = st at *
   generalize sV seed index m k = d at *
   have hkI : (k : Int) < 68 := by omega
   go_upto_region 6 with fail
   refine wp_region_held_drew (S := S3 w arr (.slice (some ⟨b0, o0, none⟩) 68 c0) m) (by kernel_rfl) ((aA HI).2.ext ((Ext.refl _).drew)) (fun hHeld => ?_)
   refine wpAnyH_take (i := 0) (v := ?_) rfl (by kernel_rfl) (by kernel_rfl) (by kernel_rfl) (fun _ _ _ h => h) (Or.inl ⟨by rfl, fun wz hSz => ?_⟩) (by assumption) ?_
   rotate_left
   ·(first | (go_simp; done) | (go_simp; with_reducible rfl) | (obtain f1 := (aA HF) wz hSz; clear hSz; first | (go_simp; done) | (go_simp; with_reducible rfl)))
   try simp only [Act.put, zA, zB, zC, zD, zF]
   refine wpAnyH_take (i := 1) (v := ?_) rfl (by kernel_rfl) (by kernel_rfl) (by kernel_rfl) (fun _ _ _ h => h) (Or.inl ⟨by rfl, fun wz hSz => ?_⟩) (by assumption) ?_
   rotate_left
   ·(first | (go_simp; done) | (go_simp; with_reducible rfl) | (obtain f1 := (aA HF) wz hSz; clear hSz; first | (go_simp; done) | (go_simp; with_reducible rfl)))
   try simp only [Act.put, zA, zB, zC, zD, zE, zF]
   refine wpAnyH_take (i := 2) (v := _) rfl (by kernel_rfl) (by kernel_rfl) (by kernel_rfl) (fun _ _ _ h => h) (ylb aC rfl (by rfl) rfl hasz (fun w' hw => hw.2.1)) (by assumption) ?_
   try simp only [Act.put, zA, zB, zC, zD, zE, zF]
   refine wpAnyH_take (i := 3) (v := ?_) rfl (by kernel_rfl) (by kernel_rfl) (by kernel_rfl) (fun _ _ _ h => h) (Or.inl ⟨by rfl, fun wz hSz => ?_⟩) (by assumption) ?_
   rotate_left
   ·(first | (go_simp; done) | (go_simp; with_reducible rfl) | (obtain f1 := (aA HF) wz hSz; clear hSz; first | (go_simp; done) | (go_simp; with_reducible rfl)))
   try simp only [Act.put, zA, zB, zC, zD, zE, zF]
   refine wpAnyH_take (i := 4) (v := ?_) rfl (by kernel_rfl) (by kernel_rfl) (by kernel_rfl) (fun _ _ _ h => h) (Or.inl ⟨by rfl, fun wz hSz => ?_⟩) (by assumption) ?_
   rotate_left
   ·(first | (go_simp; done) | (go_simp; with_reducible rfl) | (obtain f1 := (aA HF) wz hSz; clear hSz; first | (go_simp; done) | (go_simp; with_reducible rfl)))
   try simp only [Act.put, zA, zB, zC, zD, zE, zF]
   refine wpAnyH_take (i := 6) (v := ?_) rfl (by kernel_rfl) (by kernel_rfl) (by kernel_rfl) (fun _ _ _ h => h) (Or.inl ⟨by rfl, fun wz hSz => ?_⟩) (by assumption) ?_
   rotate_left
   ·(first | (go_simp; done) | (go_simp; with_reducible rfl) | (obtain f1 := (aA HF) wz hSz; clear hSz; first | (go_simp; done) | (go_simp; with_reducible rfl)))
   try simp only [Act.put, zA, zB, zC, zD, zE, zF]
   refine wpAnyH_take (i := 7) (v := ?_) rfl (by kernel_rfl) (by kernel_rfl) (by kernel_rfl) (fun _ _ _ h => h) (Or.inl ⟨by rfl, fun wz hSz => ?_⟩) (by assumption) ?_
   rotate_left
   ·(first | (go_simp; done) | (go_simp; with_reducible rfl) | (obtain f1 := (aA HF) wz hSz; clear hSz; first | (go_simp; done) | (go_simp; with_reducible rfl)))
   try simp only [Act.put, zA, zB, zC, zD, zE, zF]
   refine wpAnyH_take (i := 8) (v := ?_) rfl (by kernel_rfl) (by kernel_rfl) (by kernel_rfl) (fun _ _ _ h => h) (Or.inl ⟨by rfl, fun wz hSz => ?_⟩) (by assumption) ?_
   rotate_left
   ·(first | (go_simp; done) | (go_simp; with_reducible rfl) | (obtain f1 := (aA HF) wz hSz; clear hSz; first | (go_simp; done) | (go_simp; with_reducible rfl)))
   try simp only [Act.put, zA, zB, zC, zD, zE, zF]
   refine wpAnyH_take (i := 9) (v := ?_) rfl (by kernel_rfl) (by kernel_rfl) (by kernel_rfl) (fun _ _ _ h => h) (Or.inl ⟨by rfl, fun wz hSz => ?_⟩) (by assumption) ?_
   rotate_left
   ·(first | (go_simp; done) | (go_simp; with_reducible rfl) | (obtain f1 := (aA HF) wz hSz; clear hSz; first | (go_simp; done) | (go_simp; with_reducible rfl)))
   try simp only [Act.put, zA, zB, zC, zD, zE, zF]
   refine wpAnyH_ready (rs := [5]) (by kernel_rfl) (by simp) (AllReadyH.cons (o := _) rfl (fun K hK => ?_) AllReadyH.nil)
   try go_simp
   (refine (aA HSk _).mono ?_; rintro e w2 ⟨rfl, hE2⟩; have hS := hHeld.ext hE2; have H2 := hide (((Ext.refl wr).drew).trans hE2); clear hHeld hE2)
   refine hK.out _ _ ?_ (fun hHeld => ?_)
   ·exact hS
   clear hK K
   try simp only [Act.put, zA, zB, zC, zD, zE, zF]
   refine wpAnyH_ready (rs := [10]) (by kernel_rfl) (by simp) (AllReadyH.cons (o := _) rfl (fun K hK => ?_) AllReadyH.nil)
   try go_simp
   (refine (aA HAk _).mono ?_; rintro e w3 ⟨rfl, hE3⟩; have hS := hHeld.ext hE3; have H3 := hide ((aA H2).trans hE3); clear hHeld hE3 H2)
   refine hK.out _ _ ?_ (fun hHeld => ?_)
   ·exact hS
   clear hK K
   try simp only [Act.put, zA, zB, zC, zD, zE, zF]
   refine wpAnyH_ready (rs := [11]) (by kernel_rfl) (by simp) (AllReadyH.cons (o := _) rfl (fun K hK => ?_) AllReadyH.nil)
   (rw [if_pos (by rfl)]; refine uH (t := 30) (x := .tmp 26) gY (by omega) rfl rfl (by simpa using aA HLk) ?_; have hS := hHeld.ext ((Ext.refl w3).alloc (.cells (d.map u8v).toArray 23)); clear hHeld)
   refine hK.out _ _ ?_ (fun hHeld => ?_)
   ·exact hS
   clear hK K
   try simp only [Act.put, zA, zB, zC, zD, zE, zF]
   refine wpAnyH_ready (rs := [12]) (by kernel_rfl) (by simp) (AllReadyH.cons (o := _) rfl (fun K hK => ?_) AllReadyH.nil)
   (refine rV rfl rfl gY rfl ((aA HI).1.to ((aA H3).alloc _)).own rfl (Reads.newD _ _ _ (aA HLk) rfl) (bP.u8 d) (by omega) ((aA HI).1.to ((aA H3).alloc _)).room ?_; intro A' c' w4 ho hc4 hv; have hS := hHeld.chg (B := w1.heap.size) hc4 (fun j hj => ((aA HI).1.own.lt j hj).1) (aA H1).2.1.lt (aA HOL); have H4 := hide ((aA HI).1.step (aA HLk) ((aA H3).alloc _) hc4 ho); clear ho hc4 hv hHeld)
   refine hK.out _ _ ?_ (fun hHeld => ?_)
   ·exact hS
   clear hK K
   try simp only [Act.put, zA, zB, zC, zD, zE, zF]
   refine wpAnyH_take (i := 13) (v := ?_) rfl (by kernel_rfl) (by kernel_rfl) (by kernel_rfl) (fun _ _ _ h => h) (Or.inl ⟨by rfl, fun wz hSz => ?_⟩) (by assumption) ?_
   rotate_left
   ·(first | (go_simp; done) | (go_simp; with_reducible rfl) | (obtain f1 := (aA HF) wz hSz; clear hSz; first | (go_simp; done) | (go_simp; with_reducible rfl)))
   try simp only [Act.put, zA, zB, zC, zD, zE, zF]
   refine wpAnyH_done (by kernel_rfl) ?_ _
   have H5 := hide hHeld
   clear hHeld
   go_wp2
   go_roundw
   case rel => exact ⟨k + 1, A', c', by omega, by go_num, rfl, hide ⟨by rw [aA HTk]; exact aA H4, aA H5⟩⟩
   case measure => simp [intOf]; omega
  ·obtain rfl : k = 68 := by omega
   go_wp2
   go_ret
   exact ⟨A, c, rfl, ⟨ownsRow_base (aA HI).1.own (aA H1).1.size', (aA HI).1.all, (aA HI).1.ext, Nat.le_refl _, (aA HI).1.ext.size'⟩⟩
theorem nC : Wide Tryz.prog 32 3 := ⟨⟨_, Tryz.underlying32, rfl⟩, by kernel_rfl⟩
def SigR (w : World) (v : Value) (index : Int) (chain path : List (List UInt8)) : Prop := ∃ cv pv, v = .agg #[.int .i64 index, cv, pv] ∧ Digs w cv chain ∧ Digs w pv path
def NewSig (B : Nat) (v : Value) : Prop := ∃ i cv pv, v = .agg #[i, cv, pv] ∧ (∀ k, cv.ownBlock = some k → B ≤ k) ∧ (∀ k, pv.ownBlock = some k → B ≤ k)
def aMm (w : World) (index : Int) (chain path : List (List UInt8)) (e : Ending) (w' : World) : Prop := ∃ v, e = .returned (.tuple #[v, .int .i64 0]) ∧ SigR w' v index chain path ∧ Ext w w' ∧ NewSig w.heap.size v
theorem vH (h : Int) (ho : okH h) : ∃ k : Nat, h = (k : Int) ∧ k ≤ 4 := ⟨h.toNat, by obtain ⟨h1, h2⟩ := ho; omega, by obtain ⟨h1, h2⟩ := ho; omega⟩
def ManyPost (w : World) (e : Ending) (w' : World) : Prop := ∃ n : Nat, 1 ≤ n ∧ e = .returned (.int .i64 (n : Int)) ∧ w = w'
theorem valid_ok (h : Int) (ho : okH h) (w : World) : Calls Tryz.prog 71 #[.int .i64 h] w fun e w' => e = .returned (.bool true) ∧ w = w' := yK h w ho
theorem many_ok (h : Int) (ho : okH h) (w : World) : Calls Tryz.prog 19 #[.int .i64 h] w (ManyPost w) := by
 obtain ⟨k, rfl, hk⟩ := vH h ho
 exact (sD k _ rfl hk w).mono fun e w' ⟨h1, h2⟩ => ⟨2 ^ k, Nat.one_le_two_pow, h1, h2⟩
theorem aBr (seed msg : List UInt8) (h index : Int) (w : World) (hh : ¬ okH h ∨ index < 0) :
  Calls Tryz.prog 36 #[.agg (seed.map u8v).toArray, .int .i64 h, .int .i64 index, .agg (msg.map u8v).toArray] w fun e w' => e = .returned (.tuple #[.agg #[.int .i64 0, .slice none 0 0, .slice none 0 0], .int .i64 1]) ∧ Ext w w' := by
 obtain ⟨arr, harr⟩ : ∃ x, (seed.map u8v).toArray = x := ⟨_, rfl⟩
 obtain ⟨mrr, hmrr⟩ : ∃ x, (msg.map u8v).toArray = x := ⟨_, rfl⟩
 rw [harr, hmrr]
 clear harr hmrr
 by_cases ho : okH h
 ·have hi : index < 0 := by rcases hh with h | h; exact absurd ho h; exact h
  have HV := hide (fun W => many_ok h ho W)
  clear hh ho
  go_enter Tryz.func36, Tryz.ntmps36
  go_wp2_with (go_at_call 19; refine (aA HV _).mono ?_; rintro e wz ⟨n, hn1, rfl, rfl⟩; have hnI : ¬ (n : Int) = 0 := by omega)
  refine bodyPost_ret (v := .tuple #[.agg #[.int .i64 0, .slice none 0 0, .slice none 0 0], .int .i64 1]) (gG nC rfl (Blk.new' _ _ _ (by simp)) rfl rfl rfl) rfl ⟨rfl, ?_⟩
  exact (((Ext.refl w).alloc _).alloc _).alloc _
 ·have HV := hide (fun W => aJk h W ho)
  clear hh ho
  go_enter Tryz.func36, Tryz.ntmps36
  go_wp2_with (go_at_call 19; refine (aA HV _).mono ?_; rintro e wz ⟨rfl, rfl⟩)
  refine bodyPost_ret (v := .tuple #[.agg #[.int .i64 0, .slice none 0 0, .slice none 0 0], .int .i64 1]) (gG nC rfl (Blk.new' _ _ _ (by simp)) rfl rfl rfl) rfl ⟨rfl, ?_⟩
  exact (((Ext.refl w).alloc _).alloc _).alloc _
theorem aNn (seed msg : List UInt8) (h n : Nat) (hn : n = 2 ^ h) (hh : h ≤ 4) (index : Int) (w : World) (h0 : (n : Int) ≤ index) :
  Calls Tryz.prog 36 #[.agg (seed.map u8v).toArray, .int .i64 (h : Int), .int .i64 index, .agg (msg.map u8v).toArray] w fun e w' => e = .returned (.tuple #[.agg #[.int .i64 0, .slice none 0 0, .slice none 0 0], .int .i64 17]) ∧ Ext w w' := by
 have HV := hide (fun W => (fun W => sD h n hn hh W) W)
 have hsh : wrap64 ((2 : Int) ^ h) = (n : Int) := by rw [yQ h hh, hn]
 have hn1 : 1 ≤ n := by subst hn; exact Nat.one_le_two_pow
 have hnI : ¬ (n : Int) = 0 := by omega
 have hnB : ((n : Int) == 0) = false := beq_eq_false_iff_ne.2 (by omega)
 have hi0 : ¬ index < 0 := by omega
 obtain ⟨arr, harr⟩ : ∃ x, (seed.map u8v).toArray = x := ⟨_, rfl⟩
 obtain ⟨mrr, hmrr⟩ : ∃ x, (msg.map u8v).toArray = x := ⟨_, rfl⟩
 rw [harr, hmrr]
 clear harr hmrr hn
 go_enter Tryz.func36, Tryz.ntmps36
 go_wp2_with (go_at_call 19; refine (aA HV _).mono ?_; rintro e wz ⟨rfl, rfl⟩)
 refine bodyPost_ret (v := .tuple #[.agg #[.int .i64 0, .slice none 0 0, .slice none 0 0], .int .i64 17]) (gG nC rfl (Blk.new' _ _ _ (by simp)) rfl rfl rfl) rfl ⟨rfl, ?_⟩
 exact (((Ext.refl w).alloc _).alloc _).alloc _
end Go.Proofs.YtihghljfmlbfhaaGreatDoor
