/-
  Several texts in one file: each has its own heading below.
-/
import Derived.Test.YtihghljfmlbfhaaGreatDoorRzG
import Derived.Test.YtihghljfmlbfhaaGreatDoorRzF
import Derived.Test.YtihghljfmlbfhaaGreatDoorProg
import Derived.Deep.RegionLaw
import Derived.WalkMore
set_option maxRecDepth 100000
set_option maxHeartbeats 4000000
namespace Go.Proofs.YtihghljfmlbfhaaGreatDoor.Pv
open Go.RowKit
def fltF (F : List Flt) : Nat → List PC := fun i => rF (F.getD i flt0)
def mF (F : List Flt) : PC := .sl 3 F.length (fltF F)
def cutV : Value := .iface 98 (.agg #[])
def lZ (F : List Flt) (h h' : HwS) (i : Nat) : List Ob := [⟨900001, 3, [.lit (.int .i64 i)], [.lit (.int .i64 ((i + 1 : Nat) : Int))]⟩, ⟨900002, 43, [mF F], [mF F]⟩, ⟨900003, 54, hwL h, hwL h'⟩]
def aJz (x : HwS × Res × Int) (t : Flt) : Sum PV (List PanicEntry) := if t.cut then .inr [{ v := cutV, recovered := false }] else .inl (.w (.agg (iT x.2.1)))
def lvdL : List (Nat × Spec) := [(39, bD false ddG)]
theorem lvd_ok : ∀ p ∈ lvdL, SpecOk Tryz.prog ShaMem p.1 p.2 := by
 intro p hp
 obtain rfl := List.mem_singleton.1 hp
 exact ddo_spec
theorem lvdM : Mach Tryz.prog ShaMem (find lvdL) := ⟨dD lvd_ok, iE⟩
def lvO (F : List Flt) (h : HwS) (i : Int) (a : Acc) : Wr := [(900001, none, 0, .box 3 [.lit (.int .i64 i)]), (900002, none, 0, .box 43 [mF F]), (900003, none, 0, .box 54 (hwL h)), (0, none, 0, .box 29 (nZ a)), (1, none, 0, .box 79 (iT iJ))]
def lvT : List (Nat × Option Bool × PV) := [(1, none, pv1 (.pt 900001 0 0)), (2, none, pv1 (.pt 900002 0 0)), (3, none, pv1 (.pt 900003 0 0)), (4, none, pv1 (.pt 0 0 0)), (5, none, pv1 (.pt 1 0 0)), (6, none, pv1 (.pt 1000 0 0))]
def lvdSt (F : List Flt) (h : HwS) (i : Int) (a : Acc) (t : Flt) : St := ⟨lvT, (1000, none, 0, .box 45 (rF t)) :: lvO F h i a⟩
def lvS2 (F : List Flt) (h h' : HwS) (i : Int) (a : Acc) (t : Flt) (r : Res) : St := ⟨(7, none, pv1 (.pt 5008 0 0)) :: (8, none, pv1 (.pt 5009 0 0)) :: (9, none, pvI 0) :: lvT, (5008, none, 0, .box 54 (hwL h')) :: (5009, none, 0, .box 79 (iT r)) :: (1000, none, 0, .box 45 (rF t)) :: lvO F h i a⟩
def lvS3 (F : List Flt) (h' : HwS) (i : Int) (a : Acc) (t : Flt) (r : Res) : St := ⟨(8, none, pv1 (.pt 5009 0 0)) :: lvT, (5009, none, 0, .box 79 (iT r)) :: (1000, none, 0, .box 45 (rF t)) :: lvO F h' i a⟩
theorem good_err {h : HwS} {a : Acc} (g : GoodA h a) (t : Flt) : (dF h a t).2.2 = 0 := by
 obtain ⟨k, b, c, s⟩ := a
 obtain ⟨h1, h2, h3, h4⟩ := g
 dsimp only at h1 h2 h3 h4
 subst h2 h3
 rcases h1 with rfl | rfl
 ·have := aEk (t := t) h4; unfold accA at this; rw [this]
 ·have := aAh (t := t) h4; unfold accA at this; rw [this]
theorem GamE.forget {A : Amb} {s : St} {a a' : Act} {w : World} {env : Env} (h : GamE A s a w env) (h1 : a'.tmps.size = a.tmps.size) (h2 : a'.defers = a.defers) : GamE A ⟨[], s.o⟩ a' w env :=
 { chg := h.chg, size := h1.trans h.size, dom := h.dom, objs := h.objs, live := h.live, inj := h.inj, tmps := fun t g pv hf => (by cases hf), defers := h2.trans h.defers, und := fun t pv hf => (by cases hf), exts := h.exts, dev := h.dev }
theorem wp_cut (t1 t2 : Nat) (ops : Array Oper) (p1 p2 p3 : String) (f1 f2 f3 : Array Edge) (hops : ops = #[{ dst := some 33, op := Op.build 98 #[], type := 98, pos := p1, after := f1, guard := none }, { dst := some 34, op := Op.makeInterface 98 (Operand.tmp 33), type := t1, pos := p2, after := f2, guard := none }, { dst := none, op := Op.panic (Operand.tmp 34), type := t2, pos := p3, after := f3, guard := none }])
  {a : Act} {w : World} {Q : Exit → Act → World → Prop} (hsz : a.tmps.size = 36) (hQ : ∀ a', a'.tmps.size = a.tmps.size → a'.defers = a.defers → Q (.panic [{ v := cutV, recovered := false }]) a' w) : (Code.region 9 ops false).wp Tryz.prog Q a w := by
 subst hops
 apply wp_region
 simp [wpOps, go_sem, Region.wanted]
 refine .inl (.inl (.inl ?_))
 rw [if_pos (by omega), if_pos (by omega)]
 simp [Instr.panic]
 exact hQ _ (by simp) rfl
theorem aOm (F : List Flt) (h : HwS) (i : Nat) (c : Acc) (g : GoodA h c) (hi : i ≤ 1000000) (_ : F.length ≤ 1000000) : FunB Tryz.prog ShaMem 38 (lZ F h (dF h c (bV F i)).1 i)
  [.w (.agg (nZ c)), pv1 (.pt 900001 0 0), pv1 (.pt 900002 0 0), pv1 (.pt 900003 0 0)] (aJz (dF h c (bV F i)) (bV F i)) := by
 have M := lvdM
 have herr := good_err g (bV F i)
 refine funB_of Tryz.func38 rfl rfl rfl (fun A hn hI => ?_)
 refine aB M hI hn (by rfl) (by kernel_rfl) ?_ ?_
 ·simp
 refine aB M hI hn (by rfl) (by kernel_rfl) ?_ ?_
 ·simp
 refine aI ?_
 refine aB M hI hn (by rfl) (by kernel_rfl) ?_ ?_
 ·simp
 refine aJ (by rfl) (fun hc => ?_) (fun hc => ?_)
 ·have hlt : i < F.length := by have := of_decide_eq_true hc; omega
  refine aS M hI hn (by rfl) (by kernel_rfl) ?_ ?_
  ·simp
   exact hlt
  change Tri _ _ _ _ _
  refine aV (s' := lvdSt F h (i : Int) c (bV F i)) (fun a w hg => (hg.reset (kT := [1, 2, 3, 4, 5, 6]) (kO := [1000, 900001, 900002, 900003, 0, 1]) (by rfl) (by simp)).same ?_ ?_) ?_
  ·exact .cons rfl (.cons rfl (.cons rfl (.cons rfl (.cons rfl (.cons rfl .nil)))))
  ·exact .cons (.box rfl) (.cons (.box rfl) (.cons (.box rfl) (.cons (.box rfl) (.cons (.box rfl) (.cons (.box rfl) .nil)))))
  refine aB M hI hn (by rfl) (by kernel_rfl) ?_ ?_
  ·simp
  refine aB M hI hn (by rfl) (by kernel_rfl) ?_ ?_
  ·simp
   exact g
  refine aV (s' := lvS2 F h (dF h c (bV F i)).1 ((i + 1 : Nat) : Int) c (bV F i) (dF h c (bV F i)).2.1) (fun a w hg => (hg.reset (kT := [7, 8, 9, 1, 2, 3, 4, 5, 6]) (kO := [5008, 5009, 1000, 900001, 900002, 900003, 0, 1]) (by rfl) (by simp)).same ?_ ?_) ?_
  ·refine .cons rfl (.cons rfl (.cons ?_ (.cons rfl (.cons rfl (.cons rfl (.cons rfl (.cons rfl (.cons rfl .nil))))))))
   change pvI (dF ⟨bJ h.b.length (bT h.b), tX h.f.length (fsF h.f), h.r⟩ c (bV F i)).2.2 = _
   rw [aT, kP, herr]
  ·refine .cons (.box ?_) (.cons (.box ?_) (.cons (.box rfl) (.cons (.box ?_) (.cons (.box rfl) (.cons (.box rfl) (.cons (.box rfl) (.cons (.box rfl) .nil)))))))
   ·change hwL (dF ⟨bJ h.b.length (bT h.b), tX h.f.length (fsF h.f), h.r⟩ c (bV F i)).1 = _
    rw [aT, kP]
   ·change iT (dF ⟨bJ h.b.length (bT h.b), tX h.f.length (fsF h.f), h.r⟩ c (bV F i)).2.1 = _
    rw [aT, kP]
   ·rw [bZ i (by omega)]
  generalize (dF h c (bV F i)).1 = h' at herr ⊢
  refine aI ?_
  refine aB M hI hn (by rfl) (by kernel_rfl) ?_ ?_
  ·simp
  refine aJ (by rfl) (fun hc => ?_) (fun hc => ?_)
  ·refine aS M hI hn (by rfl) (by kernel_rfl) ?_ ?_
   ·simp
   change Tri _ _ _ _ _
   refine aV (s' := lvS3 F h' ((i + 1 : Nat) : Int) c (bV F i) (dF h c (bV F i)).2.1) (fun a w hg => (hg.reset (kT := [8, 1, 2, 3, 4, 5, 6]) (kO := [5009, 1000, 900001, 900002, 900003, 0, 1]) (by rfl) (by simp)).same ?_ ?_) ?_
   ·exact .cons rfl (.cons rfl (.cons rfl (.cons rfl (.cons rfl (.cons rfl (.cons rfl .nil))))))
   ·exact .cons (.box rfl) (.cons (.box rfl) (.cons (.box rfl) (.cons (.box rfl) (.cons (.box rfl) (.cons (.box rfl) (.cons (.box rfl) .nil))))))
   refine aI ?_
   refine aB M hI hn (by rfl) (by kernel_rfl) ?_ ?_
   ·simp
   refine aJ (by rfl) (fun hc => ?_) (fun hc => ?_)
   ·have hcut : (bV F i).cut = true := hc
    have he : aJz (dF h c (bV F i)) (bV F i) = .inr [{ v := cutV, recovered := false }] := if_pos hcut
    intro a w hg hPQ
    obtain ⟨env, hE⟩ := hg
    refine wp_cut _ _ _ _ _ _ _ _ _ rfl (by rw [hE.size, hn]; rfl) (fun a' h1 h2 => ?_)
    refine ⟨h2.trans hE.defers, he, ⟨[], _⟩, ?_, env, hE.forget h1 h2⟩
    intro o ho
    simp only [lZ, List.mem_cons, List.not_mem_nil, or_false] at ho
    rcases ho with rfl | rfl | rfl <;> exact ⟨_, rfl, dA rfl⟩
   ·have hcut : ¬ (bV F i).cut = true := fun h5 => by
     have h6 : (bV F i).cut = false := hc
     rw [h6] at h5; cases h5
    have he : aJz (dF h c (bV F i)) (bV F i) = .inl (.w (.agg (iT (dF h c (bV F i)).2.1))) := if_neg hcut
    refine aN ?_
    change Tri _ _ _ _ _
    refine aB M hI hn (by rfl) (by kernel_rfl) ?_ ?_
    ·simp
    refine bC (fun a w hg => ⟨.inr rfl, _, he, _, ⟨?_, ?_⟩, hg⟩)
    ·refine aK (by rfl) (by simp) (by rfl) (by rfl) ?_
     rfl
    ·intro o ho
     simp only [lZ, List.mem_cons, List.not_mem_nil, or_false] at ho
     rcases ho with rfl | rfl | rfl <;> exact ⟨_, rfl, dA rfl⟩
  ·cases hc
 ·have hge : F.length ≤ i := by have := of_decide_eq_false hc; omega
  have ht : bV F i = flt0 := by
   unfold bV
   rw [zG, List.getElem?_eq_none hge]
   rfl
  refine aN ?_
  change Tri _ _ _ _ _
  refine aV (s' := lvdSt F h (i : Int) c (bV F i)) (fun a w hg => (hg.reset (kT := [1, 2, 3, 4, 5, 6]) (kO := [1000, 900001, 900002, 900003, 0, 1]) (by rfl) (by simp)).same ?_ ?_) ?_
  ·exact .cons rfl (.cons rfl (.cons rfl (.cons rfl (.cons rfl (.cons rfl .nil)))))
  ·exact .cons (.box (by rw [ht]; rfl)) (.cons (.box rfl) (.cons (.box rfl) (.cons (.box rfl) (.cons (.box rfl) (.cons (.box rfl) .nil)))))
  refine aB M hI hn (by rfl) (by kernel_rfl) ?_ ?_
  ·simp
  refine aB M hI hn (by rfl) (by kernel_rfl) ?_ ?_
  ·simp
   exact g
  refine aV (s' := lvS2 F h (dF h c (bV F i)).1 ((i + 1 : Nat) : Int) c (bV F i) (dF h c (bV F i)).2.1) (fun a w hg => (hg.reset (kT := [7, 8, 9, 1, 2, 3, 4, 5, 6]) (kO := [5008, 5009, 1000, 900001, 900002, 900003, 0, 1]) (by rfl) (by simp)).same ?_ ?_) ?_
  ·refine .cons rfl (.cons rfl (.cons ?_ (.cons rfl (.cons rfl (.cons rfl (.cons rfl (.cons rfl (.cons rfl .nil))))))))
   change pvI (dF ⟨bJ h.b.length (bT h.b), tX h.f.length (fsF h.f), h.r⟩ c (bV F i)).2.2 = _
   rw [aT, kP, herr]
  ·refine .cons (.box ?_) (.cons (.box ?_) (.cons (.box rfl) (.cons (.box ?_) (.cons (.box rfl) (.cons (.box rfl) (.cons (.box rfl) (.cons (.box rfl) .nil)))))))
   ·change hwL (dF ⟨bJ h.b.length (bT h.b), tX h.f.length (fsF h.f), h.r⟩ c (bV F i)).1 = _
    rw [aT, kP]
   ·change iT (dF ⟨bJ h.b.length (bT h.b), tX h.f.length (fsF h.f), h.r⟩ c (bV F i)).2.1 = _
    rw [aT, kP]
   ·rw [bZ i (by omega)]
  generalize (dF h c (bV F i)).1 = h' at herr ⊢
  refine aI ?_
  refine aB M hI hn (by rfl) (by kernel_rfl) ?_ ?_
  ·simp
  refine aJ (by rfl) (fun hc => ?_) (fun hc => ?_)
  ·refine aS M hI hn (by rfl) (by kernel_rfl) ?_ ?_
   ·simp
   change Tri _ _ _ _ _
   refine aV (s' := lvS3 F h' ((i + 1 : Nat) : Int) c (bV F i) (dF h c (bV F i)).2.1) (fun a w hg => (hg.reset (kT := [8, 1, 2, 3, 4, 5, 6]) (kO := [5009, 1000, 900001, 900002, 900003, 0, 1]) (by rfl) (by simp)).same ?_ ?_) ?_
   ·exact .cons rfl (.cons rfl (.cons rfl (.cons rfl (.cons rfl (.cons rfl (.cons rfl .nil))))))
   ·exact .cons (.box rfl) (.cons (.box rfl) (.cons (.box rfl) (.cons (.box rfl) (.cons (.box rfl) (.cons (.box rfl) (.cons (.box rfl) .nil))))))
   refine aI ?_
   refine aB M hI hn (by rfl) (by kernel_rfl) ?_ ?_
   ·simp
   refine aJ (by rfl) (fun hc => ?_) (fun hc => ?_)
   ·have hcut : (bV F i).cut = true := hc
    have he : aJz (dF h c (bV F i)) (bV F i) = .inr [{ v := cutV, recovered := false }] := if_pos hcut
    intro a w hg hPQ
    obtain ⟨env, hE⟩ := hg
    refine wp_cut _ _ _ _ _ _ _ _ _ rfl (by rw [hE.size, hn]; rfl) (fun a' h1 h2 => ?_)
    refine ⟨h2.trans hE.defers, he, ⟨[], _⟩, ?_, env, hE.forget h1 h2⟩
    intro o ho
    simp only [lZ, List.mem_cons, List.not_mem_nil, or_false] at ho
    rcases ho with rfl | rfl | rfl <;> exact ⟨_, rfl, dA rfl⟩
   ·have hcut : ¬ (bV F i).cut = true := fun h5 => by
     have h6 : (bV F i).cut = false := hc
     rw [h6] at h5; cases h5
    have he : aJz (dF h c (bV F i)) (bV F i) = .inl (.w (.agg (iT (dF h c (bV F i)).2.1))) := if_neg hcut
    refine aN ?_
    change Tri _ _ _ _ _
    refine aB M hI hn (by rfl) (by kernel_rfl) ?_ ?_
    ·simp
    refine bC (fun a w hg => ⟨.inr rfl, _, he, _, ⟨?_, ?_⟩, hg⟩)
    ·refine aK (by rfl) (by simp) (by rfl) (by rfl) ?_
     rfl
    ·intro o ho
     simp only [lZ, List.mem_cons, List.not_mem_nil, or_false] at ho
     rcases ho with rfl | rfl | rfl <;> exact ⟨_, rfl, dA rfl⟩
  ·cases hc
end Go.Proofs.YtihghljfmlbfhaaGreatDoor.Pv
namespace Go.Proofs.YtihghljfmlbfhaaGreatDoor
open Go.RowKit
structure BanksIn (w : World) (bvs : List Value) (banks : List (List Int)) : Prop where
 len : bvs.length = banks.length
 each : ∀ (k : Nat) (bv : Value) (l : List Int), bvs[k]? = some bv → banks[k]? = some l → Reads w 1 bv l.length (l.map (Value.int .u8))
structure FusesIn (w : World) (fv : Value) (banks : List (List Int)) : Prop where
 ex : ∃ bvs, Reads w 1 fv banks.length bvs ∧ BanksIn w bvs banks
theorem BanksIn.ext {w w' : World} {bvs : List Value} {banks : List (List Int)} (h : BanksIn w bvs banks) (hc : Ext w w') : BanksIn w' bvs banks := ⟨h.len, fun k bv l h1 h2 => (h.each k bv l h1 h2).ext hc⟩
theorem FusesIn.ext {w w' : World} {fv : Value} {banks : List (List Int)} (h : FusesIn w fv banks) (hc : Ext w w') : FusesIn w' fv banks := by
 obtain ⟨bvs, h1, h2⟩ := h.ex
 exact ⟨bvs, h1.ext hc, h2.ext hc⟩
theorem FusesIn.at_ {w : World} {fv : Value} {banks : List (List Int)} (h : FusesIn w fv banks) {k : Nat} (hk : k < banks.length) :
  ∃ b o c bv, fv = .slice (some ⟨b, o, none⟩) banks.length c ∧ b < w.heap.size ∧ w.cell? ⟨b, o + k, none⟩ = some bv ∧ Reads w 1 bv banks[k].length (banks[k].map (Value.int .u8)) := by
 obtain ⟨bvs, h1, h2⟩ := h.ex
 obtain ⟨b, o, c, u, e1, _, _, e4, e5, e6⟩ := h1.at1 hk
 exact ⟨b, o, c, u, e1, e4, e6, h2.each k u banks[k] e5 (zH hk)⟩
theorem aCm (fv : Value) (banks : List (List Int)) (bank cell : Nat) (w : World) (h : FusesIn w fv banks) (hb : bank < banks.length) (hc : cell < banks[bank].length) :
  Calls Tryz.prog 62 #[.agg #[fv], .int .i64 (bank : Int), .int .i64 (cell : Int)] w fun e w' => e = .returned (.bool true) ∧ Ext w w' := by
 obtain ⟨b, o, c, bv, rfl, hbw, hcell, hr⟩ := h.at_ hb
 have hm1 : banks.length ≤ maxLen := by
  obtain ⟨bvs, h1, _⟩ := h.ex
  exact h1.len_le
 have hm2 := hr.len_le
 obtain ⟨_, A, c2, rfl, _⟩ := hr
 unfold maxLen at hm1 hm2
 generalize banks[bank].length = m at *
 clear h
 go_enter Tryz.func62, Tryz.ntmps62
 go_wp2
 go_ret
 refine ⟨rfl, ?_⟩
 repeat' (first | (with_reducible exact Chg.refl _ _) | (with_reducible exact Ext.refl _) | (with_reducible assumption) | (with_reducible refine Chg.alloc ?_ _) | (with_reducible refine Chg.drew ?_) | (with_reducible refine Chg.drewN ?_ _) | (with_reducible refine Chg.setCell ?_ ?_ _) | (with_reducible refine Ext.alloc ?_ _) | (with_reducible refine Ext.drew ?_) | (with_reducible refine Ext.drewN ?_ _) | (with_reducible refine Ext.setCell ?_ ?_ _) | (simp; done) | (simp; omega) | omega)
theorem aHd (fv : Value) (banks : List (List Int)) (bank cell : Nat) (noise : Bool) (w : World) (h : FusesIn w fv banks) (hb : bank < banks.length) (hc : cell < banks[bank].length) :
  Calls Tryz.prog 41 #[.agg #[fv], .int .i64 (bank : Int), .int .i64 (cell : Int), .bool noise] w fun e w' => e = .returned (.tuple #[.int .i64 (fG banks[bank][cell] noise), .int .i64 0]) ∧ Ext w w' := by
 have HF := hide h
 obtain ⟨b, o, c, bv, rfl, hbw, hcell, hr⟩ := h.at_ hb
 have hm1 : banks.length ≤ maxLen := by
  obtain ⟨bvs, h1, _⟩ := h.ex
  exact h1.len_le
 have hm2 := hr.len_le
 obtain ⟨b2, o2, c2, u, rfl, _, _, hb2, hu, hcell2⟩ := hr.at1 hc
 rw [List.getElem?_map, zH hc] at hu
 cases hu
 unfold maxLen at hm1 hm2
 clear h
 have hq : ∀ x : Int, fG x noise = if x = 2 then 1 else if x = 1 then (if noise = true then 1 else 0) else 0 := by
  intro x; unfold fG; by_cases h1 : x = 2 <;> by_cases h2 : x = 1 <;> cases noise <;> simp_all
 have HQ := hide (hq banks[bank][cell])
 have HE := hide (aCm _ banks bank cell (w.alloc (.cells #[.slice (some ⟨b, o, none⟩) banks.length c] 49)) ((aA HF).ext (Chg.alloc (Ext.refl _) _)) hb hc)
 clear hq hr
 generalize banks[bank][cell] = x at *
 have hlt : cell < banks[bank].length := hc
 clear hc
 generalize banks[bank].length = m at *
 go_enter Tryz.func41, Tryz.ntmps41
 go_wp2_with fail
 refine (aA HE).mono ?_
 rintro e w1 ⟨rfl, hE⟩
 have hcr := hE.rules
 simp only [World.size_alloc] at hcr
 have hsz := hE.size'
 simp only [World.size_alloc] at hsz
 have HEE := hide hE
 clear hE
 have hfin : Hid (Ext w w1) := hide ((Chg.alloc (Ext.refl _) _).trans (aA HEE))
 by_cases h2 : x = 2
 ·have e1 : (x == 2) = true := by simp [h2]
  have HX := hide h2
  clear h2
  go_wp2
  go_ret2
  exact ⟨xM (by rw [aA HQ, if_pos (aA HX)]), aA hfin⟩
 ·by_cases h1 : x = 1
  ·have e1 : (x == 2) = false := by simp [h2]
   have e2 : (x == 1) = true := by simp [h1]
   have HX := hide h2
   have HY := hide h1
   clear h2 h1
   cases noise with
   | true =>
    go_wp2
    go_ret2
    exact ⟨xM (by rw [aA HQ, if_neg (aA HX), if_pos (aA HY)]; rfl), aA hfin⟩
   | false =>
    go_wp2
    go_ret2
    exact ⟨xM (by rw [aA HQ, if_neg (aA HX), if_pos (aA HY)]; rfl), aA hfin⟩
  ·have e1 : (x == 2) = false := by simp [h2]
   have e2 : (x == 1) = false := by simp [h1]
   have HX := hide h2
   have HY := hide h1
   clear h2 h1
   go_wp2
   go_ret2
   exact ⟨xM (by rw [aA HQ, if_neg (aA HX), if_neg (aA HY)]), aA hfin⟩
theorem oV : SlTy Tryz.prog 40 5 1 1 := SlTy.mk' (z := .int .u8 0) (by kernel_rfl) (by kernel_rfl) rfl (by omega) (by omega)
theorem bank_row : SlTy Tryz.prog 47 40 1 24 := SlTy.mk' (z := .slice none 0 0) (by kernel_rfl) (by kernel_rfl) rfl (by omega) (by omega)
structure OwnBanks (w : World) (B : Nat) (bvs : List Value) (banks : List (List Int)) : Prop where
 len : bvs.length = banks.length
 each : ∀ (k : Nat) (bv : Value) (l : List Int), bvs[k]? = some bv → banks[k]? = some l → w.ownsRow B 5 1 bv l.length (l.map (Value.int .u8))
 apart : ∀ (i j : Nat) (bi bj : Value) (g : Nat), bvs[i]? = some bi → bvs[j]? = some bj → i ≠ j → bi.ownBlock = some g → bj.ownBlock ≠ some g
theorem OwnBanks.nil (w : World) (B : Nat) : OwnBanks w B [] [] := ⟨rfl, fun k bv l h => by simp at h, fun i j bi bj g h => by simp at h⟩
theorem OwnBanks.chg {w w' : World} {B : Nat} {bvs : List Value} {banks : List (List Int)} {S : Nat → Prop} (h : OwnBanks w B bvs banks) (hc : Chg S w w') (hS : ∀ (k : Nat) (bv : Value) (g : Nat), bvs[k]? = some bv → bv.ownBlock = some g → ¬ S g) : OwnBanks w' B bvs banks :=
 ⟨h.len, fun k bv l h1 h2 => dB (h.each k bv l h1 h2) hc (fun g hg => hS k bv g h1 hg), h.apart⟩
theorem OwnBanks.snoc {w : World} {B : Nat} {bvs : List Value} {banks : List (List Int)} (h : OwnBanks w B bvs banks) {bv : Value} {l : List Int} (ho : w.ownsRow B 5 1 bv l.length (l.map (Value.int .u8)))
  (hn : ∀ (k : Nat) (b : Value) (g : Nat), bvs[k]? = some b → b.ownBlock = some g → bv.ownBlock ≠ some g) : OwnBanks w B (bvs ++ [bv]) (banks ++ [l]) := by
 have hlen := h.len
 refine ⟨by simp [hlen], fun k b x h1 h2 => ?_, fun i j bi bj g h1 h2 hij hg => ?_⟩
 ·rw [List.getElem?_append] at h1 h2
  by_cases hk : k < bvs.length
  ·rw [if_pos hk] at h1
   rw [if_pos (by omega)] at h2
   exact h.each k b x h1 h2
  ·rw [if_neg hk] at h1
   rw [if_neg (by omega)] at h2
   have e1 : k - bvs.length = 0 := by
    rcases Nat.eq_zero_or_pos (k - bvs.length) with e | e
    ·exact e
    ·rw [List.getElem?_eq_none (by simp; omega)] at h1; cases h1
   rw [e1] at h1
   rw [← hlen, e1] at h2
   cases h1
   cases h2
   exact ho
 ·rw [List.getElem?_append] at h1 h2
  have z : ∀ (i : Nat) (b : Value), ¬ i < bvs.length → ([bv] : List Value)[i - bvs.length]? = some b → i = bvs.length ∧ b = bv := by
   intro i b hi hb
   rcases Nat.eq_zero_or_pos (i - bvs.length) with e | e
   ·rw [e] at hb; cases hb; exact ⟨by omega, rfl⟩
   ·rw [List.getElem?_eq_none (by simp; omega)] at hb; cases hb
  by_cases hi : i < bvs.length
  ·rw [if_pos hi] at h1
   by_cases hj : j < bvs.length
   ·rw [if_pos hj] at h2
    exact h.apart i j bi bj g h1 h2 hij hg
   ·rw [if_neg hj] at h2
    obtain ⟨_, rfl⟩ := z j bj hj h2
    exact hn i bi g h1 hg
  ·rw [if_neg hi] at h1
   obtain ⟨hi', rfl⟩ := z i bi hi h1
   by_cases hj : j < bvs.length
   ·rw [if_pos hj] at h2
    exact fun h' => hn j bj g h2 h' hg
   ·rw [if_neg hj] at h2
    obtain ⟨hj', _⟩ := z j bj hj h2
    omega
theorem OwnBanks.reads {w : World} {B : Nat} {bvs : List Value} {banks : List (List Int)} (h : OwnBanks w B bvs banks) : BanksIn w bvs banks :=
 ⟨h.len, fun k bv l h1 h2 => Reads.of_own (h.each k bv l h1 h2)⟩
theorem aJd {w1 wr w8 w10 : World} {k : Nat} {bvs : List Value} {banks : List (List Int)} {l : List Int} {v : Value} {A8 A10 : Option Addr} {c8 c10 : Nat}
  (hbo : Blk wr w1.heap.size 49 #[v]) (hown : wr.ownsRow w1.heap.size 40 1 v k bvs) (hob : OwnBanks wr w1.heap.size bvs banks) (hext : Ext w1 wr)
  (ho8 : w8.ownsRow w1.heap.size 5 1 (.slice A8 l.length c8) l.length (l.map (Value.int .u8))) (hc8 : Chg (fun j => (Value.slice (some ⟨wr.heap.size, 0, none⟩) 0 0).ownBlock = some j) (wr.alloc (.cells #[] 5)).drew w8)
  (hv8 : (Value.slice A8 l.length c8).ownBlock = (Value.slice (some ⟨wr.heap.size, 0, none⟩) 0 0).ownBlock ∨ ∃ g, (Value.slice A8 l.length c8).ownBlock = some g ∧ (wr.alloc (.cells #[] 5)).drew.heap.size ≤ g ∧ g < w8.heap.size)
  (ho10 : w10.ownsRow w1.heap.size 40 1 (.slice A10 (k + 1) c10) (k + 1) (bvs ++ [.slice A8 l.length c8])) (hc10 : Chg (fun j => v.ownBlock = some j) (w8.alloc (.cells #[.slice A8 l.length c8] 40)) w10) :
  Blk (w10.setCell ⟨w1.heap.size, 0, none⟩ (.slice A10 (k + 1) c10)) w1.heap.size 49 #[.slice A10 (k + 1) c10] ∧
  (w10.setCell ⟨w1.heap.size, 0, none⟩ (.slice A10 (k + 1) c10)).ownsRow w1.heap.size 40 1 (.slice A10 (k + 1) c10) (k + 1) (bvs ++ [.slice A8 l.length c8]) ∧
  OwnBanks (w10.setCell ⟨w1.heap.size, 0, none⟩ (.slice A10 (k + 1) c10)) w1.heap.size (bvs ++ [.slice A8 l.length c8]) (banks ++ [l]) ∧
  Ext w1 (w10.setCell ⟨w1.heap.size, 0, none⟩ (.slice A10 (k + 1) c10)) := by
 have hB := hext.size'
 have hlo := hbo.lt
 have hvlt := hown.lt
 have e0 : Ext wr (wr.alloc (.cells #[] 5)).drew := Chg.drew (Chg.alloc (Ext.refl _) _)
 have e1 : Ext w8 (w8.alloc (.cells #[.slice A8 l.length c8] 40)) := Chg.alloc (Ext.refl _) _
 have b8 : Blk w8 w1.heap.size 49 #[v] := (hbo.ext e0).chg hc8 (pU (by omega))
 have hvb : v.ownBlock ≠ some w1.heap.size := oJ hown hbo (by decide)
 have b10 : Blk w10 w1.heap.size 49 #[v] := (b8.ext e1).chg hc10 hvb
 have o8 : w8.ownsRow w1.heap.size 40 1 v k bvs := dB (aQ hown e0) hc8 (fun g hg => pU (by have := (hvlt g hg).2; omega))
 have cs : Chg (fun j => j = w1.heap.size) w10 (w10.setCell ⟨w1.heap.size, 0, none⟩ (.slice A10 (k + 1) c10)) := Chg.setCell (S := fun j => j = w1.heap.size) (p := ⟨w1.heap.size, 0, none⟩) (Chg.refl _ _) (.inl rfl) _
 have n10 : (Value.slice A10 (k + 1) c10).ownBlock ≠ some w1.heap.size := oJ ho10 b10 (by decide)
 have ob8 : OwnBanks w8 w1.heap.size bvs banks := (hob.chg e0 (fun _ _ _ _ _ h => h)).chg hc8 (fun j bv g h1 h2 => by
  have hj : j < banks.length := by
   have := hob.len
   rcases Nat.lt_or_ge j bvs.length with hh | hh
   ·omega
   ·rw [List.getElem?_eq_none hh] at h1; cases h1
  have := ((hob.each j bv banks[j] h1 (zH hj)).lt g h2).2
  exact pU (by omega))
 have ob10 : OwnBanks w10 w1.heap.size bvs banks := (ob8.chg e1 (fun _ _ _ _ _ h => h)).chg hc10 (fun j bv g h1 h2 => by
  have hj : j < banks.length := by
   have := hob.len
   rcases Nat.lt_or_ge j bvs.length with hh | hh
   ·omega
   ·rw [List.getElem?_eq_none hh] at h1; cases h1
  exact own_ne (ob8.each j bv banks[j] h1 (zH hj)) o8 (by decide) h2)
 have l10 : w10.ownsRow w1.heap.size 5 1 (.slice A8 l.length c8) l.length (l.map (Value.int .u8)) := dB (aQ ho8 e1) hc10 (fun g hg => own_ne ho8 o8 (by decide) hg)
 have s10 : OwnBanks w10 w1.heap.size (bvs ++ [.slice A8 l.length c8]) (banks ++ [l]) := ob10.snoc l10 (fun j bv g h1 h2 => by
  have hj : j < banks.length := by
   have := hob.len
   rcases Nat.lt_or_ge j bvs.length with hh | hh
   ·omega
   ·rw [List.getElem?_eq_none hh] at h1; cases h1
  have hg := ((hob.each j bv banks[j] h1 (zH hj)).lt g h2).2
  rcases hv8 with e | ⟨g', e, hg', _⟩
  ·rw [e]; exact pU (by omega)
  ·rw [e]
   intro e2
   injection e2 with e2
   simp at hg'
   omega)
 refine ⟨b10.set_ 0 _, dB ho10 cs (fun g hg e => n10 (by rw [hg, e])), s10.chg cs (fun j bv g h1 h2 e => ?_), ?_⟩
 ·have hj : j < (banks ++ [l]).length := by
   have := s10.len
   rcases Nat.lt_or_ge j (bvs ++ [Value.slice A8 l.length c8]).length with hh | hh
   ·omega
   ·rw [List.getElem?_eq_none hh] at h1; cases h1
  exact oJ (s10.each j bv (banks ++ [l])[j] h1 (zH hj)) b10 (by decide) (by rw [h2, e])
 ·refine Chg.trans' (S := Non) (T := fun j => j = w1.heap.size) (b := w10) ?_ cs (fun _ _ h => h) (fun i hi e => by omega)
  refine Chg.trans' (S := Non) (T := fun j => v.ownBlock = some j) (b := w8.alloc (.cells #[.slice A8 l.length c8] 40)) ?_ hc10 (fun _ _ h => h) (fun i hi e => by have := (hvlt i e).1; omega)
  refine Chg.alloc ?_ _
  exact Chg.trans' (S := Non) (hext.trans e0) hc8 (fun _ _ h => h) (fun i hi e => by
   simp only [Value.ownBlock, Option.some.injEq] at e
   omega)
theorem OwnBanks.set_ {w : World} {B : Nat} {bvs : List Value} {banks : List (List Int)} (h : OwnBanks w B bvs banks) {bank cell : Nat} {g cap : Nat} {l : List Int} (hv : bvs[bank]? = some (.slice (some ⟨g, 0, none⟩) l.length cap)) (hl : banks[bank]? = some l) (hc : cell < l.length) (y : Int) :
  OwnBanks (w.setCell ⟨g, cell, none⟩ (.int .u8 y)) B bvs (banks.set bank (l.set cell y)) := by
 refine ⟨by rw [List.length_set]; exact h.len, fun k bv x h1 h2 => ?_, h.apart⟩
 by_cases hk : k = bank
 ·subst hk
  rw [hv] at h1
  cases h1
  have hb : k < banks.length := (List.getElem?_eq_some_iff.1 hl).1
  rw [List.getElem?_set_self hb] at h2
  cases h2
  have := own_set (h.each k _ l hv hl) cell hc (.int .u8 y)
  rw [List.length_set, List.map_set]
  exact this
 ·rw [List.getElem?_set_ne (fun e => hk e.symm)] at h2
  exact dB (S := fun j => j = g) (h.each k bv x h1 h2) (Chg.setCell (S := fun j => j = g) (p := ⟨g, cell, none⟩) (Chg.refl _ _) (.inl rfl) _) (fun j hj e => h.apart k bank bv _ j h1 hv hk hj (by rw [e]; rfl))
def dV (B : Nat) (w : World) (fv : Value) (banks : List (List Int)) : Prop :=
 ∃ B' bvs, B ≤ B' ∧ w.ownsRow B' 40 1 fv banks.length bvs ∧ OwnBanks w B' bvs banks
theorem dV.fuses {B : Nat} {w : World} {fv : Value} {banks : List (List Int)} (h : dV B w fv banks) : FusesIn w fv banks := by
 obtain ⟨B', bvs, _, h1, h2⟩ := h
 exact ⟨bvs, Reads.of_own h1, OwnBanks.reads h2⟩
theorem dV.chg {B : Nat} {w w' : World} {fv : Value} {banks : List (List Int)} (h : dV B w fv banks) {S : Nat → Prop} (hc : Chg S w w') (hS : ∀ k, B ≤ k → ¬ S k) : dV B w' fv banks := by
 obtain ⟨B', bvs, hB, h1, h2⟩ := h
 refine ⟨B', bvs, hB, dB h1 hc (fun j hj => hS j (Nat.le_trans hB (h1.lt j hj).1)), h2.chg hc (fun k bv j e1 e2 => ?_)⟩
 have hk : k < banks.length := by
  have := h2.len
  rcases Nat.lt_or_ge k bvs.length with hh | hh
  ·omega
  ·rw [List.getElem?_eq_none hh] at e1; cases e1
 exact hS j (Nat.le_trans hB ((h2.each k bv banks[k] e1 (zH hk)).lt j e2).1)
theorem wE {w wr : World} {B r : Nat} {bvs : List Value} {banks : List (List Int)} {g cap : Nat} {V : Value} (hown : wr.ownsRow B 40 1 (.slice (some ⟨g, 0, none⟩) banks.length cap) banks.length bvs) (hob : OwnBanks wr B bvs banks) (hr : r < B) (hw : w.heap.size ≤ r) (he : Ext w wr) :
  dV w.heap.size (wr.setCell ⟨r, 0, none⟩ V) (.slice (some ⟨g, 0, none⟩) banks.length cap) banks ∧ Ext w (wr.setCell ⟨r, 0, none⟩ V) := by
 have hc : Chg (fun j => j = r) wr (wr.setCell ⟨r, 0, none⟩ V) := Chg.setCell (S := fun j => j = r) (p := ⟨r, 0, none⟩) (Chg.refl _ _) (.inl rfl) _
 have h0 : dV B wr (.slice (some ⟨g, 0, none⟩) banks.length cap) banks := ⟨B, bvs, Nat.le_refl _, hown, hob⟩
 obtain ⟨B', bvs', hB, h1, h2⟩ := h0.chg hc (fun k hk e => by omega)
 exact ⟨⟨B', bvs', by omega, h1, h2⟩, Chg.setCell (p := ⟨r, 0, none⟩) he (.inr hw) _⟩
theorem aNa {α : Type} (l : List α) (k : Nat) (h : k < l.length) : l.take (k + 1) = l.take k ++ [l[k]] := by rw [List.take_add_one, zH h]; rfl
theorem aCf (fv : Value) (banks : List (List Int)) (bank cell : Nat) (cut : Bool) (w : World) (h : FusesIn w fv banks) (hb : bank < banks.length) (hc : cell < banks[bank].length) (hn : banks.length ≤ 1000) (hn2 : ∀ l ∈ banks, l.length ≤ 100000) :
    Calls Tryz.prog 42 #[.agg #[fv], .int .i64 (bank : Int), .int .i64 (cell : Int), .bool cut] w fun e w' =>
      ∃ fv', e = .returned (.tuple #[.agg #[fv'], .int .i64 0]) ∧ dV w.heap.size w' fv' (banks.set bank (banks[bank].set cell (dK banks[bank][cell] cut))) ∧ Ext w w' := by
  have HF := hide h
  obtain ⟨_, ⟨_, A, c, rfl, _⟩, _⟩ := h.ex
  have HE := hide (aCm _ banks bank cell ((w.alloc (.cells #[.slice A banks.length c] 49)).alloc (.cells #[.slice none 0 0] 49)) ((aA HF).ext (Chg.alloc (Chg.alloc (Ext.refl _) _) _)) hb hc)
  clear h
  go_enter Tryz.func42, Tryz.ntmps42
  go_wp2_with fail
  refine (aA HE).mono ?_
  rintro e w1 ⟨rfl, hE⟩
  have hBf := ((Blk.new w 49 #[.slice A banks.length c]).alloc (.cells #[.slice none 0 0] 49)).ext hE
  have hBr := (Blk.new' (w.alloc (.cells #[.slice A banks.length c] 49)) 49 #[.slice none 0 0] (g := w.heap.size + 1) (by simp)).ext hE
  have hsz := hE.size'
  simp only [World.size_alloc] at hsz
  have HX : Hid (Ext w w1) := hide ((Chg.alloc (Chg.alloc (Ext.refl _) _) _).trans hE)
  clear hE HE
  obtain ⟨f0, ff, fl⟩ := hBf.cells1
  obtain ⟨r0, rf, rl⟩ := hBr.cells1
  have HB := hide (And.intro hBf hBr)
  clear hBf hBr
  go_wp2
  have HS : Hid (w.heap.size + 1 < w1.heap.size) := hide (by omega)
  go_loopw [11] (fun i wr => ∃ (k : Nat) (bvs : List Value) (v : Value), k ≤ banks.length ∧ i = .int .i64 k ∧ Blk wr w1.heap.size 49 #[v] ∧ wr.ownsRow w1.heap.size 40 1 v k bvs ∧ OwnBanks wr w1.heap.size bvs (banks.take k) ∧ Ext w1 wr) (fun i _ => banks.length - (intOf i).toNat)
  case atStart => exact ⟨0, [], .slice none 0 0, by omega, rfl, Blk.new _ _ _, World.ownsRow_nil _ _ _ _, OwnBanks.nil _ _, Chg.alloc (Ext.refl _) _⟩
  case round =>
    obtain ⟨k, bvs, v, hk, rfl, hbo, hown, hob, hext⟩ := hrel
    have hf1 := (aA HB).1.ext hext
    obtain ⟨g0, gf, gl⟩ := hf1.cells1
    obtain ⟨o0, of, ol⟩ := hbo.cells1
    by_cases hlt : k < banks.length
    · obtain ⟨b, o, c', bv, hv, hbw, hcell, hr⟩ := (aA HF).at_ hlt
      cases hv
      have hE2 : Ext w wr := (aA HX).trans hext
      have hcell := hE2.cellv hcell
      have hr := hr.ext hE2
      have hlen : banks[k].length ≤ 100000 := hn2 _ (List.getElem_mem hlt)
      have hk0 : (0 : Int) ≤ (k : Int) := by omega
      have hk1 : (k : Int) < (banks.length : Int) := by omega
      have HO := hide (And.intro hbo (And.intro hown (And.intro hob hext)))
      have HR := hide hr
      clear hbo hown hob hr hf1 f0 ff r0 rf hext hE2
      have hB : w1.heap.size ≤ wr.heap.size := (aA HO).2.2.2.size'
      go_wp2
      have hvB : ∀ g, v.ownBlock = some g → w1.heap.size ≤ g ∧ g < wr.heap.size ∧ ¬ g = w1.heap.size := fun g hg => ⟨((aA HO).2.1.lt g hg).1, ((aA HO).2.1.lt g hg).2, fun e => oJ (aA HO).2.1 (aA HO).1 (by decide) (e ▸ hg)⟩
      have hbwr : b < wr.heap.size := by omega
      go_region_law (first
          | (refine rV (s := .tmp 28) (x := .tmp 33) rfl rfl oV (v := .slice (some ⟨wr.heap.size, 0, none⟩) 0 0) rfl (B := w1.heap.size) (n := 0) (xs := []) (by exact vG wr _ _ _ hB) rfl (by exact ((aA HR).ext (Chg.alloc (Ext.refl _) _)).ext (Chg.drew (Ext.refl _))) (bP.map (fun _ => rfl) _) (by omega) (by exact Nat.le_trans hB (by simp)) ?_; intro A8 c8 w8 ho8 hc8 hv8; simp only [Nat.zero_add, List.nil_append] at ho8 hv8
             have hl8 : w1.heap.size < w8.heap.size := Nat.lt_of_lt_of_le (by simp; omega) hc8.size
             have hs8' : w8.cell? ⟨w1.heap.size, 0, none⟩ = some v ∧ w8.cell? ⟨w.heap.size, 0, none⟩ = some (.slice (some ⟨b, o, none⟩) banks.length c) ∧ w8.cell? ⟨b, o + k, none⟩ = some bv := ⟨hc8.cellv (Ext.cellv (Chg.drew (Chg.alloc (Ext.refl _) _)) o0) (pU (by simp only; omega)), hc8.cellv (Ext.cellv (Chg.drew (Chg.alloc (Ext.refl _) _)) g0) (pU (by simp only; omega)), hc8.cellv (Ext.cellv (Chg.drew (Chg.alloc (Ext.refl _) _)) hcell) (pU (by simp only; omega))⟩)
          | (refine rV (s := .tmp 27) (x := .tmp 35) rfl rfl bank_row (v := v) rfl (B := w1.heap.size) (n := k) (xs := bvs) (by exact aQ (dB (aQ (aA HO).2.1 (Chg.drew (Chg.alloc (Ext.refl _) _))) hc8 (fun g hg => pU (by have := (hvB g hg).2.1; omega))) (Chg.alloc (Ext.refl _) _)) rfl (by exact Reads.new1 _ _ _) (bP.one rfl) (by omega) (by exact Nat.le_trans hB (Nat.le_trans (by simp) (Nat.le_trans hc8.size (by simp)))) ?_; intro A10 c10 w10 ho10 hc10 hv10
             have hs10 : w10.cell? ⟨w1.heap.size, 0, none⟩ = some v ∧ w10.cell? ⟨w.heap.size, 0, none⟩ = some (.slice (some ⟨b, o, none⟩) banks.length c) ∧ w10.cell? ⟨b, o + k, none⟩ = some bv := ⟨hc10.cellv (Ext.cellv (Chg.alloc (Ext.refl _) _) hs8'.1) (fun e => (hvB _ e).2.2 rfl), hc10.cellv (Ext.cellv (Chg.alloc (Ext.refl _) _) hs8'.2.1) (fun e => by have := (hvB _ e).1; simp only at this; omega), hc10.cellv (Ext.cellv (Chg.alloc (Ext.refl _) _) hs8'.2.2) (fun e => by have := (hvB _ e).1; simp only at this; omega)⟩
             have hf10 : w10.frozen? ⟨w1.heap.size, 0, none⟩ = false := hc10.frozenv (Ext.frozenv (Chg.alloc (Ext.refl _) _) (hc8.frozenv (Ext.frozenv (Chg.drew (Chg.alloc (Ext.refl _) _)) (of 0) ol) (by simp; omega) (pU (by simp only; omega))) (Nat.lt_of_lt_of_le (by simp; omega) hc8.size)) (Nat.lt_of_lt_of_le (Nat.lt_of_lt_of_le (by simp; omega) hc8.size) (by simp)) (fun e => (hvB _ e).2.2 rfl)))
      all_goals
        have HH := hide (aJd (aA HO).1 (aA HO).2.1 (aA HO).2.2.1 (aA HO).2.2.2 ho8 hc8 hv8 ho10 hc10)
        clear hs8' hs10 hf10 hl8 ho8 hc8 hv8 ho10 hc10 hv10 HO
        go_wp2
        go_roundw
        case rel => exact ⟨k + 1, _, _, by omega, by go_num, (aA HH).1, (aA HH).2.1, by rw [aNa banks k hlt]; exact (aA HH).2.2.1, (aA HH).2.2.2⟩
        case measure => simp [intOf]; omega
    · obtain rfl : k = banks.length := by omega
      rw [List.take_length] at hob
      obtain ⟨g, cap, u, rfl, hg1, hg2, hu, hcu, hgf⟩ := aGl hown hb
      obtain ⟨gb, cb, x, hub, hb1, hb2, hx, hcx, hbf⟩ := aGl (hob.each bank u banks[bank] hu (zH hb)) hc
      subst hub
      rw [List.getElem?_map, zH hc] at hx
      cases hx
      have hgg : ¬ gb = g := fun e => own_ne (hob.each bank _ banks[bank] hu (zH hb)) hown (by decide) (g := gb) rfl (by rw [e]; rfl)
      have hbr := (aA HB).2.ext hext
      obtain ⟨r0', rf', rl'⟩ := hbr.cells1
      have hgr : ¬ gb = w.heap.size + 1 := by have := aA HS; omega
      have hgr2 : ¬ g = w.heap.size + 1 := by have := aA HS; omega
      have hgo : ¬ gb = w1.heap.size := fun e => oJ (hob.each bank _ banks[bank] hu (zH hb)) hbo (by decide) (by rw [← e]; rfl)
      have hwo : ¬ w.heap.size + 1 = w1.heap.size := by have := aA HS; omega
      have HH := hide (And.intro hown (And.intro hob (And.intro hext hu)))
      have hb0 : (bank : Int) < (banks.length : Int) := by omega
      have hc0 : (cell : Int) < (banks[bank].length : Int) := by omega
      have hlen : banks[bank].length ≤ 100000 := hn2 _ (List.getElem_mem hb)
      clear hown hob hext hu hf1 hbr r0 rf f0 ff
      generalize hX : banks[bank][cell] = x at *
      have HXX := hide hX
      clear hX
      have HP := hide (show dK x cut = if x ≤ 1 then (if cut then 1 else 2) else x from rfl)
      by_cases hle : x ≤ 1
      · have HL := hide hle
        cases cut with
        | true =>
          have HY : Hid (dK banks[bank][cell] true = 1) := hide (by rw [aA HXX, aA HP, if_pos hle]; rfl)
          go_wp2
          refine bodyPost_ret (v := .tuple #[.agg #[.slice (some ⟨g, 0, none⟩) banks.length cap], .int .i64 0]) (by simp [results, Tryz.results42, go_sem, r0']) rfl ⟨_, rfl, ?_⟩
          rw [aA HY]
          have h0 := dB (S := fun j => j = gb) (aA HH).1 (Chg.setCell (S := fun j => j = gb) (p := ⟨gb, cell, none⟩) (Chg.refl _ _) (.inl rfl) (.int .u8 1)) (fun j hj e => by cases hj; exact hgg e.symm)
          have h1 := (aA HH).2.1.set_ (aA HH).2.2.2 (zH hb) hc 1
          have hl : (banks.set bank (banks[bank].set cell 1)).length = banks.length := List.length_set
          rw [← hl] at h0 ⊢
          exact wE h0 h1 (aA HS) (by omega) (Chg.setCell (p := ⟨gb, cell, none⟩) ((aA HX).trans (aA HH).2.2.1) (.inr (by simp only; omega)) _)
        | false =>
          have HY : Hid (dK banks[bank][cell] false = 2) := hide (by rw [aA HXX, aA HP, if_pos hle]; rfl)
          go_wp2
          refine bodyPost_ret (v := .tuple #[.agg #[.slice (some ⟨g, 0, none⟩) banks.length cap], .int .i64 0]) (by simp [results, Tryz.results42, go_sem, r0']) rfl ⟨_, rfl, ?_⟩
          rw [aA HY]
          have h0 := dB (S := fun j => j = gb) (aA HH).1 (Chg.setCell (S := fun j => j = gb) (p := ⟨gb, cell, none⟩) (Chg.refl _ _) (.inl rfl) (.int .u8 2)) (fun j hj e => by cases hj; exact hgg e.symm)
          have h1 := (aA HH).2.1.set_ (aA HH).2.2.2 (zH hb) hc 2
          have hl : (banks.set bank (banks[bank].set cell 2)).length = banks.length := List.length_set
          rw [← hl] at h0 ⊢
          exact wE h0 h1 (aA HS) (by omega) (Chg.setCell (p := ⟨gb, cell, none⟩) ((aA HX).trans (aA HH).2.2.1) (.inr (by simp only; omega)) _)
      · have hx2 : ¬ x ≤ 1 := hle
        have HY : Hid (dK banks[bank][cell] cut = banks[bank][cell]) := hide (by rw [aA HXX, aA HP, if_neg hle])
        go_wp2
        refine bodyPost_ret (v := .tuple #[.agg #[.slice (some ⟨g, 0, none⟩) banks.length cap], .int .i64 0]) (by simp [results, Tryz.results42, go_sem, r0']) rfl ⟨_, rfl, ?_⟩
        rw [aA HY, List.set_getElem_self, List.set_getElem_self]
        exact wE (aA HH).1 (aA HH).2.1 (aA HS) (by omega) ((aA HX).trans (aA HH).2.2.1)
end Go.Proofs.YtihghljfmlbfhaaGreatDoor
namespace Go.Proofs.YtihghljfmlbfhaaGreatDoor.Pv
open Go.RowKit
theorem aCp {C : Ctx} {k : Nat} {g : Nat → List PC} {bv : Value} (h : R C (.sl 1 k g) [bv]) (hg : ∀ j, j < k → aTp (g j) = true) : Reads C.w 1 bv ((List.range k).map fun j => u8Of (g j)).length (((List.range k).map fun j => u8Of (g j)).map (Value.int .u8)) := by
 cases h with
 | sl hr hb he =>
  rename_i vs
  have : vs = ((List.range k).map fun j => u8Of (g j)).flatMap fun z => [Value.int .u8 z] := by
   refine aJw (fun z => [Value.int .u8 z]) 1 _ vs (fun a _ => rfl) (by simpa using hr.1) (fun i hi => ?_)
   have hi' : i < k := by simpa using hi
   have h1 := he i hi'
   rw [aDx (hg i hi')] at h1
   rw [List.getElem_map, List.getElem_range]
   generalize (vs.drop (i * 1)).take 1 = xs at h1 ⊢
   cases h1 with
   | cons k1 h1 => cases h1; cases k1; rfl
  rw [List.length_map, List.length_range]
  have e : (((List.range k).map fun j => u8Of (g j)).map (Value.int .u8)) = vs := by
   rw [this]
   generalize (List.range k).map (fun j => u8Of (g j)) = l
   induction l with
   | nil => rfl
   | cons a l ih => rw [List.map_cons, List.flatMap_cons, ih]; rfl
  rw [e]
  exact hr
theorem aLt {C : Ctx} {n : Nat} {f : Nat → List PC} {fv : Value} (h : R C (.sl 1 n f) [fv]) (hf : gW n f) : FusesIn C.w fv (bJ n f) := by
 cases h with
 | sl hr hb he =>
  rename_i vs
  refine ⟨vs, by rw [dH]; exact hr, ⟨by rw [dH]; simpa using hr.1, fun k bv l h1 h2 => ?_⟩⟩
  have hk : k < n := by
   have := (List.getElem?_eq_some_iff.1 h2).1
   rwa [dH] at this
  have h3 := he k hk
  have h4 := hf k hk
  have e1 : (vs.drop (k * 1)).take 1 = [bv] := by
   rw [Nat.mul_one]
   have hv : k < vs.length := (List.getElem?_eq_some_iff.1 h1).1
   rw [List.drop_eq_getElem_cons hv]
   have : vs[k] = bv := by rw [zH hv] at h1; exact Option.some.inj h1
   rw [this]
   rfl
  rw [e1] at h3
  have e2 : l = bkOf (f k) := by
   unfold bJ at h2
   rw [List.getElem?_map, List.getElem?_range hk] at h2
   exact (Option.some.inj h2).symm
  rw [e2]
  clear e2 h2 h1 e1
  generalize f k = c at h3 h4 ⊢
  unfold aWu at h4
  split at h4
  ·rename_i kk g
   have h5 : R C.cold (.sl 1 kk g) [bv] := by
    have := h3.single
    exact this
   exact aCp (C := C.cold) h5 h4
  ·exact h4.elim
theorem r_bank {C : Ctx} {bv : Value} {l : List Int} (h : Reads C.w 1 bv l.length (l.map (Value.int .u8))) (hb : ∀ g, bv.ownBlock = some g → 0 < l.length → C.ok g ∧ g < C.w.heap.size) : R C (.sl 1 l.length (u8F l)) [bv] :=
 .sl h hb (fun i hi => by
  have e : ((l.map (Value.int .u8)).drop (i * 1)).take 1 = [.int .u8 (l.getD i 0)] := by
   rw [Nat.mul_one, List.drop_eq_getElem_cons (by simpa using hi), List.getElem_map, zG, zH hi]
   rfl
  rw [e]
  exact .cons (xs := [_]) (.lit rfl) .nil)
theorem aAb {w' : World} {B : Nat} {fv : Value} {banks : List (List Int)} (h : dV B w' fv banks) {ok : Nat → Prop} (hok : ∀ b, B ≤ b → ok b) : R { w := w', ok := ok, env := fun _ => none } (.sl 1 banks.length (bT banks)) [fv] := by
 obtain ⟨B', bvs, h1, h2, h3⟩ := h
 refine .sl (Reads.of_own h2) (fun g hg _ => ⟨hok g (Nat.le_trans h1 (h2.lt g hg).1), (h2.lt g hg).2⟩) (fun i hi => ?_)
 have hl : i < bvs.length := by rw [h3.len]; exact hi
 have e : (bvs.drop (i * 1)).take 1 = [bvs[i]] := by
  rw [Nat.mul_one, List.drop_eq_getElem_cons hl]; rfl
 rw [e]
 have h4 := h3.each i bvs[i] banks[i] (zH hl) (zH hi)
 have e2 : bT banks i = bkPC banks[i] := by unfold bT; rw [zG, zH hi]; rfl
 rw [e2]
 refine .cons (xs := [_]) (r_bank (Reads.of_own h4) (fun g hg _ => ⟨hok g (Nat.le_trans h1 (h4.lt g hg).1), (h4.lt g hg).2⟩)) .nil
end Go.Proofs.YtihghljfmlbfhaaGreatDoor.Pv
namespace Go.Proofs.YtihghljfmlbfhaaGreatDoor
open Go.RowKit
structure Shp (h h' : HwS) : Prop where
 n : h'.b.length = h.b.length
 l : ∀ k, (h'.b.getD k []).length = (h.b.getD k []).length
 f : h'.f.length = h.f.length
theorem Shp.refl (h : HwS) : Shp h h := ⟨rfl, fun _ => rfl, rfl⟩
theorem Shp.trans {a b c : HwS} (h1 : Shp a b) (h2 : Shp b c) : Shp a c := ⟨h2.n.trans h1.n, fun k => (h2.l k).trans (h1.l k), h2.f.trans h1.f⟩
theorem aLd (b : List (List Int)) (bank cell : Int) (cut : Bool) : (pulB b bank cell cut).length = b.length ∧ ∀ k, ((pulB b bank cell cut).getD k []).length = (b.getD k []).length := by
 unfold pulB
 refine ⟨List.length_set .., fun k => ?_⟩
 rw [zG, zG (l := b) (i := k), List.getElem?_set]
 split
 ·rename_i e
  subst e
  split
  ·rename_i hlt
   rw [Option.getD_some, List.length_set, zG]
  ·rename_i hlt
   rw [List.getElem?_eq_none (by omega)]
 ·rfl
theorem aPa (f : Fl) (s : Int) (b : ByteArray) (cut : Int) : (aCe f s b cut).length = f.length := by
 unfold aCe
 split
 ·exact List.length_set ..
 ·rfl
theorem aVc (h : HwS) (a : Acc) (t : Flt) : Shp h (dF h a t).1 := by
 unfold dF
 repeat' split
 all_goals first
  | exact Shp.refl h
  | exact ⟨(aLd _ _ _ _).1, (aLd _ _ _ _).2, rfl⟩
  | exact ⟨rfl, fun _ => rfl, aPa _ _ _ _⟩
namespace Pv
structure KuM where
 live : Bool
 log : List Res
 F : List Flt
structure KuS where
 i : Nat
 ask : Acc
 stop : Bool
 cut : Bool
 h : HwS
def eX (m : KuM) (a : Acc) (s : KuS) : Res × KuS :=
 if s.stop = true then (iJ, s)
 else if m.live = true then
  if (bV m.F s.i).cut = true then (iJ, ⟨s.i + 1, s.ask, true, true, (dF s.h a (bV m.F s.i)).1⟩)
  else ((dF s.h a (bV m.F s.i)).2.1, ⟨s.i + 1, s.ask, s.stop, s.cut, (dF s.h a (bV m.F s.i)).1⟩)
 else match m.log[s.i]? with
  | some r => (r, ⟨s.i + 1, s.ask, s.stop, s.cut, s.h⟩)
  | none => (iJ, ⟨s.i, a, true, s.cut, s.h⟩)
def bK {α : Type} (m : KuM) : Prg α → KuS → α × KuS
 | .ret a, s => (a, s)
 | .ask c k, s => bK m (k (eX m c s).1) (eX m c s).2
theorem eQ {α β : Type} (m : KuM) (p : Prg α) (f : α → Prg β) : ∀ s, bK m (p.bind f) s = bK m (f (bK m p s).1) (bK m p s).2 := by
 induction p with
 | ret a => intro s; rfl
 | ask c k ih => intro s; exact ih _ _
structure KuOk (m : KuM) (s : KuS) : Prop where
 hw : HwOk s.h
 ll : m.log.length ≤ 1000000
 lb : ∀ r ∈ m.log, r.bytes.size ≤ 1000000
 lf : m.F.length ≤ 1000000
 i : s.i ≤ 1000000
theorem aTk (m : KuM) (a : Acc) (s : KuS) : s.i ≤ (eX m a s).2.i := by
 unfold eX
 repeat' split
 all_goals first
  | exact Nat.le_refl _
  | exact Nat.le_succ _
theorem aOs (m : KuM) (a : Acc) (s : KuS) : Shp s.h (eX m a s).2.h := by
 unfold eX
 repeat' split
 all_goals first
  | exact Shp.refl _
  | exact aVc _ _ _
theorem aTm (m : KuM) (a : Acc) (s : KuS) (h : HwOk s.h) : HwOk (eX m a s).2.h := by
 unfold eX
 repeat' split
 all_goals first
  | exact h
  | exact aMf _ _ h
theorem aTl {m : KuM} {a : Acc} {s : KuS} (h : KuOk m s) (hi : (eX m a s).2.i ≤ 1000000) : KuOk m (eX m a s).2 := ⟨aTm m a s h.hw, h.ll, h.lb, h.lf, hi⟩
theorem lC {α : Type} (m : KuM) (p : Prg α) : ∀ s, s.i ≤ (bK m p s).2.i := by
 induction p with
 | ret a => intro s; exact Nat.le_refl _
 | ask c k ih => intro s; exact Nat.le_trans (aTk m c s) (ih _ _)
theorem jU {α : Type} (m : KuM) (p : Prg α) : ∀ s, Shp s.h (bK m p s).2.h := by
 induction p with
 | ret a => intro s; exact Shp.refl _
 | ask c k ih => intro s; exact (aOs m c s).trans (ih _ _)
theorem lG {α : Type} {m : KuM} (p : Prg α) : ∀ {s}, KuOk m s → (bK m p s).2.i ≤ 1000000 → KuOk m (bK m p s).2 := by
 induction p with
 | ret a => intro s h _; exact h
 | ask c k ih => intro s h hi; exact ih _ (aTl h (Nat.le_trans (lC m _ _) hi)) hi
theorem tK (m : KuM) (a : Acc) {s : KuS} (h : s.stop = true) : eX m a s = (iJ, s) := if_pos h
theorem oN {α : Type} (m : KuM) (p : Prg α) : ∀ s : KuS, s.stop = true → (bK m p s).2 = s := by
 induction p with
 | ret a => intro s h; rfl
 | ask c k ih =>
  intro s h
  rw [bK, tK m c h]
  exact ih _ _ h
theorem aTn {α : Type} {R : α → Prop} {p : Prg α} (h : Prg.All R p) (m : KuM) : ∀ s, R (bK m p s).1 := by
 induction p with
 | ret a => intro s; exact h
 | ask c k ih => intro s; exact ih _ (h _) _
theorem aOu {α : Type} {m : KuM} (hm : m.live = true) (p : Prg α) : ∀ {s : KuS}, s.stop = false → s.cut = false →
  match gV m.F p s.h s.i with
  | (some a, h', j) => bK m p s = (a, ⟨j, s.ask, false, false, h'⟩)
  | (none, h', j) => (bK m p s).2 = ⟨j, s.ask, true, true, h'⟩ := by
 induction p with
 | ret a =>
  intro s h1 h2
  obtain ⟨i, ask, st, ct, h⟩ := s
  dsimp only at h1 h2
  subst h1 h2
  rfl
 | ask c k ih =>
  intro s h1 h2
  simp only [gV, bK]
  by_cases hc : (bV m.F s.i).cut = true
  ·rw [if_pos hc]
   have e : eX m c s = (iJ, ⟨s.i + 1, s.ask, true, true, (dF s.h c (bV m.F s.i)).1⟩) := by
    unfold eX
    rw [if_neg (by rw [h1]; exact Bool.false_ne_true), if_pos hm, if_pos hc]
   rw [e]
   exact oN m _ _ rfl
  ·rw [if_neg hc]
   have e : eX m c s = ((dF s.h c (bV m.F s.i)).2.1, ⟨s.i + 1, s.ask, s.stop, s.cut, (dF s.h c (bV m.F s.i)).1⟩) := by
    unfold eX
    rw [if_neg (by rw [h1]; exact Bool.false_ne_true), if_pos hm, if_neg hc]
   rw [e]
   exact ih _ (s := ⟨s.i + 1, s.ask, s.stop, s.cut, (dF s.h c (bV m.F s.i)).1⟩) h1 h2
def kuP (m : KuM) (s : KuS) : List PC := [.sl 2 m.log.length (resF m.log), .lit (.int .i64 (s.i : Int)), .lit (.int .i64 s.ask.kind), .lit (.int .i64 s.ask.bank), .lit (.int .i64 s.ask.cell), .lit (.string s.ask.bytes), .lit (.bool s.stop), .lit (.bool m.live), .sl 1 s.h.b.length (bT s.h.b), .sl 1 s.h.f.length (fsF s.h.f), .bs 16 s.h.r, .sl 3 m.F.length (fltF m.F), .lit (.bool s.cut)]
abbrev KuC := KuM → KuS → Prop
abbrev KuF := KuM → KuS → KuS × PV
def FunK (f : Nat) (ys : List PV) (C : KuC) (F : KuF) : Prop := ∀ m s, KuOk m s → C m s → (F m s).1.i ≤ 1000000 →
 FunX Tryz.prog ShaMem f false [⟨px, 71, kuP m s, kuP m (F m s).1⟩] (fun _ => none) none (fun _ => False) (.w (.one (.pt px 0 0)) :: ys) (F m s).2
def kuG (m : KuM) (s : KuS) (dec : List PV → Option (KuC × KuF)) : List PC → List PV → Option (Prop × List PC × PV) := fun l ys => match dec ys with
 | some (C, F) => some ((l = kuP m s ∧ KuOk m s) ∧ C m s ∧ (F m s).1.i ≤ 1000000, kuP m (F m s).1, (F m s).2)
 | none => none
theorem jT {f : Nat} {dec : List PV → Option (KuC × KuF)} {m : KuM} {s : KuS} (hent : ∀ args w, (callFunc f args).run Tryz.prog w = .ok (.enter f args) w)
  (hg : ∀ ys C F, dec ys = some (C, F) → FunK f ys C F) : SpecOk Tryz.prog ShaMem f (iM 71 (kuG m s dec)) := by
 refine zO hent (fun l ys p l' r hq hp => ?_)
 unfold kuG at hq
 cases hd : dec ys with
 | none => rw [hd] at hq; cases hq
 | some d =>
  obtain ⟨C, F⟩ := d
  rw [hd] at hq
  cases hq
  obtain ⟨⟨rfl, hok⟩, hC, hi⟩ := hp
  exact hg ys C F hd m s hok hC hi
end Pv
end Go.Proofs.YtihghljfmlbfhaaGreatDoor
namespace Go.Proofs.YtihghljfmlbfhaaGreatDoor.Pv
open Go.RowKit
theorem fu_val {C : Ctx} {b : List (List Int)} {v : Value} (h : RV C (.w (.agg (fuPC b))) v) : ∃ fv, v = .agg #[fv] ∧ FusesIn C.w fv b := by
 cases h with
 | w h => cases h with
  | @agg _ cs h =>
   unfold fuPC at h
   obtain ⟨cs⟩ := cs
   change RL _ _ cs at h
   cases h with
   | cons k1 k2 =>
    cases k2
    obtain ⟨fv, e⟩ := xO k1
    subst e
    refine ⟨fv, rfl, ?_⟩
    have := aLt k1 (jV _ b)
    rwa [aT] at this
theorem ex_nat {b : List (List Int)} {bank cell : Int} (h : exB b bank cell = true) : ∃ nb nc : Nat, bank = nb ∧ cell = nc ∧ ∃ h1 : nb < b.length, nc < b[nb].length := by
 have hx := aMa h
 obtain ⟨nb, rfl⟩ := Int.eq_ofNat_of_zero_le hx.1.1
 obtain ⟨nc, rfl⟩ := Int.eq_ofNat_of_zero_le hx.2.1
 have h1 : nb < b.length := by have := hx.1.2; omega
 refine ⟨nb, nc, rfl, rfl, h1, ?_⟩
 have h2 := hx.2.2
 rw [show ((nb : Int)).toNat = nb from rfl, zG, zH h1, Option.getD_some] at h2
 exact Int.ofNat_lt.1 h2
theorem rfrd_fun (b : List (List Int)) (bank cell : Int) (nz : Bool) (he : exB b bank cell = true) : iW Tryz.prog ShaMem 41 true [.w (.agg (fuPC b)), pvI bank, pvI cell, pvB nz] (.tup [.one (.lit (.int .i64 (fG (dU b bank cell) nz))), .one (.lit (.int .i64 0))]) := by
 intro w ok0 vs hI hv
 match vs, hv with
 | [v1, v2, v3, v4], ⟨k1, k2, k3, k4, _⟩ =>
  obtain ⟨fv, rfl, hf⟩ := fu_val k1
  obtain rfl := k2.lit_inv
  obtain rfl := k3.lit_inv
  obtain rfl := k4.lit_inv
  obtain ⟨nb, nc, rfl, rfl, h1, h2⟩ := ex_nat he
  have ec : dU b (nb : Int) (nc : Int) = b[nb][nc] := by
   unfold dU
   rw [show ((nb : Int)).toNat = nb from rfl, show ((nc : Int)).toNat = nc from rfl, zG, zG, zH h1, Option.getD_some, zH h2, Option.getD_some]
  rw [ec]
  refine (aHd fv b nb nc nz w hf h1 h2).mono ?_
  rintro e w' ⟨rfl, hE⟩
  refine ⟨_, rfl, hE, .tup rfl (fun i x hx => ?_)⟩
  match i, hx with
  | 0, hx => cases hx; exact ⟨_, rfl, .one (.lit rfl)⟩
  | 1, hx => cases hx; exact ⟨_, rfl, .one (.lit rfl)⟩
  | i + 2, hx => cases hx
theorem rfpu_fun (b : List (List Int)) (bank cell : Int) (cut : Bool) (he : exB b bank cell = true) (hn : b.length ≤ 1000) (hn2 : ∀ l ∈ b, l.length ≤ 100000) : iW Tryz.prog ShaMem 42 false [.w (.agg (fuPC b)), pvI bank, pvI cell, pvB cut] (aGg (pulB b bank cell cut) 0) := by
 intro w ok0 vs hI hv
 match vs, hv with
 | [v1, v2, v3, v4], ⟨k1, k2, k3, k4, _⟩ =>
  obtain ⟨fv, rfl, hf⟩ := fu_val k1
  obtain rfl := k2.lit_inv
  obtain rfl := k3.lit_inv
  obtain rfl := k4.lit_inv
  obtain ⟨nb, nc, rfl, rfl, h1, h2⟩ := ex_nat he
  have ec : pulB b (nb : Int) (nc : Int) cut = b.set nb (b[nb].set nc (dK b[nb][nc] cut)) := by
   unfold pulB dU
   rw [show ((nb : Int)).toNat = nb from rfl, show ((nc : Int)).toNat = nc from rfl, zG, zG, zH h1, Option.getD_some, zH h2, Option.getD_some]
  rw [ec]
  refine (aCf fv b nb nc cut w hf h1 h2 hn hn2).mono ?_
  rintro e w' ⟨fv', rfl, hF, hE⟩
  refine ⟨_, rfl, hE, ?_⟩
  have hr := aAb hF (ok := fun b => (false = false ∧ ok0 b) ∨ w.heap.size ≤ b) (fun b hb => .inr hb)
  refine .tup rfl (fun i x hx => ?_)
  match i, hx with
  | 0, hx => cases hx; exact ⟨_, rfl, .agg (.cons (xs := [_]) hr .nil)⟩
  | 1, hx => cases hx; exact ⟨_, rfl, .one (.lit rfl)⟩
  | i + 2, hx => cases hx
def rfrdG : List PV → Option (Prop × PV)
 | [.w (.agg [.sl 1 n f]), .w (.one (.lit (.int .i64 bank))), .w (.one (.lit (.int .i64 cell))), .w (.one (.lit (.bool nz)))] => some (gW n f ∧ exB (bJ n f) bank cell = true, .tup [.one (.lit (.int .i64 (fG (dU (bJ n f) bank cell) nz))), .one (.lit (.int .i64 0))])
 | _ => none
theorem aRq : SpecOk Tryz.prog ShaMem 41 (bD true rfrdG) := by
 refine bM (aF Tryz.func41 (by kernel_rfl) rfl) (fun xs p r hg hp w ok0 vs hI hv => ?_)
 unfold rfrdG at hg
 split at hg
 ·rename_i n f bank cell nz
  cases hg
  match vs, hv with
  | [v1, v2, v3, v4], ⟨k1, k2, k3, k4, _⟩ => exact rfrd_fun (bJ n f) bank cell nz hp.2 w ok0 [v1, v2, v3, v4] hI ⟨aAc hp.1 k1, k2, k3, k4, trivial⟩
 ·cases hg
def rfpuG : List PV → Option (Prop × PV)
 | [.w (.agg [.sl 1 n f]), .w (.one (.lit (.int .i64 bank))), .w (.one (.lit (.int .i64 c))), .w (.one (.lit (.bool cut)))] => some (gW n f ∧ n ≤ 1000 ∧ (∀ l ∈ bJ n f, l.length ≤ 100000) ∧ exB (bJ n f) bank c = true, aGg (pulB (bJ n f) bank c cut) 0)
 | _ => none
theorem aRr : SpecOk Tryz.prog ShaMem 42 (bD false rfpuG) := by
 refine bM (aF Tryz.func42 (by kernel_rfl) rfl) (fun xs p r hg hp w ok0 vs hI hv => ?_)
 unfold rfpuG at hg
 split at hg
 ·rename_i n f bank c cut
  cases hg
  obtain ⟨h1, h2, h3, h4⟩ := hp
  match vs, hv with
  | [v1, v2, v3, v4], ⟨k1, k2, k3, k4, _⟩ => exact rfpu_fun (bJ n f) bank c cut h4 (by rw [dH]; exact h2) h3 w ok0 [v1, v2, v3, v4] hI ⟨aAc h1 k1, k2, k3, k4, trivial⟩
 ·cases hg
def kuLvL : List (Nat × Spec) := [(41, bD true rfrdG), (42, bD false rfpuG)]
theorem kuLv_ok : ∀ p ∈ kuLvL, SpecOk Tryz.prog ShaMem p.1 p.2 := by
 intro p hp
 simp only [kuLvL, List.mem_cons, List.not_mem_nil, or_false] at hp
 rcases hp with rfl | rfl
 ·exact aRq
 ·exact aRr
theorem kuLvM : Mach Tryz.prog ShaMem (find kuLvL) := ⟨dD kuLv_ok, iE⟩
def JoinQ (A : Amb) (s : St) : Exit → Act → World → Prop
 | .panic chain, a, w => a.defers = [] ∧ PanG A chain w
 | e, a, w => e = .normal ∧ Gam A s a w
theorem aKr {P : Program} {A : Amb} {s : St} (s' : St) {x y : Code} {Q : Exit → Act → World → Prop} (h1 : Tri P A s x (JoinQ A s')) (h2 : Tri P A s' y Q) : Tri P A s (.seq x y) Q := fun a w hg hPQ =>
 wp_seq (wp_mono (h1 a w hg (fun _ _ _ hd hp => ⟨hd, hp⟩)) (fun e a' w' he => by
  cases e with
  | panic chain => exact hPQ chain a' w' he.1 he.2
  | normal => exact h2 a' w' he.2 hPQ
  | _ => cases he.1))
def aTg (m : KuM) (s : KuS) (k b c : Int) (x : ByteArray) (t : Flt) : St := ⟨[(0, none, pv1 (.pt px 0 0)), (3, none, pv1 (.pt 0 0 0)), (4, none, pv1 (.pt 1 0 0)), (5, none, pv1 (.pt 1001 0 0)), (6, none, pv1 (.pt 5001 0 0)), (46, none, pvI k)],
 [(px, none, 0, .box 71 (kuP m s)), (0, none, 0, .box 29 (nZ ⟨k, b, c, x⟩)), (1, none, 0, .box 79 (iT iJ)), (1001, none, 0, .box 45 (rF t)), (5001, none, 0, .box 79 (iT iJ))]⟩
def aTh (m : KuM) (s : KuS) (k b c : Int) (x : ByteArray) (t : Flt) : St := ⟨[(0, none, pv1 (.pt px 0 0)), (3, none, pv1 (.pt 0 0 0)), (4, none, pv1 (.pt 1 0 0)), (5, none, pv1 (.pt 1001 0 0))],
 [(px, none, 0, .box 71 (kuP m s)), (0, none, 0, .box 29 (nZ ⟨k, b, c, x⟩)), (1, none, 0, .box 79 (iT iJ)), (1001, none, 0, .box 45 (rF t))]⟩
def aLk (m : KuM) (s : KuS) (r : Res) (t : Flt) : St := ⟨[(0, none, pv1 (.pt px 0 0)), (4, none, pv1 (.pt 1 0 0)), (5, none, pv1 (.pt 1001 0 0)), (6, none, pv1 (.pt 5001 0 0))],
 [(px, none, 0, .box 71 (kuP m s)), (1, none, 0, .box 79 (iT iJ)), (1001, none, 0, .box 45 (rF t)), (5001, none, 0, .box 79 (iT r))]⟩
theorem aTc (m : KuM) (i : Nat) (ask : Acc) (ct : Bool) (h : HwS) (b c : Int) (_ : ByteArray) (hm : m.live = true) (hok : KuOk m ⟨i, ask, false, ct, h⟩) (hi : i + 1 ≤ 1000000) (hx : exB h.b b c = true) : FunX Tryz.prog ShaMem 120 false [⟨px, 71, kuP m ⟨i, ask, false, ct, h⟩, kuP m (eX m ⟨1, b, c, bF⟩ ⟨i, ask, false, ct, h⟩).2⟩] (fun _ => none) none (fun _ => False) [.w (.one (.pt px 0 0)), .w (.agg (nZ ⟨1, b, c, bF⟩))] (.w (.agg (iT (eX m ⟨1, b, c, bF⟩ ⟨i, ask, false, ct, h⟩).1))) := by
 have M := kuLvM
 obtain ⟨t, ht⟩ : ∃ t, bV m.F i = t := ⟨_, rfl⟩
 have hlf := hok.lf
 have hw1 : IntKind.i64.wrap ((i : Int) + 1) = ((i + 1 : Nat) : Int) := bZ i (by omega)
 have hE : eX m ⟨1, b, c, bF⟩ ⟨i, ask, false, ct, h⟩ = if t.cut = true then (iJ, ⟨i + 1, ask, true, true, h⟩) else (⟨fG (dU h.b b c) t.noise, bF⟩, ⟨i + 1, ask, false, ct, h⟩) := by
  unfold eX dF
  rw [if_neg (by exact Bool.false_ne_true), if_pos hm]
  dsimp only
  rw [ht, if_pos rfl, if_pos rfl, if_pos hx]
  all_goals (cases t.cut <;> rfl)
 rw [hE]
 refine iF Tryz.func120 rfl rfl rfl (fun A hn hI => ?_)
 refine aB M hI hn (by rfl) (by kernel_rfl) ?_ ?_
 ·simp
 refine aB M hI hn (by rfl) (by kernel_rfl) ?_ ?_
 ·simp
 refine aKr (aTh m ⟨i, ask, false, ct, h⟩ 1 b c bF t) ?_ ?_
 ·refine aB M hI hn (by rfl) (by kernel_rfl) ?_ ?_
  ·simp
  refine aJ (by rfl) (fun hc => ?_) (fun hc => ?_)
  ·have hlt : i < m.F.length := by
    have hc' : decide ((i : Int) < (m.F.length : Int)) = true := hc
    have := of_decide_eq_true hc'
    omega
   have hF : m.F.getD ((i : Int)).toNat flt0 = t := ht
   refine aS M hI hn (by rfl) (by kernel_rfl) ?_ ?_
   ·simp
    exact hlt
   refine fun a w hg => ⟨rfl, (hg.reset (kT := [0, 3, 4, 5]) (kO := [px, 0, 1, 1001]) (by rfl) (by simp)).same ?_ ?_⟩
   ·exact .cons rfl (.cons rfl (.cons rfl (.cons rfl .nil)))
   ·exact .cons (.box rfl) (.cons (.box rfl) (.cons (.box rfl) (.cons (.box (congrArg rF hF)) .nil)))
  ·have hlt : ¬ i < m.F.length := by
    have hc' : decide ((i : Int) < (m.F.length : Int)) = false := hc
    have := of_decide_eq_false hc'
    omega
   have hF : t = flt0 := by
    rw [← ht]
    unfold bV
    rw [zG, List.getElem?_eq_none (by omega)]
    rfl
   refine aN (fun a w hg => ⟨rfl, (hg.reset (kT := [0, 3, 4, 5]) (kO := [px, 0, 1, 1001]) (by rfl) (by simp)).same ?_ ?_⟩)
   ·exact .cons rfl (.cons rfl (.cons rfl (.cons rfl .nil)))
   ·exact .cons (.box rfl) (.cons (.box rfl) (.cons (.box rfl) (.cons (.box (by rw [hF]; rfl)) .nil)))
 refine aB M hI hn (by rfl) (by kernel_rfl) ?_ ?_
 ·simp
 refine aB M hI hn (by rfl) (by kernel_rfl) ?_ ?_
 ·simp
 refine aI ?_
 refine aB M hI hn (by rfl) (by kernel_rfl) ?_ ?_
 ·simp
 refine aV (s' := aTg m ⟨i + 1, ask, false, ct, h⟩ 1 b c bF t) (fun a w hg => (hg.reset (kT := [0, 3, 4, 5, 6, 46]) (kO := [px, 0, 1, 1001, 5001]) (by rfl) (by simp)).same ?_ ?_) ?_
 ·exact .cons rfl (.cons rfl (.cons rfl (.cons rfl (.cons rfl (.cons rfl .nil)))))
 ·refine .cons (.box ?_) (.cons (.box rfl) (.cons (.box rfl) (.cons (.box ?_) (.cons (.box rfl) .nil))))
  ·unfold kuP
   dsimp only
   rw [← hw1]
  ·rfl
 refine bI ?_
 refine aB M hI hn (by rfl) (by kernel_rfl) ?_ ?_
 ·simp
 refine aJ (by rfl) (fun hc => ?_) (fun hc => ?_)
 ·refine aB M hI hn (by rfl) (by kernel_rfl) ?_ ?_
  ·simp
   exact hx
  refine aS M hI hn (by rfl) (by kernel_rfl) ?_ ?_
  ·simp
  change Tri _ _ _ _ _
  refine aV (s' := aLk m ⟨i + 1, ask, false, ct, h⟩ ⟨fG (dU h.b b c) t.noise, bF⟩ t) (fun a w hg => (hg.reset (kT := [0, 4, 5, 6]) (kO := [px, 1, 1001, 5001]) (by rfl) (by simp)).same ?_ ?_) ?_
  ·exact .cons rfl (.cons rfl (.cons rfl (.cons rfl .nil)))
  ·refine .cons (.box ?_) (.cons (.box rfl) (.cons (.box rfl) (.cons (.box ?_) .nil)))
   ·rfl
   ·(rw [show dU h.b b c = dU (bJ h.b.length (bT h.b)) b c by rw [aT]]; rfl)
  refine aI ?_
  refine aB M hI hn (by rfl) (by kernel_rfl) ?_ ?_
  ·simp
  refine aJ (by rfl) (fun hc => ?_) (fun hc => ?_)
  ·have hcut : t.cut = true := hc
   rw [if_pos hcut]
   refine aB M hI hn (by rfl) (by kernel_rfl) ?_ ?_
   ·simp
   refine aB M hI hn (by rfl) (by kernel_rfl) ?_ ?_
   ·simp
   refine aB M hI hn (by rfl) (by kernel_rfl) ?_ ?_
   ·simp
   refine bC (fun a w hg => ⟨.inr rfl, _, ⟨?_, (fun o ho => by obtain rfl := List.mem_singleton.1 ho; exact ⟨_, rfl, dA rfl⟩), fun p hp => (by cases hp)⟩, hg⟩)
   refine aK (by rfl) (by simp) (by rfl) (by rfl) ?_
   all_goals rfl
  ·have hcut : t.cut = false := hc
   rw [if_neg (by rw [hcut]; exact Bool.false_ne_true)]
   refine aN ?_
   change Tri _ _ _ _ _
   refine aB M hI hn (by rfl) (by kernel_rfl) ?_ ?_
   ·simp
   refine bC (fun a w hg => ⟨.inr rfl, _, ⟨?_, (fun o ho => by obtain rfl := List.mem_singleton.1 ho; exact ⟨_, rfl, dA rfl⟩), fun p hp => (by cases hp)⟩, hg⟩)
   refine aK (by rfl) (by simp) (by rfl) (by rfl) ?_
   all_goals rfl
 ·cases hc
theorem aTb (m : KuM) (i : Nat) (ask : Acc) (ct : Bool) (h : HwS) (b c : Int) (_ : ByteArray) (hm : m.live = true) (hok : KuOk m ⟨i, ask, false, ct, h⟩) (hi : i + 1 ≤ 1000000) (hx : exB h.b b c = true) : FunX Tryz.prog ShaMem 120 false [⟨px, 71, kuP m ⟨i, ask, false, ct, h⟩, kuP m (eX m ⟨2, b, c, bF⟩ ⟨i, ask, false, ct, h⟩).2⟩] (fun _ => none) none (fun _ => False) [.w (.one (.pt px 0 0)), .w (.agg (nZ ⟨2, b, c, bF⟩))] (.w (.agg (iT (eX m ⟨2, b, c, bF⟩ ⟨i, ask, false, ct, h⟩).1))) := by
 have M := kuLvM
 obtain ⟨t, ht⟩ : ∃ t, bV m.F i = t := ⟨_, rfl⟩
 have hlf := hok.lf
 have hw1 : IntKind.i64.wrap ((i : Int) + 1) = ((i + 1 : Nat) : Int) := bZ i (by omega)
 have hE : eX m ⟨2, b, c, bF⟩ ⟨i, ask, false, ct, h⟩ = if t.cut = true then (iJ, ⟨i + 1, ask, true, true, ⟨pulB h.b b c t.cut, h.f, h.r⟩⟩) else (iJ, ⟨i + 1, ask, false, ct, ⟨pulB h.b b c t.cut, h.f, h.r⟩⟩) := by
  unfold eX dF
  rw [if_neg (by exact Bool.false_ne_true), if_pos hm]
  dsimp only
  rw [ht, if_neg (show ¬ ((2 : Int) = 1) by decide), if_pos rfl, if_pos rfl, if_pos hx]
  all_goals (cases t.cut <;> rfl)
 rw [hE]
 refine iF Tryz.func120 rfl rfl rfl (fun A hn hI => ?_)
 refine aB M hI hn (by rfl) (by kernel_rfl) ?_ ?_
 ·simp
 refine aB M hI hn (by rfl) (by kernel_rfl) ?_ ?_
 ·simp
 refine aKr (aTh m ⟨i, ask, false, ct, h⟩ 2 b c bF t) ?_ ?_
 ·refine aB M hI hn (by rfl) (by kernel_rfl) ?_ ?_
  ·simp
  refine aJ (by rfl) (fun hc => ?_) (fun hc => ?_)
  ·have hlt : i < m.F.length := by
    have hc' : decide ((i : Int) < (m.F.length : Int)) = true := hc
    have := of_decide_eq_true hc'
    omega
   have hF : m.F.getD ((i : Int)).toNat flt0 = t := ht
   refine aS M hI hn (by rfl) (by kernel_rfl) ?_ ?_
   ·simp
    exact hlt
   refine fun a w hg => ⟨rfl, (hg.reset (kT := [0, 3, 4, 5]) (kO := [px, 0, 1, 1001]) (by rfl) (by simp)).same ?_ ?_⟩
   ·exact .cons rfl (.cons rfl (.cons rfl (.cons rfl .nil)))
   ·exact .cons (.box rfl) (.cons (.box rfl) (.cons (.box rfl) (.cons (.box (congrArg rF hF)) .nil)))
  ·have hlt : ¬ i < m.F.length := by
    have hc' : decide ((i : Int) < (m.F.length : Int)) = false := hc
    have := of_decide_eq_false hc'
    omega
   have hF : t = flt0 := by
    rw [← ht]
    unfold bV
    rw [zG, List.getElem?_eq_none (by omega)]
    rfl
   refine aN (fun a w hg => ⟨rfl, (hg.reset (kT := [0, 3, 4, 5]) (kO := [px, 0, 1, 1001]) (by rfl) (by simp)).same ?_ ?_⟩)
   ·exact .cons rfl (.cons rfl (.cons rfl (.cons rfl .nil)))
   ·exact .cons (.box rfl) (.cons (.box rfl) (.cons (.box rfl) (.cons (.box (by rw [hF]; rfl)) .nil)))
 refine aB M hI hn (by rfl) (by kernel_rfl) ?_ ?_
 ·simp
 refine aB M hI hn (by rfl) (by kernel_rfl) ?_ ?_
 ·simp
 refine aI ?_
 refine aB M hI hn (by rfl) (by kernel_rfl) ?_ ?_
 ·simp
 refine aV (s' := aTg m ⟨i + 1, ask, false, ct, h⟩ 2 b c bF t) (fun a w hg => (hg.reset (kT := [0, 3, 4, 5, 6, 46]) (kO := [px, 0, 1, 1001, 5001]) (by rfl) (by simp)).same ?_ ?_) ?_
 ·exact .cons rfl (.cons rfl (.cons rfl (.cons rfl (.cons rfl (.cons rfl .nil)))))
 ·refine .cons (.box ?_) (.cons (.box rfl) (.cons (.box rfl) (.cons (.box ?_) (.cons (.box rfl) .nil))))
  ·unfold kuP
   dsimp only
   rw [← hw1]
  ·rfl
 refine bI ?_
 refine aB M hI hn (by rfl) (by kernel_rfl) ?_ ?_
 ·simp
 refine aJ (by rfl) (fun hc => ?_) (fun hc => ?_)
 ·cases hc
 refine aB M hI hn (by rfl) (by kernel_rfl) ?_ ?_
 ·simp
 refine aJ (by rfl) (fun hc => ?_) (fun hc => ?_)
 ·refine aB M hI hn (by rfl) (by kernel_rfl) ?_ ?_
  ·simp
   exact ⟨hok.hw.nb, hok.hw.nc, hx⟩
  refine aB M hI hn (by rfl) (by kernel_rfl) ?_ ?_
  ·simp
  refine aJ (by rfl) (fun hc => ?_) (fun hc => ?_)
  ·refine aS M hI hn (by rfl) (by kernel_rfl) ?_ ?_
   ·simp
   change Tri _ _ _ _ _
   refine aV (s' := aLk m ⟨i + 1, ask, false, ct, ⟨pulB h.b b c t.cut, h.f, h.r⟩⟩ iJ t) (fun a w hg => (hg.reset (kT := [0, 4, 5, 6]) (kO := [px, 1, 1001, 5001]) (by rfl) (by simp)).same ?_ ?_) ?_
   ·exact .cons rfl (.cons rfl (.cons rfl (.cons rfl .nil)))
   ·refine .cons (.box ?_) (.cons (.box rfl) (.cons (.box rfl) (.cons (.box ?_) .nil)))
    ·(rw [show pulB h.b b c t.cut = pulB (bJ h.b.length (bT h.b)) b c t.cut by rw [aT]]; rfl)
    ·rfl
   refine aI ?_
   refine aB M hI hn (by rfl) (by kernel_rfl) ?_ ?_
   ·simp
   refine aJ (by rfl) (fun hc => ?_) (fun hc => ?_)
   ·have hcut : t.cut = true := hc
    rw [if_pos hcut]
    refine aB M hI hn (by rfl) (by kernel_rfl) ?_ ?_
    ·simp
    refine aB M hI hn (by rfl) (by kernel_rfl) ?_ ?_
    ·simp
    refine aB M hI hn (by rfl) (by kernel_rfl) ?_ ?_
    ·simp
    refine bC (fun a w hg => ⟨.inr rfl, _, ⟨?_, (fun o ho => by obtain rfl := List.mem_singleton.1 ho; exact ⟨_, rfl, dA rfl⟩), fun p hp => (by cases hp)⟩, hg⟩)
    refine aK (by rfl) (by simp) (by rfl) (by rfl) ?_
    all_goals rfl
   ·have hcut : t.cut = false := hc
    rw [if_neg (by rw [hcut]; exact Bool.false_ne_true)]
    refine aN ?_
    change Tri _ _ _ _ _
    refine aB M hI hn (by rfl) (by kernel_rfl) ?_ ?_
    ·simp
    refine bC (fun a w hg => ⟨.inr rfl, _, ⟨?_, (fun o ho => by obtain rfl := List.mem_singleton.1 ho; exact ⟨_, rfl, dA rfl⟩), fun p hp => (by cases hp)⟩, hg⟩)
    refine aK (by rfl) (by simp) (by rfl) (by rfl) ?_
    all_goals rfl
  ·cases hc
 ·cases hc
def aQb (h : HwS) (a : Acc) : Prop := (a.kind = 1 ∨ a.kind = 2) ∧ a.bytes = bF ∧ exB h.b a.bank a.cell = true
theorem aSz (a : Acc) : FunK 120 [.w (.agg (nZ a))] (fun m s => m.live = true ∧ s.stop = false ∧ aQb s.h a) (fun m s => ((eX m a s).2, .w (.agg (iT (eX m a s).1)))) := by
 intro m s hok ⟨hm, hst, hg⟩ hi
 obtain ⟨i, ask, st, ct, h⟩ := s
 obtain ⟨k, b, c, x⟩ := a
 dsimp only at hst hg hi ⊢
 subst hst
 have hi1 : i + 1 ≤ 1000000 := by
  have e : (eX m ⟨k, b, c, x⟩ ⟨i, ask, false, ct, h⟩).2.i = i + 1 := by
   unfold eX
   rw [if_neg (by exact Bool.false_ne_true), if_pos hm]
   split <;> rfl
  rw [e] at hi
  exact hi
 obtain ⟨hk, hx, he⟩ := hg
 dsimp only at hk hx he
 subst hx
 rcases hk with rfl | rfl
 ·exact aTc m i ask ct h b c bF hm hok hi1 he
 ·exact aTb m i ask ct h b c bF hm hok hi1 he
def aVi : List PV → Option (KuC × KuF)
 | [.w (.agg [.lit (.int .i64 k), .lit (.int .i64 b), .lit (.int .i64 c), .lit (.string x)])] => some (fun m s => m.live = true ∧ s.stop = false ∧ aQb s.h ⟨k, b, c, x⟩, fun m s => ((eX m ⟨k, b, c, x⟩ s).2, .w (.agg (iT (eX m ⟨k, b, c, x⟩ s).1))))
 | _ => none
theorem aOn (m : KuM) (s : KuS) : SpecOk Tryz.prog ShaMem 120 (iM 71 (kuG m s aVi)) :=
 jT (aF Tryz.func120 (by kernel_rfl) rfl) (fun ys C F h => by
  unfold aVi at h
  split at h
  ·cases h; exact aSz _
  ·cases h)
def kuDoL (m : KuM) (s : KuS) : List (Nat × Spec) := [(120, iM 71 (kuG m s aVi))]
theorem kuDoM (m : KuM) (s : KuS) : Mach Tryz.prog ShaMem (find (kuDoL m s)) := ⟨dD (fun p hp => by
 obtain rfl := List.mem_singleton.1 hp
 exact aOn m s), iE⟩
theorem aOt {m : KuM} {a : Acc} {s : KuS} (hm : m.live = false) (hs : s.stop = false) : eX m a s = match m.log[s.i]? with
  | some r => (r, ⟨s.i + 1, s.ask, s.stop, s.cut, s.h⟩)
  | none => (iJ, ⟨s.i, a, true, s.cut, s.h⟩) := by
 unfold eX
 rw [if_neg (by rw [hs]; exact Bool.false_ne_true), if_neg (by rw [hm]; exact Bool.false_ne_true)]
 all_goals rfl
theorem do_funK (a : Acc) : FunK 102 [.w (.agg (nZ a))] (fun m s => m.live = true → s.stop = false → aQb s.h a) (fun m s => ((eX m a s).2, .w (.agg (iT (eX m a s).1)))) := by
 intro m s hok hC hi
 have M := kuDoM m s
 dsimp only at hi ⊢
 refine iF Tryz.func102 rfl rfl rfl (fun A hn hI => ?_)
 obtain ⟨lv, log, F⟩ := m
 obtain ⟨i, ask, st, ct, h⟩ := s
 cases st with
 | true =>
  rw [tK _ a (s := ⟨i, ask, true, ct, h⟩) rfl]
  refine aB M hI hn (by rfl) (by kernel_rfl) ?_ ?_
  ·simp
  refine aI ?_
  refine aB M hI hn (by rfl) (by kernel_rfl) ?_ ?_
  ·simp
  refine aJ (by rfl) (fun hc => ?_) (fun hc => ?_)
  ·refine aB M hI hn (by rfl) (by kernel_rfl) ?_ ?_
   ·simp
   refine bC (fun a w hg => ⟨.inr rfl, _, ⟨?_, (fun o ho => by obtain rfl := List.mem_singleton.1 ho; exact ⟨_, rfl, dA rfl⟩), fun p hp => (by cases hp)⟩, hg⟩)
   refine aK (by rfl) (by simp) (by rfl) (by rfl) ?_
   all_goals rfl
  ·cases hc
 | false =>
  cases lv with
  | true =>
   have hg := hC rfl rfl
   refine aB M hI hn (by rfl) (by kernel_rfl) ?_ ?_
   ·simp
   refine aI ?_
   refine aB M hI hn (by rfl) (by kernel_rfl) ?_ ?_
   ·simp
   refine aJ (by rfl) (fun hc => ?_) (fun hc => ?_)
   ·cases hc
   refine aN ?_
   change Tri _ _ _ _ _
   refine aI ?_
   refine aB M hI hn (by rfl) (by kernel_rfl) ?_ ?_
   ·simp
   refine aJ (by rfl) (fun hc => ?_) (fun hc => ?_)
   ·refine aB M hI hn (by rfl) (by kernel_rfl) ?_ ?_
    ·simp
     exact ⟨hok, hg, hi⟩
    refine bC (fun a w hg => ⟨.inr rfl, _, ⟨?_, (fun o ho => by obtain rfl := List.mem_singleton.1 ho; exact ⟨_, rfl, dA rfl⟩), fun p hp => (by cases hp)⟩, hg⟩)
    refine aK (by rfl) (by simp) (by rfl) (by rfl) ?_
    all_goals rfl
   ·cases hc
  | false =>
   have hll := hok.ll
   have hii := hok.i
   dsimp only at hll hii
   rw [aOt (m := ⟨false, log, F⟩) (s := ⟨i, ask, false, ct, h⟩) rfl rfl]
   refine aB M hI hn (by rfl) (by kernel_rfl) ?_ ?_
   ·simp
   refine aI ?_
   refine aB M hI hn (by rfl) (by kernel_rfl) ?_ ?_
   ·simp
   refine aJ (by rfl) (fun hc => ?_) (fun hc => ?_)
   ·cases hc
   refine aN ?_
   change Tri _ _ _ _ _
   refine aI ?_
   refine aB M hI hn (by rfl) (by kernel_rfl) ?_ ?_
   ·simp
   refine aJ (by rfl) (fun hc => ?_) (fun hc => ?_)
   ·cases hc
   refine aN ?_
   change Tri _ _ _ _ _
   refine aI ?_
   refine aB M hI hn (by rfl) (by kernel_rfl) ?_ ?_
   ·simp
   refine aJ (by rfl) (fun hc => ?_) (fun hc => ?_)
   ·refine aB M hI hn (by rfl) (by kernel_rfl) ?_ ?_
    ·simp
    refine aB M hI hn (by rfl) (by kernel_rfl) ?_ ?_
    ·simp
    refine aB M hI hn (by rfl) (by kernel_rfl) ?_ ?_
    ·simp
    have hge : log.length ≤ i := by
     have hc' : decide ((i : Int) ≥ (log.length : Int)) = true := hc
     have := of_decide_eq_true hc'
     omega
    dsimp only
    rw [List.getElem?_eq_none hge]
    refine bC (fun a w hg => ⟨.inr rfl, _, ⟨?_, (fun o ho => by obtain rfl := List.mem_singleton.1 ho; exact ⟨_, rfl, dA rfl⟩), fun p hp => (by cases hp)⟩, hg⟩)
    refine aK (by rfl) (by simp) (by rfl) (by rfl) ?_
    all_goals rfl
   ·have hlt : i < log.length := by
     have hc' : decide ((i : Int) ≥ (log.length : Int)) = false := hc
     have := of_decide_eq_false hc'
     omega
    refine aN ?_
    change Tri _ _ _ _ _
    refine aB M hI hn (by rfl) (by kernel_rfl) ?_ ?_
    ·simp
    have hw1 : IntKind.i64.wrap ((i : Int) + 1) = ((i + 1 : Nat) : Int) := bZ i (by omega)
    have hw2 : IntKind.i64.wrap (((i + 1 : Nat) : Int) - 1) = (i : Int) := by
     rw [show (((i + 1 : Nat) : Int) - 1) = (i : Int) by omega, IntKind.wrap_i64, Int.emod_eq_of_lt (by omega) (by omega)]
     omega
    refine aB M hI hn (by rfl) (by kernel_rfl) ?_ ?_
    ·simp
     rw [hw1, hw2]
     omega
    have hr : log[i]? = some (log.getD i ⟨0, bF⟩) := by rw [zG, zH hlt]; rfl
    dsimp only
    rw [hr]
    refine aV (s' := ⟨[(4, none, pv1 (.pt 1 0 0))], [(px, none, 0, .box 71 (kuP ⟨false, log, F⟩ ⟨i + 1, ask, false, ct, h⟩)), (1, none, 0, .box 79 (iT (log.getD i ⟨0, bF⟩)))]⟩) (fun a w hg => (hg.reset (kT := [4]) (kO := [px, 1]) (by rfl) (by simp)).same ?_ ?_) ?_
    ·exact .cons rfl .nil
    ·refine .cons (.box ?_) (.cons (.box ?_) .nil)
     ·unfold kuP
      dsimp only
      rw [← hw1]
     ·show [PC.lit (.int .i64 (log.getD (IntKind.i64.wrap (IntKind.i64.wrap ((i : Int) + 1) - 1)).toNat ⟨0, bF⟩).val), PC.lit (.string (log.getD (IntKind.i64.wrap (IntKind.i64.wrap ((i : Int) + 1) - 1)).toNat ⟨0, bF⟩).bytes)] = _
      rw [hw1, hw2]
      rfl
    refine bC (fun a w hg => ⟨.inr rfl, _, ⟨?_, (fun o ho => by obtain rfl := List.mem_singleton.1 ho; exact ⟨_, rfl, dA rfl⟩), fun p hp => (by cases hp)⟩, hg⟩)
    refine aK (by rfl) (by simp) (by rfl) (by rfl) ?_
    all_goals rfl
end Go.Proofs.YtihghljfmlbfhaaGreatDoor.Pv
namespace Go.Proofs.YtihghljfmlbfhaaGreatDoor
open Go.RowKit
theorem qZ (l : List Int) (x : Int) : nonzero (l ++ [x]) = nonzero l + if x = 0 then 0 else 1 := by
 unfold nonzero
 rw [List.filter_append, List.length_append]
 by_cases h : x = 0 <;> simp [h]
theorem rZ (l : List Int) : nonzero l ≤ l.length := List.length_filter_le _ _
def Prg.readFrom (bank bit : Int) : Nat → List Int → Prg Bool
 | 0, l => .ret (jD l)
 | n + 1, l => (Prg.fuse bank (3 * bit + ((2 - n : Nat) : Int))).bind fun x => Prg.readFrom bank bit n (l ++ [x])
def Prg.pulseFrom (bank bit : Int) : Nat → Prg Unit
 | 0 => .ret ()
 | n + 1 => (Prg.pulse bank (3 * bit + ((2 - n : Nat) : Int))).bind fun _ => Prg.pulseFrom bank bit n
theorem Prg.read_eq (bank bit : Int) : Prg.read bank bit = Prg.readFrom bank bit 3 [] := rfl
theorem Prg.pulses_eq (bank bit : Int) : Prg.pulses bank bit = Prg.pulseFrom bank bit 3 := rfl
def aCw : Acc := ⟨0, 0, 0, bF⟩
end Go.Proofs.YtihghljfmlbfhaaGreatDoor
namespace Go.Proofs.YtihghljfmlbfhaaGreatDoor.Pv
open Go.RowKit
def HasB (m : KuM) (s : KuS) (bank : Int) : Prop := m.live = true → (0 ≤ bank ∧ bank < (s.h.b.length : Int)) ∧ (s.h.b.getD bank.toNat []).length = 48
theorem HasB.shp {m : KuM} {s s' : KuS} {bank : Int} (h : HasB m s bank) (e : Shp s.h s'.h) : HasB m s' bank := fun hm => by
 rw [e.n, e.l]
 exact h hm
theorem HasB.ex {m : KuM} {s : KuS} {bank : Int} (h : HasB m s bank) (hm : m.live = true) {c : Int} (hc : 0 ≤ c ∧ c < 48) : exB s.h.b bank c = true := by
 obtain ⟨h1, h2⟩ := h hm
 unfold exB
 rw [h2]
 simp only [Bool.and_eq_true, decide_eq_true_eq]
 omega
def aVl : List PV → Option (KuC × KuF)
 | [.w (.agg [.lit (.int .i64 k), .lit (.int .i64 b), .lit (.int .i64 c), .lit (.string x)])] => some (fun m s => m.live = true → s.stop = false → aQb s.h ⟨k, b, c, x⟩, fun m s => ((eX m ⟨k, b, c, x⟩ s).2, .w (.agg (iT (eX m ⟨k, b, c, x⟩ s).1))))
 | _ => none
theorem do_specK (m : KuM) (s : KuS) : SpecOk Tryz.prog ShaMem 102 (iM 71 (kuG m s aVl)) :=
 jT (aF Tryz.func102 (by kernel_rfl) rfl) (fun ys C F h => by
  unfold aVl at h
  split at h
  ·cases h; exact do_funK _
  ·cases h)
def kuL1 (m : KuM) (s : KuS) : List (Nat × Spec) := [(102, iM 71 (kuG m s aVl))]
theorem kuM1 (m : KuM) (s : KuS) : Mach Tryz.prog ShaMem (find (kuL1 m s)) := ⟨dD (fun p hp => by
 obtain rfl := List.mem_singleton.1 hp
 exact do_specK m s), iE⟩
theorem aPu (b c : Int) : FunK 75 [pvI b, pvI c] (fun m s => HasB m s b ∧ 0 ≤ c ∧ c < 48) (fun m s => ((bK m (Prg.fuse b c) s).2, pvI (bK m (Prg.fuse b c) s).1)) := by
 intro m s hok hC hi
 have M := kuM1 m s
 have hg : m.live = true → s.stop = false → aQb s.h ⟨1, b, c, bF⟩ := fun hm _ => ⟨.inl rfl, rfl, hC.1.ex hm hC.2⟩
 refine iF Tryz.func75 rfl rfl rfl (fun A hn hI => ?_)
 refine aB M hI hn (by rfl) (by kernel_rfl) ?_ ?_
 ·simp
 refine aB M hI hn (by rfl) (by kernel_rfl) ?_ ?_
 ·simp
  exact ⟨hok, hg, hi⟩
 refine aB M hI hn (by rfl) (by kernel_rfl) ?_ ?_
 ·simp
 refine bC (fun a w hg => ⟨.inr rfl, _, ⟨?_, (fun o ho => by obtain rfl := List.mem_singleton.1 ho; exact ⟨_, rfl, dA rfl⟩), fun p hp => (by cases hp)⟩, hg⟩)
 refine aK (by rfl) (by simp) (by rfl) (by rfl) ?_
 all_goals rfl
theorem aKc (b c : Int) : FunK 76 [pvI b, pvI c] (fun m s => HasB m s b ∧ 0 ≤ c ∧ c < 48) (fun m s => ((bK m (Prg.pulse b c) s).2, .tup [])) := by
 intro m s hok hC hi
 have M := kuM1 m s
 have hg : m.live = true → s.stop = false → aQb s.h ⟨2, b, c, bF⟩ := fun hm _ => ⟨.inr rfl, rfl, hC.1.ex hm hC.2⟩
 refine iF Tryz.func76 rfl rfl rfl (fun A hn hI => ?_)
 refine aS M hI hn (by rfl) (by kernel_rfl) ?_ ?_
 ·simp
  exact ⟨hok, hg, hi⟩
 intro a w hg
 refine ⟨.inl rfl, _, ⟨?_, (fun o ho => by obtain rfl := List.mem_singleton.1 ho; exact ⟨_, rfl, dA rfl⟩), fun p hp => (by cases hp)⟩, hg⟩
 refine aK (by rfl) (by simp) (by rfl) (by rfl) ?_
 all_goals rfl
def aVk : List PV → Option (KuC × KuF)
 | [.w (.one (.lit (.int .i64 b))), .w (.one (.lit (.int .i64 c)))] => some (fun m s => HasB m s b ∧ 0 ≤ c ∧ c < 48, fun m s => ((bK m (Prg.fuse b c) s).2, pvI (bK m (Prg.fuse b c) s).1))
 | _ => none
def aVg : List PV → Option (KuC × KuF)
 | [.w (.one (.lit (.int .i64 b))), .w (.one (.lit (.int .i64 c)))] => some (fun m s => HasB m s b ∧ 0 ≤ c ∧ c < 48, fun m s => ((bK m (Prg.pulse b c) s).2, .tup []))
 | _ => none
theorem aKf (m : KuM) (s : KuS) : SpecOk Tryz.prog ShaMem 75 (iM 71 (kuG m s aVk)) :=
 jT (aF Tryz.func75 (by kernel_rfl) rfl) (fun ys C F h => by
  unfold aVk at h
  split at h
  ·cases h; exact aPu _ _
  ·cases h)
theorem aHk (m : KuM) (s : KuS) : SpecOk Tryz.prog ShaMem 76 (iM 71 (kuG m s aVg)) :=
 jT (aF Tryz.func76 (by kernel_rfl) rfl) (fun ys C F h => by
  unfold aVg at h
  split at h
  ·cases h; exact aKc _ _
  ·cases h)
def kuL2 (m : KuM) (s : KuS) : List (Nat × Spec) := [(75, iM 71 (kuG m s aVk)), (76, iM 71 (kuG m s aVg))]
theorem kuM2 (m : KuM) (s : KuS) : Mach Tryz.prog ShaMem (find (kuL2 m s)) := ⟨dD (fun p hp => by
 simp only [kuL2, List.mem_cons, List.not_mem_nil, or_false] at hp
 rcases hp with rfl | rfl
 ·exact aKf m s
 ·exact aHk m s), iE⟩
theorem wr3 {b i : Nat} (hb : b < 16) (hi : i < 3) : IntKind.i64.wrap (IntKind.i64.wrap (3 * (b : Int)) + (i : Int)) = 3 * (b : Int) + (i : Int) := by
 have h1 : IntKind.i64.wrap (3 * (b : Int)) = 3 * (b : Int) := by rw [IntKind.wrap_i64, Int.emod_eq_of_lt (by omega) (by omega)]; omega
 rw [h1, IntKind.wrap_i64, Int.emod_eq_of_lt (by omega) (by omega)]
 omega
def aTf (m : KuM) (s : KuS) (bank : Int) (b i : Nat) : St := ⟨[(0, none, pv1 (.pt px 0 0)), (1, none, pvI bank), (2, none, pvI (b : Int)), (6, none, pvI (i : Int))], [(px, none, 0, .box 71 (kuP m s))]⟩
theorem aJf (m : KuM) (bank : Int) (b i : Nat) (hi : i < 3) (s : KuS) : bK m (Prg.pulseFrom bank b (3 - i)) s = bK m (Prg.pulseFrom bank b (3 - (i + 1))) (bK m (Prg.pulse bank (3 * (b : Int) + (i : Int))) s).2 := by
 rw [show 3 - i = (2 - i) + 1 from by omega, Prg.pulseFrom, eQ, show 2 - (2 - i) = i from by omega, show 3 - (i + 1) = 2 - i from by omega]
theorem aIn (bank : Int) (b : Nat) (hb : b < 16) : FunK 58 [pvI bank, pvI (b : Int)] (fun m s => HasB m s bank) (fun m s => ((bK m (Prg.pulses bank b) s).2, .tup [])) := by
 intro m s0 hok0 hC0 hi
 dsimp only at hi ⊢
 rw [Prg.pulses_eq] at hi ⊢
 obtain ⟨R, hR⟩ : ∃ R, bK m (Prg.pulseFrom bank (b : Int) 3) s0 = R := ⟨_, rfl⟩
 rw [hR] at hi ⊢
 refine iF Tryz.func58 rfl rfl rfl (fun A hn hI => ?_)
 have M := kuM2 m s0
 refine aB M hI hn (by rfl) (by kernel_rfl) ?_ ?_
 ·simp
 refine bI ?_
 refine aV (s' := aTf m s0 bank b 0) (fun a w hg => (hg.reset (kT := [0, 1, 2, 6]) (kO := [px]) (by rfl) (by simp)).same ?_ ?_) ?_
 ·exact .cons rfl (.cons rfl (.cons rfl (.cons rfl .nil)))
 ·exact .cons (.box rfl) .nil
 refine fV 3 (fun i t => ∃ s, t = aTf m s bank b i ∧ KuOk m s ∧ HasB m s bank ∧ bK m (Prg.pulseFrom bank b (3 - i)) s = R) 0 ⟨_, rfl, hok0, hC0, hR⟩ (by omega) (fun i t hJ hi3 => ?_)
 obtain ⟨s, rfl, hok, hC, hJ⟩ := hJ
 refine aI ?_
 refine aB M hI hn (by rfl) (by kernel_rfl) ?_ ?_
 ·simp
 refine aJ (by rfl) (fun hc => ?_) (fun hc => ?_)
 ·have hi2 : i < 3 := by
   have hc' : decide ((i : Int) < 3) = true := hc
   have := of_decide_eq_true hc'
   omega
  refine aN ?_
  change Tri _ _ _ _ _
  refine aI ?_
  refine bI ?_
  rw [aJf m bank b i hi2] at hJ
  have hle : (bK m (Prg.pulse bank (3 * (b : Int) + (i : Int))) s).2.i ≤ 1000000 := Nat.le_trans (lC m _ _) (by rw [hJ]; exact hi)
  have hok2 := lG (Prg.pulse bank (3 * (b : Int) + (i : Int))) hok hle
  have hC2 := hC.shp (jU m (Prg.pulse bank (3 * (b : Int) + (i : Int))) s)
  have hw := wr3 hb hi2
  have M := kuM2 m s
  refine aS M hI hn (by rfl) (by kernel_rfl) ?_ ?_
  ·simp
   rw [hw]
   exact ⟨hok, ⟨hC, by omega, by omega⟩, hle⟩
  change Tri _ _ _ _ _
  refine aS M hI hn (by rfl) (by kernel_rfl) ?_ ?_
  ·simp
  intro a w hg
  refine ⟨i + 1, _, by omega, by omega, ⟨_, rfl, hok2, hC2, hJ⟩, (hg.reset (kT := [0, 1, 2, 6]) (kO := [px]) (by rfl) (by simp)).same ?_ ?_⟩
  ·exact .cons rfl (.cons rfl (.cons rfl (.cons (by rw [bZ i (by omega)]) .nil)))
  ·refine .cons (.box ?_) .nil
   show kuP m (bK m (Prg.pulse bank (IntKind.i64.wrap (IntKind.i64.wrap (3 * (b : Int)) + (i : Int)))) s).2 = _
   rw [hw]
 ·have hi2 : i = 3 := by
   have hc' : decide ((i : Int) < 3) = false := hc
   have := of_decide_eq_false hc'
   omega
  subst hi2
  have hE : R = ((), s) := hJ.symm
  rw [hE]
  refine dZ ?_
  change Aft _ _ _
  intro a w hg
  refine ⟨.inl rfl, _, ⟨?_, (fun o ho => by obtain rfl := List.mem_singleton.1 ho; exact ⟨_, rfl, dA rfl⟩), fun p hp => (by cases hp)⟩, hg⟩
  refine aK (by rfl) (by simp) (by rfl) (by rfl) ?_
  all_goals rfl
end Go.Proofs.YtihghljfmlbfhaaGreatDoor.Pv
