/-
  Several texts in one file: each has its own heading below.
-/
import Derived.Test.YtihghljfmlbfhaaGreatDoorRzH
import Derived.Test.YtihghljfmlbfhaaGreatDoorRzF
import Derived.Outline
import Derived.ChangeKeysEq
import Derived.Lib.SlBytesConst
import Derived.StillTailTactics
import Derived.BigRegion
import Derived.OwnWalkIn
import Derived.TacticsInMore
import Derived.LoopNIn
import Derived.LoopIn
import Derived.Deep.Cut
set_option maxRecDepth 100000
set_option maxHeartbeats 4000000
namespace Go.Proofs.YtihghljfmlbfhaaGreatDoor.Pv
open Go.RowKit
def aTj (m : KuM) (s : KuS) (bank : Int) (b n i : Nat) : St := ⟨[(0, none, pv1 (.pt px 0 0)), (1, none, pvI bank), (2, none, pvI (b : Int)), (7, none, pvI (n : Int)), (8, none, pvI (i : Int))], [(px, none, 0, .box 71 (kuP m s))]⟩
def ku_btSt2 (m : KuM) (q : Int × KuS) (bank : Int) (b n i : Nat) : St := ⟨[(0, none, pv1 (.pt px 0 0)), (1, none, pvI bank), (2, none, pvI (b : Int)), (7, none, pvI (n : Int)), (8, none, pvI (i : Int)), (9, none, pvI q.1)], [(px, none, 0, .box 71 (kuP m q.2))]⟩
theorem aIy (m : KuM) (bank : Int) (b i : Nat) (hi : i < 3) (l : List Int) (s : KuS) : bK m (Prg.readFrom bank b (3 - i) l) s = bK m (Prg.readFrom bank b (3 - (i + 1)) (l ++ [(bK m (Prg.fuse bank (3 * (b : Int) + (i : Int))) s).1])) (bK m (Prg.fuse bank (3 * (b : Int) + (i : Int))) s).2 := by
 rw [show 3 - i = (2 - i) + 1 from by omega, Prg.readFrom, eQ, show 2 - (2 - i) = i from by omega, show 3 - (i + 1) = 2 - i from by omega]
theorem aSa (bank : Int) (b : Nat) (hb : b < 16) : FunK 57 [pvI bank, pvI (b : Int)] (fun m s => HasB m s bank) (fun m s => ((bK m (Prg.read bank b) s).2, pvB (bK m (Prg.read bank b) s).1)) := by
 intro m s0 hok0 hC0 hi
 dsimp only at hi ⊢
 rw [Prg.read_eq] at hi ⊢
 obtain ⟨R, hR⟩ : ∃ R, bK m (Prg.readFrom bank (b : Int) 3 []) s0 = R := ⟨_, rfl⟩
 rw [hR] at hi ⊢
 refine iF Tryz.func57 rfl rfl rfl (fun A hn hI => ?_)
 have M := kuM2 m s0
 refine aB M hI hn (by rfl) (by kernel_rfl) ?_ ?_
 ·simp
 refine aB M hI hn (by rfl) (by kernel_rfl) ?_ ?_
 ·simp
 refine aI ?_
 refine aB M hI hn (by rfl) (by kernel_rfl) ?_ ?_
 ·simp
 refine bI ?_
 refine aV (s' := aTj m s0 bank b (nonzero []) 0) (fun a w hg => (hg.reset (kT := [0, 1, 2, 7, 8]) (kO := [px]) (by rfl) (by simp)).same ?_ ?_) ?_
 ·exact .cons rfl (.cons rfl (.cons rfl (.cons rfl (.cons rfl .nil))))
 ·exact .cons (.box rfl) .nil
 refine fV 3 (fun i t => ∃ s l, t = aTj m s bank b (nonzero l) i ∧ l.length = i ∧ KuOk m s ∧ HasB m s bank ∧ bK m (Prg.readFrom bank b (3 - i) l) s = R) 0 ⟨_, [], rfl, rfl, hok0, hC0, hR⟩ (by omega) (fun i t hJ hi3 => ?_)
 obtain ⟨s, l, rfl, hl, hok, hC, hJ⟩ := hJ
 refine aI ?_
 refine aB M hI hn (by rfl) (by kernel_rfl) ?_ ?_
 ·simp
 refine aJ (by rfl) (fun hc => ?_) (fun hc => ?_)
 ·have hi2 : i < 3 := by
   have hc' : decide ((i : Int) < 3) = true := hc
   have := of_decide_eq_true hc'
   omega
  refine aN ?_
  change Tri _ _ _ _ _
  refine aI ?_
  refine bI ?_
  rw [aIy m bank b i hi2] at hJ
  have hle : (bK m (Prg.fuse bank (3 * (b : Int) + (i : Int))) s).2.i ≤ 1000000 := Nat.le_trans (lC m _ _) (by rw [hJ]; exact hi)
  have hok2 := lG (Prg.fuse bank (3 * (b : Int) + (i : Int))) hok hle
  have hC2 := hC.shp (jU m (Prg.fuse bank (3 * (b : Int) + (i : Int))) s)
  have hw := wr3 hb hi2
  have M := kuM2 m s
  refine aB M hI hn (by rfl) (by kernel_rfl) ?_ ?_
  ·simp
   rw [hw]
   exact ⟨hok, ⟨hC, by omega, by omega⟩, hle⟩
  refine aV (s' := ku_btSt2 m (bK m (Prg.fuse bank (3 * (b : Int) + (i : Int))) s) bank b (nonzero l) i) (fun a w hg => (hg.reset (kT := [0, 1, 2, 7, 8, 9]) (kO := [px]) (by rfl) (by simp)).same ?_ ?_) ?_
  ·refine .cons rfl (.cons rfl (.cons rfl (.cons rfl (.cons rfl (.cons ?_ .nil)))))
   show pvI (bK m (Prg.fuse bank (IntKind.i64.wrap (IntKind.i64.wrap (3 * (b : Int)) + (i : Int)))) s).1 = _
   rw [hw]
  ·refine .cons (.box ?_) .nil
   show kuP m (bK m (Prg.fuse bank (IntKind.i64.wrap (IntKind.i64.wrap (3 * (b : Int)) + (i : Int)))) s).2 = _
   rw [hw]
  generalize bK m (Prg.fuse bank (3 * (b : Int) + (i : Int))) s = q at hJ hok2 hC2 ⊢
  have hnz := qZ l q.1
  have hnl := rZ l
  refine aB M hI hn (by rfl) (by kernel_rfl) ?_ ?_
  ·simp
  refine aJ (by rfl) (fun hc => ?_) (fun hc => ?_)
  ·have hq : q.1 ≠ 0 := by
    have hc' : (q.1 != 0) = true := hc
    simpa using hc'
   rw [if_neg hq] at hnz
   refine aS M hI hn (by rfl) (by kernel_rfl) ?_ ?_
   ·simp
   change Tri _ _ _ _ _
   refine aS M hI hn (by rfl) (by kernel_rfl) ?_ ?_
   ·simp
   intro a w hg
   refine ⟨i + 1, _, by omega, by omega, ⟨_, _, rfl, by rw [List.length_append, List.length_singleton, hl], hok2, hC2, hJ⟩, (hg.reset (kT := [0, 1, 2, 7, 8]) (kO := [px]) (by rfl) (by simp)).same ?_ ?_⟩
   ·exact .cons rfl (.cons rfl (.cons rfl (.cons (by rw [bZ (nonzero l) (by omega), hnz]) (.cons (by rw [bZ i (by omega)]) .nil))))
   ·exact .cons (.box rfl) .nil
  ·have hq : q.1 = 0 := by
    have hc' : (q.1 != 0) = false := hc
    simpa using hc'
   rw [if_pos hq] at hnz
   refine aN ?_
   change Tri _ _ _ _ _
   refine aS M hI hn (by rfl) (by kernel_rfl) ?_ ?_
   ·simp
   intro a w hg
   refine ⟨i + 1, _, by omega, by omega, ⟨_, _, rfl, by rw [List.length_append, List.length_singleton, hl], hok2, hC2, hJ⟩, (hg.reset (kT := [0, 1, 2, 7, 8]) (kO := [px]) (by rfl) (by simp)).same ?_ ?_⟩
   ·exact .cons rfl (.cons rfl (.cons rfl (.cons (by rw [hnz, Nat.add_zero]) (.cons (by rw [bZ i (by omega)]) .nil))))
   ·exact .cons (.box rfl) .nil
 ·have hi2 : i = 3 := by
   have hc' : decide ((i : Int) < 3) = false := hc
   have := of_decide_eq_false hc'
   omega
  subst hi2
  have hE : R = (jD l, s) := hJ.symm
  rw [hE]
  refine dZ ?_
  change Tri _ _ _ _ _
  have hm : jD l = decide ((nonzero l : Int) > 1) := by
   unfold jD
   rw [hl]
   exact decide_eq_decide.2 (by omega)
  rw [hm]
  refine aB M hI hn (by rfl) (by kernel_rfl) ?_ ?_
  ·simp
  refine bC (fun a w hg => ⟨.inr rfl, _, ⟨?_, (fun o ho => by obtain rfl := List.mem_singleton.1 ho; exact ⟨_, rfl, dA rfl⟩), fun p hp => (by cases hp)⟩, hg⟩)
  refine aK (by rfl) (by simp) (by rfl) (by rfl) ?_
  all_goals rfl
def aVm : List PV → Option (KuC × KuF)
 | [.w (.one (.lit (.int .i64 bank))), .w (.one (.lit (.int .i64 b)))] => some (fun m s => HasB m s bank ∧ 0 ≤ b ∧ b < 16, fun m s => ((bK m (Prg.read bank b) s).2, pvB (bK m (Prg.read bank b) s).1))
 | _ => none
def aVh : List PV → Option (KuC × KuF)
 | [.w (.one (.lit (.int .i64 bank))), .w (.one (.lit (.int .i64 b)))] => some (fun m s => HasB m s bank ∧ 0 ≤ b ∧ b < 16, fun m s => ((bK m (Prg.pulses bank b) s).2, .tup []))
 | _ => none
theorem aNz (m : KuM) (s : KuS) : SpecOk Tryz.prog ShaMem 57 (iM 71 (kuG m s aVm)) :=
 jT (aF Tryz.func57 (by kernel_rfl) rfl) (fun ys C F h => by
  unfold aVm at h
  split at h
  ·rename_i bank b
   cases h
   intro m s hok hC hi
   obtain ⟨k, rfl⟩ := Int.eq_ofNat_of_zero_le hC.2.1
   exact aSa bank k (by have := hC.2.2; omega) m s hok hC.1 hi
  ·cases h)
theorem aFw (m : KuM) (s : KuS) : SpecOk Tryz.prog ShaMem 58 (iM 71 (kuG m s aVh)) :=
 jT (aF Tryz.func58 (by kernel_rfl) rfl) (fun ys C F h => by
  unfold aVh at h
  split at h
  ·rename_i bank b
   cases h
   intro m s hok hC hi
   obtain ⟨k, rfl⟩ := Int.eq_ofNat_of_zero_le hC.2.1
   exact aIn bank k (by have := hC.2.2; omega) m s hok hC.1 hi
  ·cases h)
def kuL3 (m : KuM) (s : KuS) : List (Nat × Spec) := [(57, iM 71 (kuG m s aVm)), (58, iM 71 (kuG m s aVh))]
theorem ku3_ok (m : KuM) (s : KuS) : ∀ p ∈ kuL3 m s, SpecOk Tryz.prog ShaMem p.1 p.2 := by
 intro p hp
 simp only [kuL3, List.mem_cons, List.not_mem_nil, or_false] at hp
 rcases hp with rfl | rfl
 ·exact aNz m s
 ·exact aFw m s
theorem kuM3 (m : KuM) (s : KuS) : Mach Tryz.prog ShaMem (find (kuL3 m s)) := ⟨dD (ku3_ok m s), iE⟩
theorem aRw (m : KuM) (bank bit : Int) {s : KuS} (h : s.stop = true) : bK m (Prg.read bank bit) s = (false, s) := by
 have e : ∀ a, eX m a s = (iJ, s) := fun a => tK m a h
 unfold Prg.read Prg.fuse
 simp only [Prg.bind, bK, e]
 rfl
theorem up_stop (m : KuM) (bank : Int) (f n : Nat) {s : KuS} (h : s.stop = true) : bK m (Prg.up bank f n) s = (n, s) := by
 cases f with
 | zero => rfl
 | succ f =>
  rw [Prg.up, eQ, aRw m bank _ h]
  rfl
def levK (bank : Int) (n : Nat) : Prg Nat := (Prg.down bank n 0).bind fun _ => .ret n
def aLl (m : KuM) (s : KuS) (bank : Int) (bits n : Nat) : St := ⟨[(0, none, pv1 (.pt px 0 0)), (1, none, pvI bank), (2, none, pvI (bits : Int)), (7, none, pvI (n : Int))], [(px, none, 0, .box 71 (kuP m s))]⟩
def aTi (m : KuM) (q : Bool × KuS) (bank : Int) (bits n : Nat) : St := ⟨[(0, none, pv1 (.pt px 0 0)), (1, none, pvI bank), (2, none, pvI (bits : Int)), (7, none, pvI (n : Int)), (8, none, pvB q.1)], [(px, none, 0, .box 71 (kuP m q.2))]⟩
def vK (m : KuM) (s : KuS) (bank : Int) (n b : Nat) : St := ⟨[(0, none, pv1 (.pt px 0 0)), (1, none, pvI bank), (7, none, pvI (n : Int)), (9, none, pvI (b : Int))], [(px, none, 0, .box 71 (kuP m s))]⟩
theorem aRm (bank : Int) (bits : Nat) (hbt : bits ≤ 16) : FunK 34 [pvI bank, pvI (bits : Int)] (fun m s => HasB m s bank) (fun m s => ((bK m (Prg.levelOf bank bits) s).2, pvI ((bK m (Prg.levelOf bank bits) s).1 : Nat))) := by
 intro m s0 hok0 hC0 hi
 dsimp only at hi ⊢
 obtain ⟨R, hR⟩ : ∃ R, bK m (Prg.levelOf bank bits) s0 = R := ⟨_, rfl⟩
 rw [hR] at hi ⊢
 change bK m ((Prg.up bank bits 0).bind (levK bank)) s0 = R at hR
 refine iF Tryz.func34 rfl rfl rfl (fun A hn hI => ?_)
 have M := kuM3 m s0
 refine aB M hI hn (by rfl) (by kernel_rfl) ?_ ?_
 ·simp
 refine aB M hI hn (by rfl) (by kernel_rfl) ?_ ?_
 ·simp
 refine aI ?_
 refine bI ?_
 refine aV (s' := aLl m s0 bank bits 0) (fun a w hg => (hg.reset (kT := [0, 1, 2, 7]) (kO := [px]) (by rfl) (by simp)).same ?_ ?_) ?_
 ·exact .cons rfl (.cons rfl (.cons rfl (.cons rfl .nil)))
 ·exact .cons (.box rfl) .nil
 refine fV bits (fun n t => ∃ s, t = aLl m s bank bits n ∧ KuOk m s ∧ HasB m s bank ∧ bK m ((Prg.up bank (bits - n) n).bind (levK bank)) s = R) 0 ⟨_, rfl, hok0, hC0, hR⟩ (by omega) (fun n t hJ hnb => ?_)
 obtain ⟨s, rfl, hok, hC, hJ⟩ := hJ
 refine aI ?_
 refine aB M hI hn (by rfl) (by kernel_rfl) ?_ ?_
 ·simp
 refine aJ (by rfl) (fun hc => ?_) (fun hc => ?_)
 ·have hcc : (bif decide ((n : Int) < (bits : Int)) then !s.stop else false) = true := hc
  have hn2 : n < bits := by
   by_cases h : n < bits
   ·exact h
   ·rw [decide_eq_false (by omega)] at hcc
    cases hcc
  refine aN ?_
  change Tri _ _ _ _ _
  refine bI ?_
  rw [show bits - n = (bits - (n + 1)) + 1 by omega, Prg.up, Prg.bind_assoc, eQ] at hJ
  have hle : (bK m (Prg.read bank (n : Int)) s).2.i ≤ 1000000 := Nat.le_trans (lC m _ _) (by rw [hJ]; exact hi)
  have hok2 := lG (Prg.read bank (n : Int)) hok hle
  have hC2 := hC.shp (jU m (Prg.read bank (n : Int)) s)
  have M := kuM3 m s
  refine aB M hI hn (by rfl) (by kernel_rfl) ?_ ?_
  ·simp
   exact ⟨hok, ⟨hC, by omega⟩, hle⟩
  refine aV (s' := aTi m (bK m (Prg.read bank (n : Int)) s) bank bits n) (fun a w hg => (hg.reset (kT := [0, 1, 2, 7, 8]) (kO := [px]) (by rfl) (by simp)).same ?_ ?_) ?_
  ·exact .cons rfl (.cons rfl (.cons rfl (.cons rfl (.cons rfl .nil))))
  ·exact .cons (.box rfl) .nil
  generalize bK m (Prg.read bank (n : Int)) s = q at hJ hok2 hC2 ⊢
  obtain ⟨one, s2⟩ := q
  dsimp only at hok2 hC2 hJ ⊢
  clear hok hC
  have hok := hok2
  have hC := hC2
  clear hok2 hC2 hle
  refine aI ?_
  refine aB M hI hn (by rfl) (by kernel_rfl) ?_ ?_
  ·simp
  refine aJ (by rfl) (fun hc => ?_) (fun hc => ?_)
  ·have ho : one = false := by
    have hc' : (!one) = true := hc
    simpa using hc'
   subst ho
   refine dZ ?_
   change Tri _ _ _ _ _
   have hK : bK m (levK bank n) s2 = R := hJ
   clear hJ
   generalize s2 = s at hok hC hK ⊢
   refine aI ?_
   refine aB M hI hn (by rfl) (by kernel_rfl) ?_ ?_
   ·simp
   refine bI ?_
   refine aV (s' := vK m s bank n 0) (fun a w hg => (hg.reset (kT := [0, 1, 7, 9]) (kO := [px]) (by rfl) (by simp)).same ?_ ?_) ?_
   ·exact .cons rfl (.cons rfl (.cons rfl (.cons rfl .nil)))
   ·exact .cons (.box rfl) .nil
   refine fV n (fun b t => ∃ s, t = vK m s bank n b ∧ KuOk m s ∧ HasB m s bank ∧ bK m ((Prg.down bank (n - b) b).bind fun _ => .ret n) s = R) 0 ⟨_, rfl, hok, hC, hK⟩ (by omega) (fun b t hJ hb => ?_)
   clear hok hC hK
   obtain ⟨s, rfl, hok, hC, hJ⟩ := hJ
   refine aI ?_
   refine aB M hI hn (by rfl) (by kernel_rfl) ?_ ?_
   ·simp
   refine aJ (by rfl) (fun hc => ?_) (fun hc => ?_)
   ·have hcc : (bif decide ((b : Int) < (n : Int)) then !s.stop else false) = true := hc
    have hb2 : b < n := by
     by_cases h : b < n
     ·exact h
     ·rw [decide_eq_false (by omega)] at hcc
      cases hcc
    refine aN ?_
    change Tri _ _ _ _ _
    refine aI ?_
    refine bI ?_
    rw [show n - b = (n - (b + 1)) + 1 by omega, Prg.down, Prg.bind_assoc, eQ] at hJ
    have hle : (bK m (Prg.pulses bank (b : Int)) s).2.i ≤ 1000000 := Nat.le_trans (lC m _ _) (by rw [hJ]; exact hi)
    have hok2 := lG (Prg.pulses bank (b : Int)) hok hle
    have hC2 := hC.shp (jU m (Prg.pulses bank (b : Int)) s)
    have M := kuM3 m s
    refine aS M hI hn (by rfl) (by kernel_rfl) ?_ ?_
    ·simp
     exact ⟨hok, ⟨hC, by omega⟩, hle⟩
    change Tri _ _ _ _ _
    refine aS M hI hn (by rfl) (by kernel_rfl) ?_ ?_
    ·simp
    intro a w hg
    refine ⟨b + 1, _, by omega, by omega, ⟨_, rfl, hok2, hC2, hJ⟩, (hg.reset (kT := [0, 1, 7, 9]) (kO := [px]) (by rfl) (by simp)).same ?_ ?_⟩
    ·exact .cons rfl (.cons rfl (.cons rfl (.cons (by rw [bZ b (by omega)]) .nil)))
    ·exact .cons (.box rfl) .nil
   ·have hcc : (bif decide ((b : Int) < (n : Int)) then !s.stop else false) = false := hc
    have hE : R = (n, s) := by
     rw [← hJ, eQ]
     by_cases h : b < n
     ·rw [decide_eq_true (by omega)] at hcc
      have hst : s.stop = true := by simpa using hcc
      rw [oN m _ s hst]
      rfl
     ·rw [show n - b = 0 by omega]
      rfl
    rw [hE]
    refine dZ ?_
    change Tri _ _ _ _ _
    refine aB M hI hn (by rfl) (by kernel_rfl) ?_ ?_
    ·simp
    refine bC (fun a w hg => ⟨.inr rfl, _, ⟨?_, (fun o ho => by obtain rfl := List.mem_singleton.1 ho; exact ⟨_, rfl, dA rfl⟩), fun p hp => (by cases hp)⟩, hg⟩)
    refine aK (by rfl) (by simp) (by rfl) (by rfl) ?_
    all_goals rfl
  ·have ho : one = true := by
    have hc' : (!one) = false := hc
    simpa using hc'
   subst ho
   refine aN ?_
   change Tri _ _ _ _ _
   refine aS M hI hn (by rfl) (by kernel_rfl) ?_ ?_
   ·simp
   intro a w hg
   refine ⟨n + 1, _, by omega, by omega, ⟨_, rfl, hok, hC, hJ⟩, (hg.reset (kT := [0, 1, 2, 7]) (kO := [px]) (by rfl) (by simp)).same ?_ ?_⟩
   ·exact .cons rfl (.cons rfl (.cons rfl (.cons (by rw [bZ n (by omega)]) .nil)))
   ·exact .cons (.box rfl) .nil
 ·have hcc : (bif decide ((n : Int) < (bits : Int)) then !s.stop else false) = false := hc
  have hK : bK m (levK bank n) s = R := by
   rw [← hJ, eQ m (Prg.up bank (bits - n) n)]
   by_cases h : n < bits
   ·rw [decide_eq_true (by omega)] at hcc
    have hst : s.stop = true := by simpa using hcc
    rw [up_stop m bank _ n hst]
   ·rw [show bits - n = 0 by omega]
    rfl
  refine dZ ?_
  change Tri _ _ _ _ _
  clear hJ
  refine aI ?_
  refine aB M hI hn (by rfl) (by kernel_rfl) ?_ ?_
  ·simp
  refine bI ?_
  refine aV (s' := vK m s bank n 0) (fun a w hg => (hg.reset (kT := [0, 1, 7, 9]) (kO := [px]) (by rfl) (by simp)).same ?_ ?_) ?_
  ·exact .cons rfl (.cons rfl (.cons rfl (.cons rfl .nil)))
  ·exact .cons (.box rfl) .nil
  refine fV n (fun b t => ∃ s, t = vK m s bank n b ∧ KuOk m s ∧ HasB m s bank ∧ bK m ((Prg.down bank (n - b) b).bind fun _ => .ret n) s = R) 0 ⟨_, rfl, hok, hC, hK⟩ (by omega) (fun b t hJ hb => ?_)
  clear hok hC hK
  obtain ⟨s, rfl, hok, hC, hJ⟩ := hJ
  refine aI ?_
  refine aB M hI hn (by rfl) (by kernel_rfl) ?_ ?_
  ·simp
  refine aJ (by rfl) (fun hc => ?_) (fun hc => ?_)
  ·have hcc : (bif decide ((b : Int) < (n : Int)) then !s.stop else false) = true := hc
   have hb2 : b < n := by
    by_cases h : b < n
    ·exact h
    ·rw [decide_eq_false (by omega)] at hcc
     cases hcc
   refine aN ?_
   change Tri _ _ _ _ _
   refine aI ?_
   refine bI ?_
   rw [show n - b = (n - (b + 1)) + 1 by omega, Prg.down, Prg.bind_assoc, eQ] at hJ
   have hle : (bK m (Prg.pulses bank (b : Int)) s).2.i ≤ 1000000 := Nat.le_trans (lC m _ _) (by rw [hJ]; exact hi)
   have hok2 := lG (Prg.pulses bank (b : Int)) hok hle
   have hC2 := hC.shp (jU m (Prg.pulses bank (b : Int)) s)
   have M := kuM3 m s
   refine aS M hI hn (by rfl) (by kernel_rfl) ?_ ?_
   ·simp
    exact ⟨hok, ⟨hC, by omega⟩, hle⟩
   change Tri _ _ _ _ _
   refine aS M hI hn (by rfl) (by kernel_rfl) ?_ ?_
   ·simp
   intro a w hg
   refine ⟨b + 1, _, by omega, by omega, ⟨_, rfl, hok2, hC2, hJ⟩, (hg.reset (kT := [0, 1, 7, 9]) (kO := [px]) (by rfl) (by simp)).same ?_ ?_⟩
   ·exact .cons rfl (.cons rfl (.cons rfl (.cons (by rw [bZ b (by omega)]) .nil)))
   ·exact .cons (.box rfl) .nil
  ·have hcc : (bif decide ((b : Int) < (n : Int)) then !s.stop else false) = false := hc
   have hE : R = (n, s) := by
    rw [← hJ, eQ]
    by_cases h : b < n
    ·rw [decide_eq_true (by omega)] at hcc
     have hst : s.stop = true := by simpa using hcc
     rw [oN m _ s hst]
     rfl
    ·rw [show n - b = 0 by omega]
     rfl
   rw [hE]
   refine dZ ?_
   change Tri _ _ _ _ _
   refine aB M hI hn (by rfl) (by kernel_rfl) ?_ ?_
   ·simp
   refine bC (fun a w hg => ⟨.inr rfl, _, ⟨?_, (fun o ho => by obtain rfl := List.mem_singleton.1 ho; exact ⟨_, rfl, dA rfl⟩), fun p hp => (by cases hp)⟩, hg⟩)
   refine aK (by rfl) (by simp) (by rfl) (by rfl) ?_
   all_goals rfl
end Go.Proofs.YtihghljfmlbfhaaGreatDoor.Pv
namespace Go.Proofs.YtihghljfmlbfhaaGreatDoor
open Go.RowKit
theorem nU (x : UInt32) (n : Nat) (nI : Int) (hI : nI = (n : Int)) (w : World) (hn : 0 < n) (hn2 : n < 32) :
  Calls Tryz.prog 111 #[.int .u32 (x.toNat : Int), .int .i64 nI] w fun e w' => e = .returned (.int .u32 ((dM x (UInt32.ofNat n)).toNat : Int)) ∧ ∃ k, w' = w.drewN k := by
 subst hI
 have h0 := hide (show bits BinOp.or IntKind.u32 ((x.toNat : Int) / 2 ^ n) ((x.toNat : Int) * 2 ^ (32 - n) % 4294967296) = ((dM x (UInt32.ofNat n)).toNat : Int) from by
  rw [aNd x (32 - n) (by omega), aQv x n hn2, or32]
  unfold dM
  have e : UInt32.ofNat (32 - n) = 32 - UInt32.ofNat n := by
   apply UInt32.toNat_inj.1
   rw [UInt32.toNat_sub]
   simp
   omega
  rw [e])
 have hx := x.toNat_lt
 have h2 : IntKind.i64.wrap (32 - (n : Int)) = ((32 - n : Nat) : Int) := by
  rw [show (32 : Int) - (n : Int) = ((32 - n : Nat) : Int) by omega]
  exact IntWalk.i64_in _ (by omega)
 go_enter Tryz.func111, Tryz.ntmps111
 go_wp2
 go_quiet (fail)
 go_wp2
 go_ret
 exact ⟨pF (aA h0), _, rfl⟩
theorem u32_row : SlTy Tryz.prog 146 149 1 4 := SlTy.mk' (z := .int .u32 0) (by kernel_rfl) (by kernel_rfl) rfl (by omega) (by omega)
def hexD (c : UInt8) : UInt32 := if 97 ≤ c.toNat then (c - 97 + 10).toUInt32 else (c - 48).toUInt32
def aGy (l : List UInt8) (i k : Nat) : UInt32 := ((l.drop (8 * i)).take k).foldl (fun w c => 16 * w + hexD c) 0
def pX (l : List UInt8) (i : Nat) : UInt32 := aGy l i 8
theorem aOy (l : List UInt8) (i k : Nat) (h : 8 * i + k < l.length) : aGy l i (k + 1) = 16 * aGy l i k + hexD l[8 * i + k] := by
 unfold aGy
 rw [jB _ k (by simp; omega), List.foldl_append]
 simp
theorem hex_lo (c : UInt8) (h : c.toNat < 97) : ((c.toNat : Int) - 48) % 256 = ((hexD c).toNat : Int) := by
 unfold hexD
 rw [if_neg (by omega), UInt8.toNat_toUInt32, UInt8.toNat_sub, show (48 : UInt8).toNat = 48 from rfl]
 have := c.toNat_lt
 omega
theorem hex_hi (c : UInt8) (h : 97 ≤ c.toNat) : (c.toNat : Int) - 97 + 10 = ((hexD c).toNat : Int) := by
 unfold hexD
 rw [if_pos h, UInt8.toNat_toUInt32, UInt8.toNat_add, UInt8.toNat_sub, show (97 : UInt8).toNat = 97 from rfl, show (10 : UInt8).toNat = 10 from rfl]
 have := c.toNat_lt
 omega
theorem hex_next (a d : UInt32) : (16 * (a.toNat : Int) % 4294967296 + (d.toNat : Int)) % 4294967296 = ((16 * a + d).toNat : Int) := by
 rw [UInt32.toNat_add, UInt32.toNat_mul]
 simp
theorem word_any (s : ByteArray) (i : Nat) (w : World) (hs : s.size ≤ 100000) (hi : 8 * i + 8 ≤ s.size) :
  Calls Tryz.prog 110 #[.string s, .int .i64 (i : Int)] w fun e w' => e = .returned (.int .u32 ((pX s.data.toList i).toNat : Int)) ∧ w = w' := by
 have e8 : IntKind.i64.wrap (8 * (i : Int)) = 8 * (i : Int) := IntWalk.i64_in _ (by omega)
 go_enter Tryz.func110, Tryz.ntmps110
 go_wp2
 go_loop [5, 6] (fun a b => ∃ k : Nat, k ≤ 8 ∧ b = .int .i64 ((8 * i + k : Nat) : Int) ∧ a = .int .u32 ((aGy s.data.toList i k).toNat : Int)) (fun _ b => 8 * i + 8 - (intOf b).toNat)
 case atStart => exact ⟨0, Nat.zero_le _, by simp, rfl⟩
 case round =>
  obtain ⟨k, hk, rfl, rfl⟩ := hrel
  by_cases hlt : k < 8
  ·have hj : 8 * i + k < s.size := by omega
   have HS := hide (aOy s.data.toList i k (by rw [Array.length_toList]; exact hj))
   have hc := s[8 * i + k].toNat_lt
   have HC : Hid (s.data.toList[8 * i + k]'(by rw [Array.length_toList]; exact hj) = s[8 * i + k]) := hide (by rw [Array.getElem_toList]; rfl)
   have ha := (aGy s.data.toList i k).toNat_lt
   have HN := hide (fun d => hex_next (aGy s.data.toList i k) d)
   generalize aGy s.data.toList i k = acc at *
   have e1 : decide (((8 * i + k : Nat) : Int) < 8 * (i : Int) + 8) = true := decide_eq_true (by omega)
   by_cases h97 : 97 ≤ s[8 * i + k].toNat
   ·have HX := hide (hex_hi s[8 * i + k] h97)
    go_wp2
    go_round
    case rel => exact ⟨k + 1, by omega, by go_num, int_eq (by rw [aA HX, aA HS, aA HC]; exact aA HN _)⟩
    case measure => simp [intOf]; omega
   ·have HX := hide (hex_lo s[8 * i + k] (by omega))
    go_wp2
    go_round
    case rel => exact ⟨k + 1, by omega, by go_num, int_eq (by rw [aA HX, aA HS, aA HC]; exact aA HN _)⟩
    case measure => simp [intOf]; omega
  ·obtain rfl : k = 8 := by omega
   have e1 : decide (((8 * i + 8 : Nat) : Int) < 8 * (i : Int) + 8) = false := decide_eq_false (by omega)
   go_wp2
   go_ret
   exact ⟨rfl, rfl⟩
theorem aEz (s : ByteArray) (n : Nat) (nI : Int) (hI : nI = (n : Int)) (w : World) (hs : s.size ≤ 100000) (hn : 8 * n ≤ s.size) :
  Calls Tryz.prog 89 #[.string s, .int .i64 nI] w fun e w' => ∃ A c, e = .returned (.slice A n c) ∧ w'.ownsRow w.heap.size 149 1 (.slice A n c) n (((List.range n).map (pX s.data.toList)).map w32) ∧ Ext w w' := by
 subst hI
 go_enter Tryz.func89, Tryz.ntmps89
 go_wp2
 go_loopw [5, 6] (fun b i wr => ∃ (k : Nat) (A : Option Addr) (c : Nat), k ≤ n ∧ i = .int .i64 k ∧ b = .slice A k c ∧ Hid (wr.ownsRow w.heap.size 149 1 (.slice A k c) k (((List.range k).map (pX s.data.toList)).map w32) ∧ Ext w wr)) (fun _ i _ => n - (intOf i).toNat)
 case atStart => exact ⟨0, none, 0, Nat.zero_le _, rfl, rfl, hide ⟨World.ownsRow_nil _ _ _ _, Ext.refl _⟩⟩
 case round =>
  obtain ⟨k, A, c, hk, rfl, rfl, HI⟩ := hrel
  by_cases hlt : k < n
  ·have HX := hide (show ((List.range (k + 1)).map (pX s.data.toList)).map w32 = ((List.range k).map (pX s.data.toList)).map w32 ++ [w32 (pX s.data.toList k)] from by rw [List.range_succ]; simp)
   have HW := hide (fun W => word_any s k W hs (by omega))
   generalize pX s.data.toList k = x at *
   go_wp2_with (first
    | (go_at_call 110; refine (aA HW _).mono ?_; rintro e w' ⟨rfl, rfl⟩)
    | (at_builtin; refine aU rfl rfl u32_row rfl (aQ (aA HI).1 ((Ext.refl _).alloc _)) rfl (Reads.new1 _ _ _) (bP.one rfl) (by omega) (Nat.le_trans (aA HI).2.size' (by simp)) ?_; intro A' c' w2 ho hc hv; have HQ := hide (And.intro ho (And.intro hc hv)); clear ho hc hv))
   go_roundw
   case rel =>
    refine ⟨k + 1, A', c', by omega, by go_num, rfl, hide ⟨by rw [aA HX]; exact (aA HQ).1, ?_⟩⟩
    exact Onto.new_ext (aA HI).2 (((Onto.refl _ _).ext ((Ext.refl wr).alloc _)).trans (Onto.app (aA HQ).2.1 (aA HQ).2.2)) (fun q hq => ((aA HI).1.lt q hq).1)
   case measure => simp [intOf]; omega
  ·obtain rfl : k = n := by omega
   go_wp2
   go_ret
   exact ⟨_, _, rfl, (aA HI).1, (aA HI).2⟩
theorem Reads.at_ {w : World} {b o n c : Nat} {xs : List Value} (h : Reads w 1 (.slice (some ⟨b, o, none⟩) n c) n xs) {j : Nat} {u : Value} (hj : xs[j]? = some u) : w.cell? ⟨b, o + j, none⟩ = some u := by
 obtain ⟨hl, A, c', e, _, _, hc⟩ := h
 have hjl : j < xs.length := by
  rcases Nat.lt_or_ge j xs.length with h | h
  ·exact h
  ·rw [List.getElem?_eq_none h] at hj; cases hj
 obtain ⟨b', o', e', hcc⟩ := hc (by omega)
 cases e
 cases e'
 exact hcc j u hj
theorem Reads.byteAt {w : World} {b o n c : Nat} {l : List UInt8} (h : Reads w 1 (.slice (some ⟨b, o, none⟩) n c) n (l.map u8v)) {j : Nat} (hj : j < l.length) : w.cell? ⟨b, o + j, none⟩ = some (.int .u8 ((l.getD j 0).toNat : Int)) :=
 h.at_ (by rw [List.getElem?_map, zG, zH hj]; rfl)
theorem Reads.wordAt {w : World} {b o n c : Nat} {l : List UInt32} (h : Reads w 1 (.slice (some ⟨b, o, none⟩) n c) n (l.map w32)) {j : Nat} (hj : j < l.length) : w.cell? ⟨b, o + j, none⟩ = some (.int .u32 ((l.getD j 0).toNat : Int)) :=
 h.at_ (by rw [List.getElem?_map, zG, zH hj]; rfl)
structure GB (w0 : World) (B : Nat) (v : Value) (n : Nat) (l : List UInt8) (wr : World) : Prop where
 own : wr.ownsRow B 5 1 v n (l.map u8v)
 ext : Ext w0 wr
 base : w0.heap.size ≤ B
 room : B ≤ wr.heap.size
theorem GB.nil {w0 wr : World} {B : Nat} (hE : Ext w0 wr) (hB : w0.heap.size ≤ B) (hR : B ≤ wr.heap.size) : GB w0 B (.slice none 0 0) 0 [] wr := ⟨World.ownsRow_nil _ _ _ _, hE, hB, hR⟩
theorem GB.len {w0 wr : World} {B n : Nat} {v : Value} {l : List UInt8} (h : GB w0 B v n l wr) : l.length = n := by have := h.own.1; simpa using this
theorem GB.to {w0 wr w1 : World} {B n : Nat} {v : Value} {l : List UInt8} (h : GB w0 B v n l wr) (hE : Ext wr w1) : GB w0 B v n l w1 := ⟨aQ h.own hE, h.ext.trans hE, h.base, Nat.le_trans h.room hE.size'⟩
theorem GB.step {w0 wr w1 w2 : World} {B n n' : Nat} {v v' : Value} {l l' : List UInt8} (h : GB w0 B v n l wr) (hE : Ext wr w1) (hc : Chg (fun k => v.ownBlock = some k) w1 w2) (ho : w2.ownsRow B 5 1 v' n' (l'.map u8v)) : GB w0 B v' n' l' w2 :=
 ⟨ho, (h.ext.trans hE).trans' hc (fun _ _ h => h) (fun i hi e => by have := (h.own.lt i e).1; have := h.base; omega), h.base, Nat.le_trans h.room (Nat.le_trans hE.size' hc.size)⟩
theorem GB.blk {w0 wr w1 w2 : World} {B n : Nat} {v : Value} {l : List UInt8} (h : GB w0 B v n l wr) (hE : Ext wr w1) (hc : Chg (fun k => v.ownBlock = some k) w1 w2) {g : Nat} {t : TypeId} {cs : Array Value} (hb : Blk wr g t cs) (hg : g < B) : Blk w2 g t cs :=
 (hb.ext hE).chg hc (fun e => by have := (h.own.lt g e).1; omega)
theorem GB.reads {w0 wr : World} {B n : Nat} {v : Value} {l : List UInt8} (h : GB w0 B v n l wr) : Reads wr 1 v n (l.map u8v) := Reads.of_own h.own
def cZ (n : Nat) (l : List UInt8) : Array Value := (l.map u8v ++ List.replicate (n - l.length) (Value.int .u8 0)).toArray
theorem rM {n : Nat} {l : List UInt8} {i : Nat} (h : l.length ≤ i) (hi : i < n) : (cZ n l)[i]? = some (.int .u8 0) := by
 unfold cZ
 rw [List.getElem?_toArray, List.getElem?_append_right (by simpa using h), List.getElem?_replicate, if_pos (by simp; omega)]
theorem aAm {n k : Nat} {l : List UInt8} (x : UInt8) (hl : l.length = k) (h : k < n) : (cZ n l).setIfInBounds k (.int .u8 (x.toNat : Int)) = cZ n (l ++ [x]) := by
 subst hl
 unfold cZ
 rw [show n - l.length = (n - (l ++ [x]).length) + 1 from by simp; omega, List.replicate_succ]
 simp [u8v]
theorem aKg (n : Nat) : cZ n [] = Array.replicate n (Value.int .u8 0) := by
 unfold cZ
 simp
theorem jO {n : Nat} {l : List UInt8} (h : l.length ≤ n) : (cZ n l).size = n := by
 unfold cZ
 simp
 omega
theorem aAn {n : Nat} {l : List UInt8} (h : l.length = n) : cZ n l = (l.map u8v).toArray := by
 unfold cZ
 rw [h, Nat.sub_self]
 simp
section
variable {P : Program}
end
theorem Reads.newM (w : World) (cs : Array Value) (e : TypeId) (fr : Nat × Nat) (n c : Nat) (xs : List Value) {g : Nat} (hg : g = w.heap.size) (hx : xs.length = n) (hc : n ≤ c) (hm : c ≤ maxLen) (ht : cs.toList.take xs.length = xs) :
  Reads (w.alloc (.cells cs e fr)) 1 (.slice (some ⟨g, 0, none⟩) n c) n xs := by
 subst hg
 refine ⟨by rw [hx, Nat.mul_one], _, c, rfl, hc, hm, fun _ => ⟨w.heap.size, 0, rfl, fun j u hu => ?_⟩⟩
 have hj : j < xs.length := by
  rcases Nat.lt_or_ge j xs.length with h | h
  ·exact h
  ·rw [List.getElem?_eq_none h] at hu; cases hu
 rw [Nat.zero_add, World.cell?_alloc_mark]
 rw [← ht, List.getElem?_take, if_pos hj] at hu
 simpa using hu
end Go.Proofs.YtihghljfmlbfhaaGreatDoor
namespace Go.Proofs.YtihghljfmlbfhaaGreatDoor
open Go.RowKit
def RSch (w : World) (bs : List UInt8) (k : Nat) (wr : World) : Prop :=
 Blk wr w.heap.size 149 (dN 64 (bU bs k)) ∧ Ext w wr
theorem be4 (bs : List UInt8) (k : Nat) (h : 4 * k + 3 < bs.length) : nN ((bs.drop (4 * k)).take 4) = ((((bs.getD (4 * k) 0).toUInt32 <<< 24) ||| ((bs.getD (4 * k + 1) 0).toUInt32 <<< 16)) ||| ((bs.getD (4 * k + 2) 0).toUInt32 <<< 8)) ||| (bs.getD (4 * k + 3) 0).toUInt32 := by
 have e : (bs.drop (4 * k)).take 4 = [bs.getD (4 * k) 0, bs.getD (4 * k + 1) 0, bs.getD (4 * k + 2) 0, bs.getD (4 * k + 3) 0] := by
  apply List.ext_getElem?
  intro i
  rw [List.getElem?_take, List.getElem?_drop]
  match i with
  | 0 => simp; rw [zH (by omega)]; rfl
  | 1 => simp; rw [zH (by omega)]; rfl
  | 2 => simp; rw [zH (by omega)]; rfl
  | 3 => simp; rw [zH (by omega)]; rfl
  | i + 4 => simp; omega
 rw [e]
 generalize bs.getD (4 * k) 0 = a
 generalize bs.getD (4 * k + 1) 0 = b
 generalize bs.getD (4 * k + 2) 0 = c
 generalize bs.getD (4 * k + 3) 0 = d
 unfold nN
 simp only [List.foldl_cons, List.foldl_nil]
 apply UInt32.eq_of_toBitVec_eq
 simp
 have e1 : ∀ x : BitVec 32, (x <<< 8) <<< 8 = x <<< 16 := fun x => by rw [← BitVec.shiftLeft_add]
 have e2 : ∀ x : BitVec 32, (x <<< 16) <<< 8 = x <<< 24 := fun x => by rw [← BitVec.shiftLeft_add]
 simp only [BitVec.shiftLeft_or_distrib, e1, e2]
theorem mod8 (y : UInt8) : (y.toNat : Int) % 4294967296 = (y.toNat : Int) := by have := y.toNat_lt; omega
theorem aNg (bs : List UInt8) (j : Nat) : bU bs (j + 16 + 1) = bU bs (j + 16) ++ [(bU bs (j + 16)).getD j 0 + ((dM ((bU bs (j + 16)).getD (j + 1) 0) 7 ^^^ dM ((bU bs (j + 16)).getD (j + 1) 0) 18) ^^^ ((bU bs (j + 16)).getD (j + 1) 0 >>> 3)) + (bU bs (j + 16)).getD (j + 9) 0 +
  ((dM ((bU bs (j + 16)).getD (j + 14) 0) 17 ^^^ dM ((bU bs (j + 16)).getD (j + 14) 0) 19) ^^^ ((bU bs (j + 16)).getD (j + 14) 0 >>> 10))] := by
 rw [bU, if_neg (by omega)]
 unfold qQ
 simp only [fC, show j + 16 - 15 = j + 1 from by omega, show j + 16 - 2 = j + 14 from by omega, show j + 16 - 16 = j from by omega, show j + 16 - 7 = j + 9 from by omega]
theorem rot_6 (x : UInt32) (w : World) : Calls Tryz.prog 111 #[.int .u32 (x.toNat : Int), .int .i64 6] w fun e w' => e = .returned (.int .u32 ((dM x 6).toNat : Int)) ∧ ∃ k, w' = w.drewN k := nU x 6 _ rfl w (by omega) (by omega)
theorem rot_11 (x : UInt32) (w : World) : Calls Tryz.prog 111 #[.int .u32 (x.toNat : Int), .int .i64 11] w fun e w' => e = .returned (.int .u32 ((dM x 11).toNat : Int)) ∧ ∃ k, w' = w.drewN k := nU x 11 _ rfl w (by omega) (by omega)
theorem rot_25 (x : UInt32) (w : World) : Calls Tryz.prog 111 #[.int .u32 (x.toNat : Int), .int .i64 25] w fun e w' => e = .returned (.int .u32 ((dM x 25).toNat : Int)) ∧ ∃ k, w' = w.drewN k := nU x 25 _ rfl w (by omega) (by omega)
theorem rot_2 (x : UInt32) (w : World) : Calls Tryz.prog 111 #[.int .u32 (x.toNat : Int), .int .i64 2] w fun e w' => e = .returned (.int .u32 ((dM x 2).toNat : Int)) ∧ ∃ k, w' = w.drewN k := nU x 2 _ rfl w (by omega) (by omega)
theorem rot_13 (x : UInt32) (w : World) : Calls Tryz.prog 111 #[.int .u32 (x.toNat : Int), .int .i64 13] w fun e w' => e = .returned (.int .u32 ((dM x 13).toNat : Int)) ∧ ∃ k, w' = w.drewN k := nU x 13 _ rfl w (by omega) (by omega)
theorem rot_22 (x : UInt32) (w : World) : Calls Tryz.prog 111 #[.int .u32 (x.toNat : Int), .int .i64 22] w fun e w' => e = .returned (.int .u32 ((dM x 22).toNat : Int)) ∧ ∃ k, w' = w.drewN k := nU x 22 _ rfl w (by omega) (by omega)
theorem rot_7 (x : UInt32) (w : World) : Calls Tryz.prog 111 #[.int .u32 (x.toNat : Int), .int .i64 7] w fun e w' => e = .returned (.int .u32 ((dM x 7).toNat : Int)) ∧ ∃ k, w' = w.drewN k := nU x 7 _ rfl w (by omega) (by omega)
theorem rot_18 (x : UInt32) (w : World) : Calls Tryz.prog 111 #[.int .u32 (x.toNat : Int), .int .i64 18] w fun e w' => e = .returned (.int .u32 ((dM x 18).toNat : Int)) ∧ ∃ k, w' = w.drewN k := nU x 18 _ rfl w (by omega) (by omega)
theorem rot_17 (x : UInt32) (w : World) : Calls Tryz.prog 111 #[.int .u32 (x.toNat : Int), .int .i64 17] w fun e w' => e = .returned (.int .u32 ((dM x 17).toNat : Int)) ∧ ∃ k, w' = w.drewN k := nU x 17 _ rfl w (by omega) (by omega)
theorem rot_19 (x : UInt32) (w : World) : Calls Tryz.prog 111 #[.int .u32 (x.toNat : Int), .int .i64 19] w fun e w' => e = .returned (.int .u32 ((dM x 19).toNat : Int)) ∧ ∃ k, w' = w.drewN k := nU x 19 _ rfl w (by omega) (by omega)
theorem aQu (x r s : UInt32) (n : Nat) (d : Int) (hd : d = 2 ^ n) (hn : n < 32) : bits BinOp.xor IntKind.u32 (bits BinOp.xor IntKind.u32 (r.toNat : Int) (s.toNat : Int)) ((x.toNat : Int) / d) = (((r ^^^ s) ^^^ (x >>> UInt32.ofNat n)).toNat : Int) := by
 rw [hd, aQv x n hn, sH, sH]
theorem add4 (a b c d : UInt32) : ((a.toNat : Int) + (b.toNat : Int) + (c.toNat : Int) + (d.toNat : Int)) % 4294967296 = ((a + b + c + d).toNat : Int) := by
 rw [UInt32.toNat_add, UInt32.toNat_add, UInt32.toNat_add]
 omega
theorem rt_val (x7 x4 x5 x6 xk xw r1 r2 r3 : UInt32) : ((x7.toNat : Int) + bits BinOp.xor IntKind.u32 (bits BinOp.xor IntKind.u32 (r1.toNat : Int) (r2.toNat : Int)) (r3.toNat : Int) + bits BinOp.xor IntKind.u32 (bits BinOp.and IntKind.u32 (x4.toNat : Int) (x5.toNat : Int)) (bits BinOp.and IntKind.u32 (bits BinOp.xor IntKind.u32 4294967295 (x4.toNat : Int)) (x6.toNat : Int)) + (xk.toNat : Int) + (xw.toNat : Int)) % 4294967296 =
  ((x7 + (r1 ^^^ r2 ^^^ r3) + ((x4 &&& x5) ^^^ (~~~x4 &&& x6)) + xk + xw).toNat : Int) := by
 rw [show (4294967295 : Int) = IntKind.u32.max from rfl, not32, aBf, aBf, sH, sH, sH]
 simp only [UInt32.toNat_add]
 omega
theorem ru_val (T x0 x1 x2 r1 r2 r3 : UInt32) : ((T.toNat : Int) + (bits BinOp.xor IntKind.u32 (bits BinOp.xor IntKind.u32 (r1.toNat : Int) (r2.toNat : Int)) (r3.toNat : Int) + bits BinOp.xor IntKind.u32 (bits BinOp.xor IntKind.u32 (bits BinOp.and IntKind.u32 (x0.toNat : Int) (x1.toNat : Int)) (bits BinOp.and IntKind.u32 (x0.toNat : Int) (x2.toNat : Int))) (bits BinOp.and IntKind.u32 (x1.toNat : Int) (x2.toNat : Int))) % 4294967296) % 4294967296 =
  ((T + ((r1 ^^^ r2 ^^^ r3) + (((x0 &&& x1) ^^^ (x0 &&& x2)) ^^^ (x1 &&& x2)))).toNat : Int) := by
 rw [aBf, aBf, aBf, sH, sH, sH, sH]
 simp only [UInt32.toNat_add]
 omega
theorem aUj (R v : List UInt32) (hR : R.length = 8) (hv : v.length = 8) : List.zipWith (· + ·) R v = [v.getD 0 0 + R.getD 0 0, v.getD 1 0 + R.getD 1 0, v.getD 2 0 + R.getD 2 0, v.getD 3 0 + R.getD 3 0, v.getD 4 0 + R.getD 4 0, v.getD 5 0 + R.getD 5 0, v.getD 6 0 + R.getD 6 0, v.getD 7 0 + R.getD 7 0] := by
 match R, hR, v, hv with
 | [a, b, c, d, e, f, g, h], _, [a', b', c', d', e', f', g', h'], _ =>
  simp [UInt32.add_comm]
theorem be4_val (a b c d : UInt8) : bits BinOp.or IntKind.u32 (bits BinOp.or IntKind.u32 (bits BinOp.or IntKind.u32 ((a.toNat : Int) * 16777216 % 4294967296) ((b.toNat : Int) * 65536 % 4294967296)) ((c.toNat : Int) * 256 % 4294967296)) (d.toNat : Int) =
  ((((a.toUInt32 <<< 24) ||| (b.toUInt32 <<< 16)) ||| (c.toUInt32 <<< 8)) ||| d.toUInt32).toNat := by
 have h24 := aNd a.toUInt32 24 (by omega)
 have h16 := aNd b.toUInt32 16 (by omega)
 have h8 := aNd c.toUInt32 8 (by omega)
 rw [show (16777216 : Int) = 2 ^ 24 from rfl, show (65536 : Int) = 2 ^ 16 from rfl, show (256 : Int) = 2 ^ 8 from rfl, aHl, aHl b, aHl c, aHl d, h24, h16, h8, or32, or32, or32]
 rfl
theorem aDl (v : List UInt32) (bs : List UInt8) (vv bv kv : Value) (w : World) (hv : v.length = 8) (hb : bs.length = 64) (hrv : Reads w 1 vv 8 (v.map w32)) (hrb : Reads w 1 bv 64 (bs.map u8v)) (hrk : Reads w 1 kv 64 (shaK.map w32)) :
  Calls Tryz.prog 90 #[vv, bv, kv] w fun e w' => ∃ A, e = .returned (.slice A 8 8) ∧ Reads w' 1 (.slice A 8 8) 8 ((jF v bs).map w32) ∧ Ext w w' := by
 have HV := hide (And.intro hv hrv)
 have HB := hide (And.intro hb hrb)
 have HK := hide hrk
 obtain ⟨b0, o0, c0, rfl, _, _, _, _⟩ := hrv.sub 0 8 (by omega) (by omega)
 obtain ⟨b1, o1, c1, rfl, _, _, _, _⟩ := hrb.sub 0 64 (by omega) (by omega)
 obtain ⟨b2, o2, c2, rfl, _, _, _, _⟩ := hrk.sub 0 64 (by omega) (by omega)
 clear hv hb hrv hrb hrk
 go_enter Tryz.func90, Tryz.ntmps90
 have hmk : ∀ W, (Instr.makeSlice 146 (.int .i64 64) (.int .i64 64)).run Tryz.prog W = .ok (.slice (some ⟨W.heap.size, 0, none⟩) 64 64) (W.alloc (.cells (dN 64 (bU bs 0)) 149)) := fun _ => by kernel_rfl
 go_wp2
 clear hmk
 go_loopw [8] (fun i wr => ∃ k : Nat, k ≤ 16 ∧ i = .int .i64 k ∧ Hid (RSch w bs k wr)) (fun i _ => 16 - (intOf i).toNat)
 case atStart => exact ⟨0, Nat.zero_le _, rfl, hide ⟨Blk.new _ _ _, (Ext.refl w).alloc _⟩⟩
 case round =>
  obtain ⟨k, hk, rfl, HS⟩ := hrel
  by_cases hlt : k < 16
  ·have hL := fC bs k
   have hw : wr.cell? ⟨w.heap.size, k, none⟩ = some (.int .u32 0) ∧ wr.frozen? ⟨w.heap.size, k, none⟩ = false := ⟨by
    rw [(aA HS).1.cell]
    unfold dN
    rw [List.getElem?_toArray, List.getElem?_append_right (by simp; omega), List.getElem?_replicate, if_pos (by simp; omega)], (aA HS).1.frozen k⟩
   obtain ⟨hw1, hw2⟩ := hw
   have hr1 := (aA HB).2.ext (aA HS).2
   have q0 := hr1.byteAt (j := 4 * k) (by rw [(aA HB).1]; omega)
   have q1 := hr1.byteAt (j := 4 * k + 1) (by rw [(aA HB).1]; omega)
   have q2 := hr1.byteAt (j := 4 * k + 2) (by rw [(aA HB).1]; omega)
   have q3 := hr1.byteAt (j := 4 * k + 3) (by rw [(aA HB).1]; omega)
   clear hr1
   have HX := hide (be4 bs k (by rw [(aA HB).1]; omega))
   have HE := hide (fun a b c d => be4_val a b c d)
   generalize bs.getD (4 * k) 0 = y0 at *
   generalize bs.getD (4 * k + 1) 0 = y1 at *
   generalize bs.getD (4 * k + 2) 0 = y2 at *
   generalize bs.getD (4 * k + 3) 0 = y3 at *
   have e0 : IntKind.i64.wrap (4 * (k : Int)) = 4 * (k : Int) := IntWalk.i64_in _ (by omega)
   have e1 : IntKind.i64.wrap (4 * (k : Int) + 1) = 4 * (k : Int) + 1 := IntWalk.i64_in _ (by omega)
   have e2 : IntKind.i64.wrap (4 * (k : Int) + 2) = 4 * (k : Int) + 2 := IntWalk.i64_in _ (by omega)
   have e3 : IntKind.i64.wrap (4 * (k : Int) + 3) = 4 * (k : Int) + 3 := IntWalk.i64_in _ (by omega)
   have t0 : (4 * (k : Int)).toNat = 4 * k := by omega
   have t1 : (4 * (k : Int) + 1).toNat = 4 * k + 1 := by omega
   have t2 : (4 * (k : Int) + 2).toNat = 4 * k + 2 := by omega
   have t3 : (4 * (k : Int) + 3).toNat = 4 * k + 3 := by omega
   have z : (0 : Int) ≤ 4 * (k : Int) ∧ (0 : Int) ≤ 4 * (k : Int) + 1 ∧ (0 : Int) ≤ 4 * (k : Int) + 2 ∧ (0 : Int) ≤ 4 * (k : Int) + 3 ∧ 4 * (k : Int) < 64 ∧ 4 * (k : Int) + 1 < 64 ∧ 4 * (k : Int) + 2 < 64 ∧ 4 * (k : Int) + 3 < 64 ∧ (k : Int) < 64 := by omega
   obtain ⟨z1, z2, z3, z4, z5, z6, z7, z8, z9⟩ := z
   go_wp2_with fail
   go_still_tail 36, (by kernel_rfl)
   clear q0 q1 q2 q3
   change wpList _ _ _ _ _ wr.drew
   go_wp2
   go_roundw
   case rel =>
    refine ⟨k + 1, by omega, by go_num, hide ⟨?_, (Ext.setCell (aA HS).2.drew (by simp) _)⟩⟩
    have h1 := (aA HS).1.drew.set_ k (.int .u32 ((nN ((bs.drop (4 * k)).take 4)).toNat : Int))
    rw [qM _ (fC bs k) (by omega)] at h1
    simp only [mod8]
    rw [aA HE, ← aA HX]
    rw [bU, if_pos hlt]
    first | exact h1.drew | exact h1
   case measure => simp [intOf]; omega
  ·obtain rfl : k = 16 := by omega
   clear hk hlt
   obtain ⟨wo, rfl⟩ : ∃ wo : World, wo = wr := ⟨_, rfl⟩
   go_wp2
   go_loopw [9] (fun i wr => ∃ k : Nat, 16 ≤ k ∧ k ≤ 64 ∧ i = .int .i64 k ∧ Hid (RSch w bs k wr)) (fun i _ => 64 - (intOf i).toNat)
   case atStart => exact ⟨16, by omega, by omega, rfl, HS⟩
   case round =>
    clear HS
    obtain ⟨k, hk16, hk, rfl, HS⟩ := hrel
    by_cases hlt : k < 64
    ·obtain ⟨j, rfl⟩ : ∃ j, k = j + 16 := ⟨k - 16, by omega⟩
     have hL := fC bs (j + 16)
     have cx : ∀ i, i < j + 16 → wr.cell? ⟨w.heap.size, i, none⟩ = some (.int .u32 (((bU bs (j + 16)).getD i 0).toNat : Int)) := fun i hi => by
      rw [(aA HS).1.cell]
      exact iK (by omega)
     have hold : wr.cell? ⟨w.heap.size, j + 16, none⟩ = some (.int .u32 0) := by
      rw [(aA HS).1.cell]
      unfold dN
      rw [List.getElem?_toArray, List.getElem?_append_right (by simp; omega), List.getElem?_replicate, if_pos (by simp; omega)]
     have HN := hide (aNg bs j)
     have HC := hide (And.intro hold (And.intro (cx j (by omega)) (cx (j + 9) (by omega))))
     have c1 := cx (j + 1) (by omega)
     have c14 := cx (j + 14) (by omega)
     clear cx hold
     generalize (bU bs (j + 16)).getD j 0 = x0 at *
     generalize (bU bs (j + 16)).getD (j + 1) 0 = x1 at *
     generalize (bU bs (j + 16)).getD (j + 9) 0 = x9 at *
     generalize (bU bs (j + 16)).getD (j + 14) 0 = x14 at *
     have d64 : decide ((j : Int) + 16 < 64) = true := decide_eq_true (by omega)
     have hj : j < 48 := by omega
     clear hk16 hk hlt
     go_upto_region 9 with fail
     have i15 : (((j + 16 : Nat) : Int) - 15) = ((j + 1 : Nat) : Int) := by omega
     go_cut [10] (fun s wx => ∃ T : UInt32, s = .int .u32 (T.toNat : Int) ∧ Hid (T = (dM x1 7 ^^^ dM x1 18) ^^^ (x1 >>> 3) ∧ Ext wr wx))
     case first =>
      go_quiet ((first | (go_at_call 111; with_reducible exact Calls.quiet_of (rot_7 x1 _)) | (go_at_call 111; with_reducible exact Calls.quiet_of (rot_18 x1 _))))
      go_wp2_with fail
      go_meet
      exact ⟨_, int_eq (aQu x1 _ _ 3 8 rfl (by omega)), hide ⟨rfl, (Ext.refl wr).drewN _⟩⟩
     case rest =>
      obtain ⟨T, rfl, HT⟩ := hcut
      obtain ⟨wp, rfl⟩ : ∃ wp : World, wp = wc := ⟨_, rfl⟩
      clear c1 i15
      have c14' := Ext.cellv (aA HT).2 c14
      clear c14
      go_upto_region 10 with fail
      have i2 : (((j + 16 : Nat) : Int) - 2) = ((j + 14 : Nat) : Int) := by omega
      go_cut [11] (fun s wx => ∃ U : UInt32, s = .int .u32 (U.toNat : Int) ∧ Hid (U = (dM x14 17 ^^^ dM x14 19) ^^^ (x14 >>> 10) ∧ Ext wr wx))
      case first =>
       go_quiet ((first | (go_at_call 111; with_reducible exact Calls.quiet_of (rot_17 x14 _)) | (go_at_call 111; with_reducible exact Calls.quiet_of (rot_19 x14 _))))
       go_wp2_with fail
       go_meet
       exact ⟨_, int_eq (aQu x14 _ _ 10 1024 rfl (by omega)), hide ⟨rfl, (aA HT).2.drewN _⟩⟩
      case rest =>
       obtain ⟨U, rfl, HU⟩ := hcut
       obtain ⟨wq, rfl⟩ : ∃ wq : World, wq = wc := ⟨_, rfl⟩
       clear c14' i2
       have f0 := Ext.cellv (aA HU).2 (aA HC).1
       have f1 := Ext.cellv (aA HU).2 (aA HC).2.1
       have f2 := Ext.cellv (aA HU).2 (aA HC).2.2
       have ff := ((aA HS).1.ext (aA HU).2).frozen (j + 16)
       have i16 : IntKind.i64.wrap (((j + 16 : Nat) : Int) - 16) = (j : Int) := (IntWalk.i64_in _ (by omega)).trans (by omega)
       have i7 : IntKind.i64.wrap (((j + 16 : Nat) : Int) - 7) = ((j + 9 : Nat) : Int) := (IntWalk.i64_in _ (by omega)).trans (by omega)
       have i7' : IntKind.i64.wrap ((j : Int) + 16 - 7) = (j : Int) + 9 := (IntWalk.i64_in _ (by omega)).trans (by omega)
       have i9 : IntKind.i64.wrap ((j : Int) + 9) = (j : Int) + 9 := IntWalk.i64_in _ (by omega)
       have i0 : IntKind.i64.wrap (j : Int) = (j : Int) := IntWalk.i64_in _ (by omega)
       have t9 : ((j : Int) + 9).toNat = j + 9 := by omega
       have t16 : ((j : Int) + 16).toNat = j + 16 := by omega
       have b0 : (0 : Int) ≤ (j : Int) + 9 ∧ (j : Int) + 9 < 64 ∧ (j : Int) < 64 ∧ (j : Int) + 16 < 64 ∧ (0 : Int) ≤ (j : Int) + 16 := by omega
       obtain ⟨b1, b2, b3, b4, b5⟩ := b0
       go_upto_region 11 with fail
       go_still_tail 18, (by kernel_rfl)
       clear f1 f2
       change wpList _ _ _ _ _ wq.drew
       go_wp2
       go_roundw
       case rel =>
        repeat apply Exists.intro
        refine ⟨?_, rfl⟩
        refine ⟨j + 16 + 1, by omega, by omega, by go_num, hide ⟨?_, ?_⟩⟩
        ·have h1 := (((aA HS).1.ext (aA HU).2).set_ (j + 16) (.int .u32 ((x0 + T + x9 + U).toNat : Int))).drew
         rw [qM _ (fC bs (j + 16)) (by omega)] at h1
         rw [aA HN, add4, ← (aA HT).1, ← (aA HU).1]
         exact h1
        ·exact (((aA HS).2.trans (aA HU).2).setCell (by simp) _).drew
       case measure => simp [intOf]; omega
    ·obtain rfl : k = 64 := by omega
     clear hk16 hk hlt
     obtain ⟨wp, rfl⟩ : ∃ wp : World, wp = wr := ⟨_, rfl⟩
     have hv := (aA HV).2.ext (aA HS).2
     have v0 := hv.wordAt (j := 0) (by rw [(aA HV).1]; omega)
     have v1 := hv.wordAt (j := 1) (by rw [(aA HV).1]; omega)
     have v2 := hv.wordAt (j := 2) (by rw [(aA HV).1]; omega)
     have v3 := hv.wordAt (j := 3) (by rw [(aA HV).1]; omega)
     have v4 := hv.wordAt (j := 4) (by rw [(aA HV).1]; omega)
     have v5 := hv.wordAt (j := 5) (by rw [(aA HV).1]; omega)
     have v6 := hv.wordAt (j := 6) (by rw [(aA HV).1]; omega)
     have v7 := hv.wordAt (j := 7) (by rw [(aA HV).1]; omega)
     rw [Nat.add_zero] at v0
     have HVC := hide (And.intro v0 (And.intro v1 (And.intro v2 (And.intro v3 (And.intro v4 (And.intro v5 (And.intro v6 v7)))))))
     clear hv
     go_wp2
     clear v0 v1 v2 v3 v4 v5 v6 v7
     go_loopw [12, 13, 14, 15, 16, 17, 18, 19, 20] (fun a b c d e f g h i wr => ∃ k : Nat, k ≤ 64 ∧ i = .int .i64 k ∧ a = .int .u32 (((bH bs v k).getD 0 0).toNat : Int) ∧ b = .int .u32 (((bH bs v k).getD 1 0).toNat : Int) ∧ c = .int .u32 (((bH bs v k).getD 2 0).toNat : Int) ∧ d = .int .u32 (((bH bs v k).getD 3 0).toNat : Int) ∧ e = .int .u32 (((bH bs v k).getD 4 0).toNat : Int) ∧ f = .int .u32 (((bH bs v k).getD 5 0).toNat : Int) ∧ g = .int .u32 (((bH bs v k).getD 6 0).toNat : Int) ∧ h = .int .u32 (((bH bs v k).getD 7 0).toNat : Int) ∧ Hid (Ext wp wr)) (fun _ _ _ _ _ _ _ _ i _ => 64 - (intOf i).toNat)
     case atStart => exact ⟨0, Nat.zero_le _, rfl, rfl, rfl, rfl, rfl, rfl, rfl, rfl, rfl, hide (Ext.refl _)⟩
     case round =>
      obtain ⟨k, hk, rfl, rfl, rfl, rfl, rfl, rfl, rfl, rfl, rfl, HE⟩ := hrel
      by_cases hlt : k < 64
      ·have cw : wr.cell? ⟨w.heap.size, k, none⟩ = some (.int .u32 (((sched bs).getD k 0).toNat : Int)) := by
        rw [((aA HS).1.ext (aA HE)).cell]
        exact iK (by rw [fC]; exact hlt)
       have ck := ((aA HK).ext ((aA HS).2.trans (aA HE))).wordAt (j := k) hlt
       have HN := hide (show bH bs v (k + 1) = uT (bH bs v k) (shaK.getD k 0) ((sched bs).getD k 0) from rfl)
       unfold uT at HN
       generalize (bH bs v k).getD 0 0 = x0 at *
       generalize (bH bs v k).getD 1 0 = x1 at *
       generalize (bH bs v k).getD 2 0 = x2 at *
       generalize (bH bs v k).getD 3 0 = x3 at *
       generalize (bH bs v k).getD 4 0 = x4 at *
       generalize (bH bs v k).getD 5 0 = x5 at *
       generalize (bH bs v k).getD 6 0 = x6 at *
       generalize (bH bs v k).getD 7 0 = x7 at *
       generalize (sched bs).getD k 0 = xw at *
       generalize shaK.getD k 0 = xk at *
       have d64 : decide ((k : Int) < 64) = true := decide_eq_true (by omega)
       have b64 : (k : Int) < 64 := by omega
       have t1 : (0 : Int) ≤ (k : Int) := by omega
       go_upto_region 23 with fail
       clear d64
       go_cut [21] (fun s wx => ∃ T : UInt32, s = .int .u32 (T.toNat : Int) ∧ Hid (T = x7 + (dM x4 6 ^^^ dM x4 11 ^^^ dM x4 25) + ((x4 &&& x5) ^^^ (~~~x4 &&& x6)) + xk + xw ∧ Ext wr wx))
       case first =>
        go_quiet ((first | (go_at_call 111; with_reducible exact Calls.quiet_of (rot_6 x4 _)) | (go_at_call 111; with_reducible exact Calls.quiet_of (rot_11 x4 _)) | (go_at_call 111; with_reducible exact Calls.quiet_of (rot_25 x4 _))))
        go_wp2_with fail
        go_meet
        exact ⟨_, int_eq (rt_val x7 x4 x5 x6 xk xw _ _ _), hide ⟨rfl, (Ext.refl wr).drewN _⟩⟩
       case rest =>
        obtain ⟨T, rfl, HT⟩ := hcut
        obtain ⟨wq, rfl⟩ : ∃ wq : World, wq = wc := ⟨_, rfl⟩
        clear cw ck
        go_wp2_with (first
         | (go_at_call 111; with_reducible refine (rot_2 x0 _).mono ?_; rintro e w' ⟨rfl, n2, rfl⟩)
         | (go_at_call 111; with_reducible refine (rot_13 x0 _).mono ?_; rintro e w' ⟨rfl, n13, rfl⟩)
         | (go_at_call 111; with_reducible refine (rot_22 x0 _).mono ?_; rintro e w' ⟨rfl, n22, rfl⟩))
        go_roundw
        case rel =>
         repeat apply Exists.intro
         refine ⟨?_, rfl⟩
         have a2 : ((x3.toNat : Int) + (T.toNat : Int)) % 4294967296 = ((x3 + T).toNat : Int) := add32 x3 T
         refine ⟨k + 1, by omega, by go_num, int_eq ?_, ?_, ?_, ?_, int_eq ?_, ?_, ?_, ?_, hide (((aA HE).trans (aA HT).2).drewN _)⟩
         ·rw [ru_val, aA HN, (aA HT).1]
          rfl
         all_goals rw [aA HN]
         ·rfl
         ·rfl
         ·rfl
         ·rw [a2, (aA HT).1]; rfl
         ·rfl
         ·rfl
         ·rfl
        case measure => simp [intOf]; omega
      ·obtain rfl : k = 64 := by omega
       clear hk hlt
       obtain ⟨wq, rfl⟩ : ∃ wq : World, wq = wr := ⟨_, rfl⟩
       obtain ⟨v0, v1, v2, v3, v4, v5, v6, v7⟩ := aA HVC
       have v0 := Ext.cellv (aA HE) v0
       have v1 := Ext.cellv (aA HE) v1
       have v2 := Ext.cellv (aA HE) v2
       have v3 := Ext.cellv (aA HE) v3
       have v4 := Ext.cellv (aA HE) v4
       have v5 := Ext.cellv (aA HE) v5
       have v6 := Ext.cellv (aA HE) v6
       have v7 := Ext.cellv (aA HE) v7
       have HR := hide (aUj (bH bs v 64) v (iU _ _ (aA HV).1 64) (aA HV).1)
       generalize (bH bs v 64).getD 0 0 = r0 at *
       generalize (bH bs v 64).getD 1 0 = r1 at *
       generalize (bH bs v 64).getD 2 0 = r2 at *
       generalize (bH bs v 64).getD 3 0 = r3 at *
       generalize (bH bs v 64).getD 4 0 = r4 at *
       generalize (bH bs v 64).getD 5 0 = r5 at *
       generalize (bH bs v 64).getD 6 0 = r6 at *
       generalize (bH bs v 64).getD 7 0 = r7 at *
       generalize v.getD 0 0 = y0 at *
       generalize v.getD 1 0 = y1 at *
       generalize v.getD 2 0 = y2 at *
       generalize v.getD 3 0 = y3 at *
       generalize v.getD 4 0 = y4 at *
       generalize v.getD 5 0 = y5 at *
       generalize v.getD 6 0 = y6 at *
       generalize v.getD 7 0 = y7 at *
       go_upto_region 33 with fail
       go_still_tail 40, (by kernel_rfl)
       clear v0 v1 v2 v3 v4 v5 v6 v7
       change wpList _ _ _ _ _ wq.drew
       go_wp2
       go_ret
       refine ⟨_, rfl, ?_, (((((aA HS).2.trans (aA HE)).drew).alloc _))⟩
       simp only [add32]
       have hz : (jF v bs).map w32 = [w32 (y0 + r0), w32 (y1 + r1), w32 (y2 + r2), w32 (y3 + r3), w32 (y4 + r4), w32 (y5 + r5), w32 (y6 + r6), w32 (y7 + r7)] := by
        unfold jF uS
        rw [aA HR]
        rfl
       rw [hz]
       exact (Reads.newM wq _ _ _ 8 8 _ rfl rfl (Nat.le_refl _) (by unfold maxLen; omega) rfl).ext ((Ext.refl _).drew)
attribute [local go_sem] Oper.semAt_some
theorem aVs (A : Option Addr) (n c : Nat) (w : World) :
  Calls Tryz.prog 132 #[.slice A n c, .int .i64 64] w fun e w' => e = .returned (.func (.func 136) #[] #[.pointer (some ⟨w.heap.size, 0, none⟩), .pointer (some ⟨w.heap.size + 1, 0, none⟩)]) ∧
   (w.alloc (.cells #[.slice A n c] 40)).alloc (.cells #[.int .i64 64] 3) = w' := by
 go_enter Tryz.func132, Tryz.ntmps132
 go_wp2
 go_ret
 exact ⟨rfl, rfl⟩
theorem aLw (m k : Nat) (h : k < m) : (List.finRange m).take (k + 1) = (List.finRange m).take k ++ [⟨k, h⟩] := by
 rw [jB _ k (by simpa using h)]
 simp
theorem aUk (m : Nat) : (List.finRange m).map Fin.val = List.range m := by
 apply List.ext_getElem
 ·simp
 ·intro i h1 h2; simp
theorem aKd (b o c m : Nat) (Bs Bn : Nat) (S : Nat → Prop) (w : World) (hm : 64 * m ≤ 1000000000) (hc : 64 * m ≤ c) (hs : ¬ S Bs) (hn : ¬ S Bn)
  (h1 : w.cell? ⟨Bs, 0, none⟩ = some (.slice (some ⟨b, o, none⟩) (64 * m) c)) (h2 : w.cell? ⟨Bn, 0, none⟩ = some (.int .i64 64)) :
  SeqStopsK Fence.wide 2 Tryz.prog 136 #[.pointer (some ⟨Bs, 0, none⟩), .pointer (some ⟨Bn, 0, none⟩)] (fun x : Fin m => #[.slice (some ⟨b, o + 64 * x.val, none⟩) 64 64]) (rQ S) (fun ys => ys = List.finRange m) (fun _ => True) m w := by
 intro l J Jx W hW hJ hJx hY h0
 have k1 := (hW.cell (p := ⟨Bs, 0, none⟩) (lt_of_cell h1)).trans h1
 have k2 := (hW.cell (p := ⟨Bn, 0, none⟩) (lt_of_cell h2)).trans h2
 clear h1 h2
 refine callsIn_wide.2 ?_
 go_enter Tryz.func136, Tryz.ntmps136
 go_wp2
 go_loopw [4] (fun i wr => ∃ k : Nat, k ≤ m ∧ i = .int .i64 ((64 * k : Nat) : Int) ∧ Hid (J ((List.finRange m).take k) wr) ∧ wr.cell? ⟨Bs, 0, none⟩ = some (.slice (some ⟨b, o, none⟩) (64 * m) c) ∧ wr.cell? ⟨Bn, 0, none⟩ = some (.int .i64 64)) (fun i _ => 64 * m - (intOf i).toNat)
 case atStart => exact ⟨0, Nat.zero_le _, rfl, hide h0, k1, k2⟩
 case round =>
  obtain ⟨k, hk, rfl, hj, g1, g2⟩ := hrel
  by_cases hlt : k < m
  ·have e1 : ¬ 64 * k = c := by omega
   have e2 : 64 * k < 64 * m := by omega
   have e3 : 64 ≤ 64 * m - 64 * k := by omega
   go_wp2
   go_quiet (fail)
   go_upto_region 4 with fail
   have hj' := hJ _ _ (wr.drewN nq) none (aA hj) ⟨rfl, rfl, rfl, Nat.le_refl _, fun _ _ _ => rfl⟩ (fun r e => by cases e)
   obtain ⟨fn, tmps, assign, body, hy, hR⟩ := hY ((List.finRange m).take k) ⟨k, hlt⟩ (wr.drewN nq) hj' (by simp; omega)
   dsimp only at hy
   refine (wpIn_wide (n := 2)).1 ?_
   gi_wp2
   clear hy
   refine hR.mono ?_
   rintro e W3 (⟨rfl, hJ3, hk3⟩ | ⟨rfl, hJx3⟩)
   ·have g1' := hk3 _ _ hs g1
    have g2' := hk3 _ _ hn g2
    have hJ4 := hide hJ3
    clear hJ3 hk3
    gi_wp2
    go_wp2
    go_roundw
    case rel => exact ⟨k + 1, by omega, by go_num, hide (by rw [aLw m k hlt]; exact aA hJ4), g1', g2'⟩
    case measure => simp [intOf]; omega
   ·gi_wp2
    go_wp2
    refine bodyPost_ret (results_none rfl _ _ _) rfl ?_
    exact ⟨⟨_, rfl⟩, .inr ⟨_, trivial, hJx3⟩⟩
  ·obtain rfl : k = m := by omega
   go_wp2
   go_end0
   exact ⟨⟨_, rfl⟩, .inl ⟨_, rfl, by have := aA hj; rwa [List.take_of_length_le (by simp)] at this⟩⟩
end Go.Proofs.YtihghljfmlbfhaaGreatDoor
namespace Go.Proofs.YtihghljfmlbfhaaGreatDoor
open Go.RowKit
theorem aHm (h : List UInt32) (bs : List UInt8) (v : Value) (w : World) (hM : ShaMem w) (hh : h.length = 8) (hb : bs.length = 64) (hr : Reads w 1 v 64 (bs.map u8v)) :
    Calls Tryz.prog 131 #[.agg (h.map w32).toArray, v] w fun e w' => e = .returned (.agg ((jF h bs).map w32).toArray) ∧ Ext w w' := by
  have HM := hide hM
  have HR := hide hr
  obtain ⟨b0, o0, c0, rfl, hc64, hcm, hb0, _⟩ := hr.sub 0 64 (by omega) (by omega)
  unfold maxLen at hcm
  clear hM hr
  have HH := hide hh
  have HB := hide hb
  clear hh hb
  generalize hcs : (h.map w32).toArray = hc
  have HC := hide hcs
  clear hcs
  go_enter Tryz.func131, Tryz.ntmps131
  go_wp2
  go_loopw [15] (fun i wr => ∃ k : Nat, k ≤ 64 ∧ i = .int .i64 k ∧ Hid (aMn w hc bs k wr)) (fun i _ => 64 - (intOf i).toNat)
  case atStart =>
    refine ⟨0, Nat.zero_le _, rfl, hide ⟨((Blk.new w _ hc).alloc _).alloc _, ⟨_, (Blk.new' _ _ _ (by simp)).alloc _, rfl⟩, ?_, (((Ext.refl w).alloc _).alloc _).alloc _⟩⟩
    have := Blk.new' ((w.alloc (Obj.cells hc 174)).alloc (Obj.cells #[Value.int IntKind.u32 0, Value.int IntKind.u32 0, Value.int IntKind.u32 0, Value.int IntKind.u32 0, Value.int IntKind.u32 0, Value.int IntKind.u32 0, Value.int IntKind.u32 0, Value.int IntKind.u32 0] 174)) 180 (dN 64 (bU bs 0)) (g := w.heap.size + 1 + 1) (by simp)
    rw [show dN 64 (bU bs 0) = Array.replicate 64 (Value.int .u32 0) from aFa 64] at this ⊢
    exact this
  case round =>
    obtain ⟨k, hk, rfl, HS⟩ := hrel
    by_cases hlt : k < 64
    · have hL := fC bs k
      obtain ⟨old, hold⟩ : ∃ old, wr.cell? ⟨w.heap.size + 1 + 1, k, none⟩ = some old := by
        rw [(aA HS).2.2.1.cell]
        exact ⟨_, Array.getElem?_eq_getElem (by rw [wM (by omega)]; exact hlt)⟩
      have hfz := (aA HS).2.2.1.frozen k
      by_cases h16 : k < 16
      · have hk4 : 4 * k + 4 ≤ 64 := by omega
        obtain ⟨b1, o1, c1, e, _, _, _, hsub⟩ := ((aA HR).ext (aA HS).2.2.2).sub (4 * k) 4 hk4 (by omega)
        cases e
        have HQ := hide hsub
        clear hsub
        have HL := hide (show ((bs.drop (4 * k)).take 4).length = 4 from by have := aA HB; simp; omega)
        go_wp2_with fail
        refine (load_any ((bs.drop (4 * k)).take 4) _ _ ?hl).mono ?_
        case hl =>
          rw [aA HL, List.map_take, List.map_drop]
          exact aA HQ
        rintro e w1 ⟨rfl, rfl⟩
        clear HQ
        generalize hx : nN ((bs.drop (4 * k)).take 4) = x
        have HX := hide hx
        clear hx
        go_wp2
        go_roundw
        case rel =>
          exact ⟨k + 1, by omega, by go_num, hide ((aA HS).step (Ext.refl _) hlt (by rw [if_pos h16, aA HX]))⟩
        case measure => simp [intOf]; omega
      · obtain ⟨j, rfl⟩ : ∃ j, k = j + 16 := ⟨k - 16, by omega⟩
        have cx : ∀ i, i < j + 16 → wr.cell? ⟨w.heap.size + 1 + 1, i, none⟩ = some (.int .u32 (((bU bs (j + 16)).getD i 0).toNat : Int)) := fun i hi => by
          rw [(aA HS).2.2.1.cell]
          exact iK (by omega)
        have HN := hide (show qQ (bU bs (j + 16)) = (bU bs (j + 16)).getD j 0 + ((dM ((bU bs (j + 16)).getD (j + 1) 0) 7 ^^^ dM ((bU bs (j + 16)).getD (j + 1) 0) 18) ^^^ ((bU bs (j + 16)).getD (j + 1) 0 >>> 3)) + (bU bs (j + 16)).getD (j + 9) 0 +
            ((dM ((bU bs (j + 16)).getD (j + 14) 0) 17 ^^^ dM ((bU bs (j + 16)).getD (j + 14) 0) 19) ^^^ ((bU bs (j + 16)).getD (j + 14) 0 >>> 10)) from by
          unfold qQ
          simp only [hL, show j + 16 - 15 = j + 1 from by omega, show j + 16 - 2 = j + 14 from by omega, show j + 16 - 16 = j from by omega, show j + 16 - 7 = j + 9 from by omega])
        have c0' := cx j (by omega)
        have c1 := cx (j + 1) (by omega)
        have c9 := cx (j + 9) (by omega)
        have c14 := cx (j + 14) (by omega)
        clear cx
        generalize (bU bs (j + 16)).getD j 0 = x0 at *
        generalize (bU bs (j + 16)).getD (j + 1) 0 = x1 at *
        generalize (bU bs (j + 16)).getD (j + 9) 0 = x9 at *
        generalize (bU bs (j + 16)).getD (j + 14) 0 = x14 at *
        have d16 : decide ((j : Int) + 16 < 16) = false := decide_eq_false (by omega)
        have d64 : decide ((j : Int) + 16 < 64) = true := decide_eq_true (by omega)
        have hj : j < 48 := by omega
        clear h16 hk hlt
        go_upto_region 7 with fail
        have i15 : (((j + 16 : Nat) : Int) - 15) = ((j + 1 : Nat) : Int) := by omega
        have i2 : (((j + 16 : Nat) : Int) - 2) = ((j + 14 : Nat) : Int) := by omega
        go_quiet (fail)
        go_upto_region 8 with fail
        have i16 : IntKind.i64.wrap (((j + 16 : Nat) : Int) - 16) = (j : Int) := (IntWalk.i64_in _ (by omega)).trans (by omega)
        have i7 : IntKind.i64.wrap (((j + 16 : Nat) : Int) - 7) = ((j + 9 : Nat) : Int) := (IntWalk.i64_in _ (by omega)).trans (by omega)
        have i7' : IntKind.i64.wrap ((j : Int) + 16 - 7) = (j : Int) + 9 := (IntWalk.i64_in _ (by omega)).trans (by omega)
        have i9 : IntKind.i64.wrap ((j : Int) + 9) = (j : Int) + 9 := IntWalk.i64_in _ (by omega)
        have i0 : IntKind.i64.wrap (j : Int) = (j : Int) := IntWalk.i64_in _ (by omega)
        have b0 : (0 : Int) ≤ (j : Int) + 9 ∧ (j : Int) + 9 < 64 ∧ (j : Int) < 64 ∧ (j : Int) + 16 < 64 ∧ (0 : Int) ≤ (j : Int) + 16 := by omega
        obtain ⟨b1, b2, b3, b4, b5⟩ := b0
        have t9 : ((j : Int) + 9).toNat = j + 9 := by omega
        have t16 : ((j : Int) + 16).toNat = j + 16 := by omega
        have HO := hide (And.intro c1 c14)
        clear c1 c14 i15 i2 d16 d64
        go_region_held3 (fun w' => w'.cell? ⟨w.heap.size + 1 + 1, j, none⟩ = some (.int .u32 (x0.toNat : Int)) ∧ w'.cell? ⟨w.heap.size + 1 + 1, j + 9, none⟩ = some (.int .u32 (x9.toNat : Int)) ∧ w'.cell? ⟨w.heap.size + 1 + 1, j + 16, none⟩ = some (held w' ⟨w.heap.size + 1 + 1, j + 16, none⟩) ∧ w'.frozen? ⟨w.heap.size + 1 + 1, j + 16, none⟩ = false) (first | exact ⟨c0', c9, aAl hold, hfz⟩ | exact keepS _ (by assumption) | exact zZ _ (by omega) (by omega) (by assumption) | assumption)
          (first
            | (go_at_call 135; refine (aRi _ _ _ ?_ ?_).mono ?_; (first | (refine fE _ _ _ ?_ ?_; (focus (simp; done)); (focus rfl)) | (refine dS _ _ (fE _ _ _ ?_ ?_); (focus (simp; done)); (focus rfl))); (first | (refine fE _ _ _ ?_ ?_; (focus (simp; done)); (focus rfl)) | (refine dS _ _ (fE _ _ _ ?_ ?_); (focus (simp; done)); (focus rfl))); rintro e w' ⟨rfl, rfl⟩)
            | (go_at_call 135; refine (aNs _ _ _ ?_ ?_).mono ?_; (first | (refine fE _ _ _ ?_ ?_; (focus (simp; done)); (focus rfl)) | (refine dS _ _ (fE _ _ _ ?_ ?_); (focus (simp; done)); (focus rfl))); (first | (refine fE _ _ _ ?_ ?_; (focus (simp; done)); (focus rfl)) | (refine dS _ _ (fE _ _ _ ?_ ?_); (focus (simp; done)); (focus rfl))); rintro e w' ⟨rfl, rfl⟩))
        all_goals
          go_wp2
          go_roundw
          case rel =>
            rw [aQw]
            exact ⟨j + 16 + 1, by omega, by go_num, hide ((aA HS).step ((((Ext.refl wr).drewN _).alloc _).alloc _) (by omega) (by rw [if_neg (by omega)]; exact aA HN))⟩
          case measure => simp [intOf]; omega
    · obtain rfl : k = 64 := by omega
      clear hk hlt
      obtain ⟨wo, rfl⟩ : ∃ wo : World, wo = wr := ⟨_, rfl⟩
      obtain ⟨kc, hkc⟩ : ∃ kc, (shaK.map w32).toArray = kc := ⟨_, rfl⟩
      have HKC := hide hkc
      clear hkc
      have H8 := hide (show hc.size = 8 ∧ hc.all (·.oneCell') = true from by rw [← aA HC]; exact ⟨by simpa using aA HH, uJ h⟩)
      have HKM := hide ((aA HM).ext (aA HS).2.2.2).k
      go_wp2_with (first
        | (refine aZ (ty := 174) (t := 174) (x := .tmp 2) rfl rfl gZ rfl (aA HS).1 (aA H8).1 ?_)
        | (refine aH (ty := 174) (t := 174) (x := .tmp 9) (y := .tmp 64) rfl rfl gZ rfl rfl (Blk.new _ _ _) rfl (aA H8).1 (aA H8).2 ?_
           intro w2 hb2 hc2 hz2
           have HQ := hide (And.intro hb2 hc2)
           have hz3 : wo.heap.size < w2.heap.size := by rw [hz2]; simp
           clear hb2 hc2 hz2)
        | (refine mW (ty := 180) (x := .global 1) rfl rfl aPz rfl (arr := kc) (cs := shaK.map w32) ?_ rfl (aA HKC) ?_
           · exact lY (lY (aA HKM) ((Ext.refl wo).alloc _) (fun h => h)) (aA HQ).2 (fun e => by have := lt_of_cell ((aA HKM) 0 _ rfl); simp at e this; omega)))
      have HE2 := hide (show Ext wo w2 from ((Ext.refl wo).alloc (.cells #[Value.int IntKind.u32 0, Value.int IntKind.u32 0, Value.int IntKind.u32 0, Value.int IntKind.u32 0, Value.int IntKind.u32 0, Value.int IntKind.u32 0, Value.int IntKind.u32 0, Value.int IntKind.u32 0] 174)).trans' (aA HQ).2 (fun _ _ h => h) (fun i hi e => by omega))
      have HI := hide (show aWp w hc h bs wo.heap.size 0 w2 from by
        obtain ⟨q1, ⟨o8, q5, q6⟩, q3, q4⟩ := aA HS
        refine ⟨q1.ext (aA HE2), ⟨o8, q5.ext (aA HE2), q6⟩, q3.ext (aA HE2), ?_, q4.trans (aA HE2), q3.lt⟩
        rw [bH, jH (aA HH), aA HC]
        exact (aA HQ).1)
      clear HQ HE2 HKM hz3
      go_loopw [66] (fun i wr => ∃ k : Nat, k ≤ 64 ∧ i = .int .i64 k ∧ Hid (aWp w hc h bs wo.heap.size k wr)) (fun i _ => 64 - (intOf i).toNat)
      case atStart => exact ⟨0, Nat.zero_le _, rfl, HI⟩
      case round =>
        clear HI
        obtain ⟨k, hk, rfl, HI⟩ := hrel
        by_cases hlt : k < 64
        · have cv : ∀ i, i < 8 → wr.cell? ⟨wo.heap.size, i, none⟩ = some (.int .u32 (((bH bs h k).getD i 0).toNat : Int)) := fun i hi => by
            rw [(aA HI).2.2.2.1.cell]
            exact iK (by rw [iU _ _ (aA HH)]; exact hi)
          have cw : wr.cell? ⟨w.heap.size + 1 + 1, k, none⟩ = some (.int .u32 (((sched bs).getD k 0).toNat : Int)) := by
            rw [(aA HI).2.2.1.cell]
            exact iK (by unfold sched; rw [fC]; exact hlt)
          have hidx : ∀ W, (Instr.index 180 (.agg kc) (.int .i64 (k : Int))).run Tryz.prog W = .ok (.int .u32 ((shaK.getD k 0).toNat : Int)) W := fun W =>
            uU (inf := _) Tryz.underlying180 (by kernel_rfl) rfl (by kernel_rfl) hlt (by rw [← aA HKC]; exact wordsK hlt) W
          have HN := hide (show bH bs h (k + 1) = uT (bH bs h k) (shaK.getD k 0) ((sched bs).getD k 0) from rfl)
          have v0 := cv 0 (by omega)
          have v1 := cv 1 (by omega)
          have v2 := cv 2 (by omega)
          have v3 := cv 3 (by omega)
          have v4 := cv 4 (by omega)
          have v5 := cv 5 (by omega)
          have v6 := cv 6 (by omega)
          have v7 := cv 7 (by omega)
          clear cv
          unfold uT at HN
          generalize (bH bs h k).getD 0 0 = x0 at *
          generalize (bH bs h k).getD 1 0 = x1 at *
          generalize (bH bs h k).getD 2 0 = x2 at *
          generalize (bH bs h k).getD 3 0 = x3 at *
          generalize (bH bs h k).getD 4 0 = x4 at *
          generalize (bH bs h k).getD 5 0 = x5 at *
          generalize (bH bs h k).getD 6 0 = x6 at *
          generalize (bH bs h k).getD 7 0 = x7 at *
          generalize (sched bs).getD k 0 = xw at *
          generalize shaK.getD k 0 = xk at *
          have d64 : decide ((k : Int) < 64) = true := decide_eq_true (by omega)
          have b64 : (k : Int) < 64 := by omega
          have HO := hide (And.intro v0 (And.intro v1 (And.intro v2 (And.intro v3 (And.intro v4 (And.intro v5 v6))))))
          clear v0 v1 v2 v3
          go_upto_region 14 with fail
          have t1 : (0 : Int) ≤ (k : Int) := by omega
          clear hidx d64
          go_cut [12] (fun s12 wx => ∃ T : UInt32, s12 = .int .u32 (T.toNat : Int) ∧ Hid (T = x7 + (dM x4 6 ^^^ dM x4 11 ^^^ dM x4 25) + ((x4 &&& x5) ^^^ (~~~x4 &&& x6)) + xk + xw ∧ Ext wr wx))
          case first =>
            go_region_held3 (fun w' => w'.cell? ⟨wo.heap.size, 7, none⟩ = some (.int .u32 (x7.toNat : Int)) ∧ w'.cell? ⟨wo.heap.size, 4, none⟩ = some (.int .u32 (x4.toNat : Int)) ∧ w'.cell? ⟨wo.heap.size, 5, none⟩ = some (.int .u32 (x5.toNat : Int)) ∧ w'.cell? ⟨wo.heap.size, 6, none⟩ = some (.int .u32 (x6.toNat : Int)) ∧ w'.cell? ⟨w.heap.size + 1 + 1, k, none⟩ = some (.int .u32 (xw.toNat : Int))) (first | exact ⟨v7, v4, v5, v6, cw⟩ | exact keep5 _ (by assumption) | assumption)
              (first
                | (go_at_call 135; refine (aFy _ _ _ ?_ ?_ ?_).mono ?_; (refine fE _ _ _ ?_ ?_; (focus (simp; done)); (focus rfl)); (refine fE _ _ _ ?_ ?_; (focus (simp; done)); (focus rfl)); (refine fE _ _ _ ?_ ?_; (focus (simp; done)); (focus rfl)); rintro e w' ⟨rfl, rfl⟩))
            all_goals (go_wp2_with fail; go_meet)
            all_goals
              rw [t_val]
              exact ⟨_, rfl, hide ⟨rfl, ((Ext.refl wr).alloc _).drew⟩⟩
          case rest =>
            obtain ⟨T, rfl, HT⟩ := hcut
            obtain ⟨wp, rfl⟩ : ∃ wp : World, wp = wc := ⟨_, rfl⟩
            clear v7 v4 v5 v6 cw
            have HP := hide (And.intro (aA HI) (aA HT).2)
            have v0 := Ext.cellv (aA HT).2 (aA HO).1
            have v1 := Ext.cellv (aA HT).2 (aA HO).2.1
            have v2 := Ext.cellv (aA HT).2 (aA HO).2.2.1
            go_upto_region 15 with fail
            go_cut [13] (fun s13 wx => ∃ U : UInt32, s13 = .int .u32 (U.toNat : Int) ∧ Hid (U = (dM x0 2 ^^^ dM x0 13 ^^^ dM x0 22) + (((x0 &&& x1) ^^^ (x0 &&& x2)) ^^^ (x1 &&& x2)) ∧ Ext wp wx))
            case first =>
              go_region_held3 (fun w' => w'.cell? ⟨wo.heap.size, 0, none⟩ = some (.int .u32 (x0.toNat : Int)) ∧ w'.cell? ⟨wo.heap.size, 1, none⟩ = some (.int .u32 (x1.toNat : Int)) ∧ w'.cell? ⟨wo.heap.size, 2, none⟩ = some (.int .u32 (x2.toNat : Int))) (first | exact ⟨v0, v1, v2⟩ | exact keepc3 _ (by assumption) | assumption)
                (first
                  | (go_at_call 135; refine (aFz _ _ _ ?_ ?_ ?_).mono ?_; (refine fE _ _ _ ?_ ?_; (focus (simp; done)); (focus rfl)); (refine fE _ _ _ ?_ ?_; (focus (simp; done)); (focus rfl)); (refine fE _ _ _ ?_ ?_; (focus (simp; done)); (focus rfl)); rintro e w' ⟨rfl, rfl⟩))
              all_goals (go_wp2_with fail; go_meet)
              all_goals
                rw [u_val]
                exact ⟨_, rfl, hide ⟨rfl, ((Ext.refl wp).alloc _).drew⟩⟩
            case rest =>
              obtain ⟨U, rfl, HU⟩ := hcut
              have HX := hide ((aA HT).2.trans (aA HU).2)
              clear v0 v1 v2
              have v0 := Ext.cellv (aA HX) (aA HO).1
              have v1 := Ext.cellv (aA HX) (aA HO).2.1
              have v2 := Ext.cellv (aA HX) (aA HO).2.2.1
              have v3 := Ext.cellv (aA HX) (aA HO).2.2.2.1
              have v4 := Ext.cellv (aA HX) (aA HO).2.2.2.2.1
              have v5 := Ext.cellv (aA HX) (aA HO).2.2.2.2.2.1
              have v6 := Ext.cellv (aA HX) (aA HO).2.2.2.2.2.2
              have a1 : ((T.toNat : Int) + (U.toNat : Int)) % 4294967296 = ((T + U).toNat : Int) := add32 T U
              have a2 : ((x3.toNat : Int) + (T.toNat : Int)) % 4294967296 = ((x3 + T).toNat : Int) := add32 x3 T
              have HA := hide (And.intro a1 a2)
              clear a1 a2
              have HW := hide (wM (n := 8) (show (bH bs h k).length ≤ 8 from by rw [iU _ _ (aA HH)]; omega))
              go_wp2_with (refine aH (ty := 174) (t := 174) (x := .tmp 9) (y := .tmp 137) rfl rfl gZ rfl rfl ((aA HI).2.2.2.1.ext (aA HX)) (aA HW) ?_ ?_ ?_; (focus rfl); (focus (rw [← Array.all_toList]; rfl)); intro w5 hb5 hc5 hz5; have HQ := hide (And.intro hb5 (And.intro hc5 hz5)); clear hb5 hc5 hz5)
              go_roundw
              case rel =>
                refine ⟨k + 1, by omega, by go_num, hide ?_⟩
                obtain ⟨q1, ⟨o8, q5, q6⟩, q3, q4, q7, q8⟩ := aA HI
                obtain ⟨hb5, hc5, hz5⟩ := aA HQ
                have n1 : ¬ w.heap.size = wo.heap.size := by omega
                have n2 : ¬ w.heap.size + 1 = wo.heap.size := by omega
                have n3 : ¬ w.heap.size + 1 + 1 = wo.heap.size := by omega
                refine ⟨(q1.ext (aA HX)).chg hc5 n1, ⟨o8, (q5.ext (aA HX)).chg hc5 n2, q6⟩, (q3.ext (aA HX)).chg hc5 n3, ?_, (q7.trans (aA HX)).trans' hc5 (fun _ _ h => h) (fun i hi e => by omega), q8⟩
                rw [(aA HA).1, (aA HA).2] at hb5
                rw [aA HN]
                dsimp only
                rw [← (aA HT).1, ← (aA HU).1]
                exact hb5
              case measure => simp [intOf]; omega
        · obtain rfl : k = 64 := by omega
          clear hk hlt
          obtain ⟨wq, rfl⟩ : ∃ wq : World, wq = wr := ⟨_, rfl⟩
          go_wp2
          have HR0 := hide (iU bs h (aA HH) 64)
          go_loopw [139] (fun i wr => ∃ k : Nat, k ≤ 8 ∧ i = .int .i64 k ∧ Hid (nP w hc h (bH bs h 64) wo.heap.size k wr)) (fun i _ => 8 - (intOf i).toNat)
          case atStart => exact ⟨0, Nat.zero_le _, rfl, hide (nP.start (aA HI))⟩
          case round =>
            clear HI
            obtain ⟨k, hk, rfl, HI⟩ := hrel
            by_cases hlt : k < 8
            · have c1 := (aA HI).new (aA HR0) (aA HH) hlt
              have c2 := (aA HI).old (aA HC) (aA HH) hlt
              have f1 := (aA HI).2.2.1.frozen k
              have HST := hide (fun wr' (hE : Ext wr wr') => (aA HI).step hE (aA HR0) (aA HH) hlt)
              generalize (bH bs h 64).getD k 0 = xr at *
              generalize h.getD k 0 = xh at *
              have d8 : decide ((k : Int) < 8) = true := decide_eq_true (by omega)
              have b8 : (k : Int) < 8 := by omega
              have HA := hide (add32 xr xh)
              go_upto_region 21 with fail
              go_region
              all_goals
                go_wp2
                go_roundw
                case rel =>
                  rw [aA HA]
                  exact ⟨k + 1, by omega, by go_num, hide (by first | exact (aA HST _ (Ext.refl _)).drew | exact aA HST _ ((Ext.refl _).drew))⟩
                case measure => simp [intOf]; omega
            · obtain rfl : k = 8 := by omega
              clear hk hlt
              obtain ⟨q1, ⟨o8, q5, q6⟩, q3, q4, q7⟩ := aA HI
              have HQ := hide (And.intro q5 (And.intro q6 (And.intro q3 q4)))
              clear q1 q5 q6 q3 q4
              have HZ := hide (show dN 8 (sO (bH bs h 64) h 8) = ((jF h bs).map w32).toArray from by
                rw [aUl (aA HR0) (aA HH)]
                exact jH (by simp; rw [aA HR0, aA HH]; rfl))
              have HW := hide (show (dN 8 (sO (bH bs h 64) h 8)).size = 8 ∧ (dN 8 (sO (bH bs h 64) h 8)).all (·.oneCell') = true from by
                rw [aA HZ]
                exact ⟨by simp [jF]; rw [show (uS bs h).length = 8 from aA HR0, aA HH]; rfl, uJ _⟩)
              generalize dN 8 (sO (bH bs h 64) h 8) = res at *
              go_wp2_with (first
                | (refine aZ (ty := 174) (t := 174) (x := .tmp 9) rfl rfl gZ rfl (aA HQ).2.2.1 (aA HW).1 ?_)
                | (refine aH (ty := 174) (t := 174) (x := .tmp 4) (y := .tmp 151) rfl rfl gZ rfl rfl (aA HQ).1 (aA HQ).2.1 (aA HW).1 (aA HW).2 ?_
                   intro w9 hb9 hc9 hz9
                   have HV := hide (And.intro hb9 hc9)
                   clear hb9 hc9 hz9))
              refine bodyPost_ret (v := .agg res) (aX gZ rfl (aA HV).1 (aA HW).1 rfl) rfl ⟨by rw [aA HZ], ?_⟩
              exact (aA HQ).2.2.2.trans' (aA HV).2 (fun _ _ h => h) (fun i hi e => by omega)
end Go.Proofs.YtihghljfmlbfhaaGreatDoor
