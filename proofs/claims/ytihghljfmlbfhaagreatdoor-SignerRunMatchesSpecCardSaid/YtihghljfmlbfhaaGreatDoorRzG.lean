/-
  Several texts in one file: each has its own heading below.
-/
import Derived.Test.YtihghljfmlbfhaaGreatDoorRzF
import Derived.Test.YtihghljfmlbfhaaGreatDoorRzE
import Derived.WalkMore
set_option maxRecDepth 100000
set_option maxHeartbeats 4000000
namespace Go.Proofs.YtihghljfmlbfhaaGreatDoor
open Go.RowKit
structure HwS where
 b : List (List Int)
 f : Fl
 r : List UInt8
structure Flt where
 cut : Bool
 bytes : Int
 noise : Bool
def flt0 : Flt := ⟨false, 0, false⟩
def iJ : Res := ⟨0, bF⟩
def exB (b : List (List Int)) (bank cell : Int) : Bool := (decide (bank ≥ 0) && decide (bank < (b.length : Int))) && decide (cell ≥ 0) && decide (cell < ((b.getD bank.toNat []).length : Int))
def dU (b : List (List Int)) (bank cell : Int) : Int := (b.getD bank.toNat []).getD cell.toNat 0
def pulB (b : List (List Int)) (bank cell : Int) (cut : Bool) : List (List Int) := b.set bank.toNat ((b.getD bank.toNat []).set cell.toNat (dK (dU b bank cell) cut))
def cutN (t : Flt) : Int := if t.cut then min (max t.bytes 0) 256 else -1
def dF (h : HwS) (a : Acc) (t : Flt) : HwS × Res × Int :=
 if a.kind = 1 then
  if a.bytes = bF then
   if exB h.b a.bank a.cell then (h, if t.cut then iJ else ⟨fG (dU h.b a.bank a.cell) t.noise, bF⟩, 0) else (h, iJ, 1)
  else (h, iJ, 1)
 else if a.kind = 2 then
  if a.bytes = bF then
   if exB h.b a.bank a.cell then ({ h with b := pulB h.b a.bank a.cell t.cut }, iJ, 0) else (h, iJ, 1)
  else (h, iJ, 1)
 else if a.kind = 3 then
  if a.bytes = bF ∧ a.bank = 0 then
   if 0 ≤ a.cell ∧ a.cell < h.f.length then (h, if t.cut then iJ else ⟨0, strOf (sec h.f a.cell)⟩, 0) else (h, iJ, 13)
  else (h, iJ, 1)
 else if a.kind = 4 then
  if a.bank = 0 then
   if 0 ≤ a.cell ∧ a.cell < h.f.length then
    if a.bytes.size = 256 then ({ h with f := aCe h.f a.cell a.bytes (cutN t) }, iJ, 0) else (h, iJ, 1)
   else (h, iJ, 13)
  else (h, iJ, 1)
 else (h, iJ, 1)
def bV (F : List Flt) (i : Nat) : Flt := F.getD i flt0
def gV {α : Type} (F : List Flt) : Prg α → HwS → Nat → Option α × HwS × Nat
 | .ret a, h, i => (some a, h, i)
 | .ask c k, h, i => if (bV F i).cut = true then (none, (dF h c (bV F i)).1, i + 1) else gV F (k (dF h c (bV F i)).2.1) (dF h c (bV F i)).1 (i + 1)
def stL (F : List Flt) (h : HwS) : List Acc → Nat → HwS
 | [], _ => h
 | c :: l, i => stL F (dF h c (bV F i)).1 l (i + 1)
theorem aQp (F : List Flt) : ∀ (l m : List Acc) (h : HwS) (i : Nat), stL F h (l ++ m) i = stL F (stL F h l i) m (i + l.length)
 | [], m, h, i => rfl
 | c :: l, m, h, i => by
  rw [List.cons_append, stL, stL, aQp F l m, List.length_cons, show i + 1 + l.length = i + (l.length + 1) from by omega]
theorem aKu (F : List Flt) (l : List Acc) (c : Acc) (h : HwS) : stL F h (l ++ [c]) 0 = (dF (stL F h l 0) c (bV F l.length)).1 := by
 rw [aQp, Nat.zero_add]
 rfl
structure HwOk (h : HwS) : Prop where
 nb : h.b.length ≤ 1000
 nc : ∀ l ∈ h.b, l.length ≤ 100000
 val : ∀ l ∈ h.b, ∀ x ∈ l, 0 ≤ x ∧ x ≤ 3
 nf : h.f.length ≤ 1000000
 sz : ∀ x ∈ h.f, x.size ≤ 1000000
 rt : h.r.length = 16
theorem aOc {x : Int} (h : 0 ≤ x ∧ x ≤ 3) (cut : Bool) : 0 ≤ dK x cut ∧ dK x cut ≤ 3 := by
 unfold dK
 split
 ·split <;> omega
 ·exact h
theorem aJe {b : List (List Int)} {bank cell : Int} (hx : exB b bank cell = true) (cut : Bool) (h1 : ∀ l ∈ b, l.length ≤ 100000) (h2 : ∀ l ∈ b, ∀ x ∈ l, 0 ≤ x ∧ x ≤ 3) : (pulB b bank cell cut).length = b.length ∧ (∀ l ∈ pulB b bank cell cut, l.length ≤ 100000) ∧ ∀ l ∈ pulB b bank cell cut, ∀ x ∈ l, 0 ≤ x ∧ x ≤ 3 := by
 have he : (0 ≤ bank ∧ bank < (b.length : Int)) ∧ 0 ≤ cell ∧ cell < ((b.getD bank.toNat []).length : Int) := by
  unfold exB at hx
  simp only [Bool.and_eq_true, decide_eq_true_eq] at hx
  exact ⟨⟨hx.1.1.1, hx.1.1.2⟩, hx.1.2, hx.2⟩
 have hbk : b.getD bank.toNat [] ∈ b := by
  rw [zG, zH (by omega)]
  exact List.getElem_mem _
 have hcl : dU b bank cell ∈ b.getD bank.toNat [] := by
  unfold dU
  generalize b.getD bank.toNat [] = l at he
  rw [zG, zH (by omega)]
  exact List.getElem_mem _
 unfold pulB
 refine ⟨List.length_set .., fun l hl => ?_, fun l hl x hx => ?_⟩
 ·rcases List.mem_or_eq_of_mem_set hl with hl | rfl
  ·exact h1 l hl
  ·rw [List.length_set]; exact h1 _ hbk
 ·rcases List.mem_or_eq_of_mem_set hl with hl | rfl
  ·exact h2 l hl x hx
  ·rcases List.mem_or_eq_of_mem_set hx with hx | rfl
   ·exact h2 _ hbk x hx
   ·exact aOc (h2 _ hbk _ hcl) cut
theorem aCd {f : Fl} {s : Int} {b : ByteArray} {cut : Int} (h1 : f.length ≤ 1000000) (h2 : ∀ x ∈ f, x.size ≤ 1000000) : (aCe f s b cut).length ≤ 1000000 ∧ ∀ x ∈ aCe f s b cut, x.size ≤ 1000000 := by
 unfold aCe
 split
 ·rename_i hc
  refine ⟨by rw [List.length_set]; exact h1, fun x hx => ?_⟩
  rcases List.mem_or_eq_of_mem_set hx with hx | rfl
  ·exact h2 x hx
  ·rw [rU]
   have hs : (sec f s).length ≤ 1000000 := by
    unfold sec
    rw [if_pos ⟨hc.1, hc.2.1⟩, Array.length_toList]
    rw [zG, zH (by omega)]
    exact h2 _ (List.getElem_mem _)
   have hb : b.data.toList.length = 256 := by rw [Array.length_toList]; exact hc.2.2
   unfold torn
   split
   ·omega
   ·rw [List.length_append, List.length_take, List.length_drop]; omega
 ·exact ⟨h1, h2⟩
theorem aMf {h : HwS} (a : Acc) (t : Flt) (k : HwOk h) : HwOk (dF h a t).1 := by
 unfold dF
 repeat' split
 all_goals first
  | exact k
  | (rename_i hx; exact ⟨by rw [(aJe hx t.cut k.nc k.val).1]; exact k.nb, (aJe hx t.cut k.nc k.val).2.1, (aJe hx t.cut k.nc k.val).2.2, k.nf, k.sz, k.rt⟩)
  | exact ⟨k.nb, k.nc, k.val, (aCd k.nf k.sz).1, (aCd k.nf k.sz).2, k.rt⟩
def sQ (c : Acc) : Prop := (c.kind = 1 ∨ c.kind = 2) ∧ c.bank = 2 ∧ 0 ≤ c.cell ∧ c.cell < 48 ∧ c.bytes = bF
instance (c : Acc) : Decidable (sQ c) := by unfold sQ; infer_instance
structure Dim (h : HwS) : Prop where
 ok : HwOk h
 n : 2 < h.b.length
 l : (h.b.getD 2 []).length = 48
theorem Dim.ex {h : HwS} (d : Dim h) {c : Acc} (g : sQ c) : exB h.b 2 c.cell = true := by
 obtain ⟨_, _, g1, g2, _⟩ := g
 have h1 := d.n
 have h2 := d.l
 unfold exB
 rw [show (2 : Int).toNat = 2 from rfl, h2]
 simp only [Bool.and_eq_true, decide_eq_true_eq]
 omega
theorem Dim.step {h : HwS} (d : Dim h) {c : Acc} (g : sQ c) (t : Flt) : Dim (dF h c t).1 := by
 have hx := d.ex g
 have hok := aMf c t d.ok
 obtain ⟨g0, g1, g2, g3, g4⟩ := g
 have h1 := d.n
 have h2 := d.l
 rcases g0 with g0 | g0
 ·have e : (dF h c t).1 = h := by
   unfold dF
   rw [if_pos g0, if_pos g4, g1, if_pos hx]
  rw [e]
  exact d
 ·have e : (dF h c t).1 = { h with b := pulB h.b 2 c.cell t.cut } := by
   unfold dF
   rw [if_neg (by omega), if_pos g0, if_pos g4, g1, if_pos hx]
  rw [e] at hok ⊢
  refine ⟨hok, by show 2 < (pulB _ _ _ _).length; unfold pulB; rw [List.length_set]; exact h1, ?_⟩
  show ((pulB h.b 2 c.cell t.cut).getD 2 []).length = 48
  unfold pulB
  rw [show (2 : Int).toNat = 2 from rfl, zG, List.getElem?_set_self h1, Option.getD_some, List.length_set]
  exact h2
theorem aQo {F : List Flt} : ∀ (l : List Acc) (i : Nat) {h : HwS}, Dim h → (∀ c ∈ l, sQ c) → Dim (stL F h l i)
 | [], _, _, d, _ => d
 | c :: l, i, _, d, g => aQo l (i + 1) (d.step (g c List.mem_cons_self) _) (fun x hx => g x (List.mem_cons_of_mem _ hx))
namespace Pv
def mV (F : List Flt) (h : HwS) (l : List Acc) : Option Res := match l.getLast? with
 | none => some iJ
 | some c => if (bV F (l.length - 1)).cut = true ∨ ¬ sQ c ∨ 1000000 < l.length - 1 then none else some (dF (stL F h l.dropLast 0) c (bV F (l.length - 1))).2.1
theorem aBz (F : List Flt) (h : HwS) (l : List Acc) (c : Acc) : mV F h (l ++ [c]) = if (bV F l.length).cut = true ∨ ¬ sQ c ∨ 1000000 < l.length then none else some (dF (stL F h l 0) c (bV F l.length)).2.1 := by
 unfold mV
 rw [List.getLast?_append, List.dropLast_concat, List.length_append, List.length_singleton, Nat.add_sub_cancel]
 rfl
def NoCut (F : List Flt) (n : Nat) : Prop := ∀ k, k < n → (bV F k).cut = false
theorem go_live {α : Type} (F : List Flt) (h0 : HwS) (p : Prg α) : Prg.In 48 p → ∀ (n : Nat), p.Within n → ∀ l : List Acc, l.length + n ≤ 1000000 →
  (NoCut F (go (mV F h0) p l).2.length → gV F p (stL F h0 l 0) l.length = (some (go (mV F h0) p l).1, stL F h0 (go (mV F h0) p l).2 0, (go (mV F h0) p l).2.length)) ∧
  ∀ l' c, l <+: l' → l' ++ [c] <+: (go (mV F h0) p l).2 → NoCut F l'.length → (bV F l'.length).cut = true → gV F p (stL F h0 l 0) l.length = (none, stL F h0 (l' ++ [c]) 0, l'.length + 1) := by
 induction p with
 | ret a =>
  intro _ n _ l _
  refine ⟨fun _ => rfl, fun l' c h1 h2 _ _ => ?_⟩
  rw [go_ret] at h2
  have e1 := h1.length_le
  have e2 : (l' ++ [c]).length ≤ l.length := h2.length_le
  rw [List.length_append, List.length_singleton] at e2
  exfalso
  omega
 | ask a k ih =>
  intro hIn n hW l hln
  obtain ⟨n, rfl⟩ : ∃ m, n = m + 1 := by
   cases n with
   | zero => exact hW.elim
   | succ m => exact ⟨m, rfl⟩
  have hgd : sQ a := ⟨hIn.1, hIn.2.1, hIn.2.2.1, hIn.2.2.2.1, hIn.2.2.2.2.1⟩
  rw [aLs]
  have hs := aKu F l a h0
  have hO := aBz F h0 l a
  have hlen : (l ++ [a]).length = l.length + 1 := by rw [List.length_append, List.length_singleton]
  have hpre := aLr (mV F h0) (k (ans (mV F h0) (l ++ [a]))) (l ++ [a])
  obtain ⟨i1, i2⟩ := ih (ans (mV F h0) (l ++ [a])) (hIn.2.2.2.2.2 _) n (hW _) (l ++ [a]) (by rw [List.length_append, List.length_singleton]; omega)
  by_cases hc : (bV F l.length).cut = true
  ·have hex : gV F (.ask a k) (stL F h0 l 0) l.length = (none, stL F h0 (l ++ [a]) 0, l.length + 1) := by
    rw [gV, if_pos hc, hs]
   refine ⟨fun hn => ?_, fun l' c h1 h2 hn hc2 => ?_⟩
   ·have := hn l.length (by have := hpre.length_le; omega)
    rw [this] at hc; cases hc
   ·have e1 := h1.length_le
    have hll : l'.length = l.length := by
     rcases Nat.lt_or_ge l.length l'.length with h | h
     ·have := hn _ h
      rw [this] at hc; cases hc
     ·omega
    obtain ⟨t, ht⟩ := h1
    have ht0 : t = [] := by
     have := congrArg List.length ht
     rw [List.length_append] at this
     exact List.eq_nil_of_length_eq_zero (by omega)
    subst ht0
    rw [List.append_nil] at ht
    subst ht
    have he : l ++ [c] = l ++ [a] := by
     obtain ⟨u, hu⟩ := hpre
     obtain ⟨v, hv⟩ := h2
     rw [← hu, List.append_assoc, List.append_assoc] at hv
     have h6 := List.append_cancel_left hv
     simp only [List.singleton_append, List.cons.injEq] at h6
     rw [h6.1]
    rw [he, hex]
  ·have hans : ans (mV F h0) (l ++ [a]) = (dF (stL F h0 l 0) a (bV F l.length)).2.1 := by
    unfold ans
    rw [hO, if_neg (fun h => h.elim hc fun h => h.elim (fun h => h hgd) (fun h => by omega))]
    rfl
   have hex : gV F (.ask a k) (stL F h0 l 0) l.length = gV F (k (ans (mV F h0) (l ++ [a]))) (stL F h0 (l ++ [a]) 0) (l ++ [a]).length := by
    rw [gV, if_neg hc, hs, hlen, hans]
   refine ⟨fun hn => by rw [hex]; exact i1 hn, fun l' c h1 h2 hn hc2 => ?_⟩
   rw [hex]
   refine i2 l' c ?_ h2 hn hc2
   obtain ⟨t, ht⟩ := h1
   cases t with
   | nil =>
    rw [List.append_nil] at ht
    subst ht
    exact absurd hc2 hc
   | cons x t =>
    subst ht
    obtain ⟨u, hu⟩ := hpre
    obtain ⟨v, hv⟩ := h2
    rw [← hu] at hv
    have h6 : x = a := by
     simp only [List.append_assoc, List.cons_append, List.nil_append] at hv
     have h7 := List.append_cancel_left hv
     simp only [List.cons.injEq] at h7
     exact h7.1
    subst h6
    exact ⟨t, by simp⟩
theorem go_len {α : Type} (O : List Acc → Option Res) (p : Prg α) : ∀ (n : Nat), p.Within n → ∀ l : List Acc, (go O p l).2.length ≤ l.length + n := by
 induction p with
 | ret a => intro n _ l; exact Nat.le_add_right _ _
 | ask a k ih =>
  intro n hW l
  cases n with
  | zero => exact hW.elim
  | succ n =>
   rw [aLs]
   have := ih _ n (hW (ans O (l ++ [a]))) (l ++ [a])
   rw [List.length_append, List.length_singleton] at this
   omega
theorem go_good {α : Type} (O : List Acc → Option Res) (p : Prg α) : Prg.In 48 p → ∀ l : List Acc, (∀ c ∈ l, sQ c) → ∀ c ∈ (go O p l).2, sQ c := by
 induction p with
 | ret a => intro _ l h; exact h
 | ask a k ih =>
  intro hIn l h
  rw [aLs]
  refine ih _ (hIn.2.2.2.2.2 _) _ (fun c hc => ?_)
  rcases List.mem_append.1 hc with hc | hc
  ·exact h c hc
  ·obtain rfl := List.mem_singleton.1 hc
   exact ⟨hIn.1, hIn.2.1, hIn.2.2.1, hIn.2.2.2.1, hIn.2.2.2.2.1⟩
end Pv
end Go.Proofs.YtihghljfmlbfhaaGreatDoor
namespace Go.Proofs.YtihghljfmlbfhaaGreatDoor.Pv
open Go.RowKit
theorem aJx (b : List (List Int)) (bank cell : Int) : iW Tryz.prog ShaMem 103 true [.w (.agg (fuPC b)), pvI bank, pvI cell] (pvB (exB b bank cell)) := by
 have M := aUh (I := ShaMem)
 refine eF Tryz.func103 rfl rfl fJ (fun A hS hn hI => ?_)
 refine aB M hI hn (by rfl) (by kernel_rfl) ?_ ?_
 ·simp
 refine aB M hI hn (by rfl) (by kernel_rfl) ?_ ?_
 ·simp
  exact fun h1 h2 _ => ⟨h1, h2⟩
 refine bC (fun a w hg => ⟨.inr rfl, _, ?_, hg⟩)
 refine aK (by rfl) (by simp) (by rfl) (by rfl) ?_
 refine congrArg pvB ?_
 unfold exB
 cases decide (bank ≥ 0) <;> cases decide (bank < (b.length : Int)) <;> cases decide (cell ≥ 0) <;> rfl
def exG : List PV → Option (Prop × PV)
 | [.w (.agg [.sl 1 n f]), .w (.one (.lit (.int .i64 bank))), .w (.one (.lit (.int .i64 cell)))] => some (gW n f, pvB (exB (bJ n f) bank cell))
 | _ => none
theorem wW : SpecOk Tryz.prog ShaMem 103 (bD true exG) := by
 refine bM (aF Tryz.func103 (by kernel_rfl) rfl) (fun xs p r hg hp w ok0 vs hI hv => ?_)
 unfold exG at hg
 split at hg
 ·rename_i n f bank cell
  cases hg
  match vs, hv with
  | [v1, v2, v3], ⟨k1, k2, k3, _⟩ => exact aJx (bJ n f) bank cell w ok0 [v1, v2, v3] hI ⟨aAc hp k1, k2, k3, trivial⟩
 ·cases hg
theorem aHf (x : Int) (nz : Bool) : iW Tryz.prog ShaMem 104 true [lit1 (.int .u8 x), pvB nz] (pvI (fG x nz)) := by
 have M := aUh (I := ShaMem)
 refine eF Tryz.func104 rfl rfl fJ (fun A hS hn hI => ?_)
 refine aB M hI hn (by rfl) (by kernel_rfl) ?_ ?_
 ·simp
 refine aI ?_
 refine aB M hI hn (by rfl) (by kernel_rfl) ?_ ?_
 ·simp
  exact fun h1 h2 => ⟨h1, h2⟩
 refine aJ (by rfl) (fun hc => ?_) (fun hc => ?_)
 ·have hc2 : (bif x == 2 then true else bif x == 1 then nz else false) = true := hc
  have e : fG x nz = 1 := by
   unfold fG
   by_cases h2 : x = 2
   ·simp [h2]
   ·by_cases h1 : x = 1
    ·subst h1
     have : nz = true := hc2
     simp [this]
    ·simp [h1, h2] at hc2
  refine aB M hI hn (by rfl) (by kernel_rfl) ?_ ?_
  ·simp
  refine bC (fun a w hg => ⟨.inr rfl, _, ?_, hg⟩)
  refine aK (by rfl) (by simp) (by rfl) (by rfl) ?_
  rw [e]
 ·have hc2 : (bif x == 2 then true else bif x == 1 then nz else false) = false := hc
  have e : fG x nz = 0 := by
   unfold fG
   by_cases h2 : x = 2
   ·simp [h2] at hc2
   ·by_cases h1 : x = 1
    ·subst h1
     have : nz = false := hc2
     simp [this]
    ·simp [h1, h2]
  refine aN ?_
  change Tri _ _ _ _ _
  refine aB M hI hn (by rfl) (by kernel_rfl) ?_ ?_
  ·simp
  refine bC (fun a w hg => ⟨.inr rfl, _, ?_, hg⟩)
  refine aK (by rfl) (by simp) (by rfl) (by rfl) ?_
  rw [e]
def rdgG : List PV → Option (Prop × PV)
 | [.w (.one (.lit (.int .u8 x))), .w (.one (.lit (.bool nz)))] => some (True, pvI (fG x nz))
 | _ => none
theorem aEa : SpecOk Tryz.prog ShaMem 104 (bD true rdgG) := by
 refine bM (aF Tryz.func104 (by kernel_rfl) rfl) (fun xs p r hg hp => ?_)
 unfold rdgG at hg
 split at hg
 ·cases hg
  exact aHf _ _
 ·cases hg
def fzL : List (Nat × Spec) := [(103, bD true exG), (104, bD true rdgG)]
theorem fz_ok : ∀ p ∈ fzL, SpecOk Tryz.prog ShaMem p.1 p.2 := by
 intro p hp
 simp only [fzL, List.mem_cons, List.not_mem_nil, or_false] at hp
 rcases hp with rfl | rfl
 ·exact wW
 ·exact aEa
theorem fzM : Mach Tryz.prog ShaMem (find fzL) := ⟨dD fz_ok, iE⟩
theorem aMa {b : List (List Int)} {bank cell : Int} (he : exB b bank cell = true) : (0 ≤ bank ∧ bank < (b.length : Int)) ∧ 0 ≤ cell ∧ cell < ((b.getD bank.toNat []).length : Int) := by
 unfold exB at he
 simp only [Bool.and_eq_true, decide_eq_true_eq] at he
 exact ⟨⟨he.1.1.1, he.1.1.2⟩, he.1.2, he.2⟩
def frdR (b : List (List Int)) (bank cell : Int) (nz : Bool) : PV := .tup [.one (.lit (.int .i64 (if exB b bank cell then fG (dU b bank cell) nz else 0))), .one (.lit (.int .i64 (if exB b bank cell then 0 else 1)))]
theorem frd_fun (b : List (List Int)) (bank cell : Int) (nz : Bool) : iW Tryz.prog ShaMem 79 true [.w (.agg (fuPC b)), pvI bank, pvI cell, pvB nz] (frdR b bank cell nz) := by
 have M := fzM
 refine eF Tryz.func79 rfl rfl fJ (fun A hS hn hI => ?_)
 unfold frdR
 refine aB M hI hn (by rfl) (by kernel_rfl) ?_ ?_
 ·simp
 refine aI ?_
 refine aB M hI hn (by rfl) (by kernel_rfl) ?_ ?_
 ·simp
 rw [aT]
 refine aJ (by rfl) (fun hc => ?_) (fun hc => ?_)
 ·have he : exB b bank cell = false := by
   have hc2 : (!(exB b bank cell)) = true := hc
   simpa using hc2
  rw [he]
  refine aB M hI hn (by rfl) (by kernel_rfl) ?_ ?_
  ·simp
  refine bC (fun a w hg => ⟨.inr rfl, _, ?_, hg⟩)
  refine aK (by rfl) (by simp) (by rfl) (by rfl) ?_
  rfl
 have he : exB b bank cell = true := by
  have hc2 : (!(exB b bank cell)) = false := hc
  simpa using hc2
 have hex := aMa he
 rw [he]
 refine aN ?_
 change Tri _ _ _ _ _
 refine aB M hI hn (by rfl) (by kernel_rfl) ?_ ?_
 ·simp
  rw [zG] at hex
  exact hex
 refine bC (fun a w hg => ⟨.inr rfl, _, ?_, hg⟩)
 refine aK (by rfl) (by simp) (by rfl) (by rfl) ?_
 rfl
def frdG : List PV → Option (Prop × PV)
 | [.w (.agg [.sl 1 n f]), .w (.one (.lit (.int .i64 bank))), .w (.one (.lit (.int .i64 cell))), .w (.one (.lit (.bool nz)))] => some (gW n f, frdR (bJ n f) bank cell nz)
 | _ => none
theorem frd_spec : SpecOk Tryz.prog ShaMem 79 (bD true frdG) := by
 refine bM (aF Tryz.func79 (by kernel_rfl) rfl) (fun xs p r hg hp w ok0 vs hI hv => ?_)
 unfold frdG at hg
 split at hg
 ·rename_i n f bank cell nz
  cases hg
  match vs, hv with
  | [v1, v2, v3, v4], ⟨k1, k2, k3, k4, _⟩ => exact frd_fun (bJ n f) bank cell nz w ok0 [v1, v2, v3, v4] hI ⟨aAc hp k1, k2, k3, k4, trivial⟩
 ·cases hg
def resC (w : World) (ok0 : Nat → Prop) (base : Nat) (val : Value) : Ctx := { w := w, ok := fun b => (ok0 b ∨ base ≤ b) ∧ hblk val ≠ some b, env := fun _ => none }
def wK (P : Program) (I : World → Prop) (f : Nat) (args : List PV) (e n len : Nat) (f' : Nat → List PC) : Prop :=
 ∀ (w : World) (ok0 : Nat → Prop) (vs : List Value), I w → Vals { w, ok := ok0, env := fun _ => none } args vs →
  Calls P f vs.toArray w fun r w' => ∃ val xs, r = .returned val ∧ Ext w w' ∧ w'.ownsRow w.heap.size e n val len xs ∧ ∀ i, i < len → RL (resC w' ok0 w.heap.size val) (f' i) ((xs.drop (i * n)).take n)
def aWo (P : Program) (fn : Func) (e n len : Nat) (f' : Nat → List PC) (s : St) : Prop :=
 ∃ x ver g f, (retM P fn.results).ok none s (fun _ v' wr => v' = pv1 (.ow x ver n 0 len) ∧ wr = []) ∧ find s.o x = some (g, ver, .arr e n len f) ∧ gT g ∧ ∀ i, i < len → f i = f' i ∧ (f' i).all (dY false) = true
def RQRS (P : Program) (A : Amb) (fn : Func) (e n len : Nat) (f' : Nat → List PC) : Exit → Act → World → Prop
 | .panic chain, a, w => a.defers = [] ∧ PanG A chain w
 | x, a, w => (x = .normal ∨ x = .ret) ∧ ∃ s, aWo P fn e n len f' s ∧ Gam A s a w
theorem aRh {P : Program} {fn : Func} {e n len x ver : Nat} {g : Option Bool} {f f' : Nat → List PC} {s : St} {out : Out} (h : (retM P fn.results).exec none s [] [] [] [] = some out) (hc : All out.conds) (hw : out.wr = []) (hx : out.val = pv1 (.ow x ver n 0 len)) (hf : find s.o x = some (g, ver, .arr e n len f)) (hg : gT g) (hff : ∀ i, i < len → f i = f' i ∧ (f' i).all (dY false) = true) : aWo P fn e n len f' s := by
 rw [vM] at h
 exact ⟨x, ver, g, f, M.ok_of_run _ none s out _ h (fun p hp => hc.mem p hp) ⟨hx, hw⟩, hf, hg, hff⟩
theorem aPc {P : Program} {I : World → Prop} {f : Nat} {fn : Func} {c : Code} {args : List PV} {e n len : Nat} {f' : Nat → List PC} (hf : P.funcs[f]? = some fn) (hb : fn.body = some c) (hnb : Nat.ble args.length fn.ntmps = true) (hI : ∀ w w', Ext w w' → I w → I w')
  (hT : ∀ A : Amb, A.S = Non → A.nt = fn.ntmps → AmbOk P I A → Tri P A ⟨slots 0 args, []⟩ c (RQRS P A fn e n len f')) (hmk : Nat.blt e mkT = true := by rfl) : wK P I f args e n len f' := by
 intro w ok0 vs hIw hv
 have hn := Nat.le_of_ble_eq_true hnb
 have hlen := hv.length
 have hg : Gam (Amb.plain w ok0 fn.ntmps) ⟨slots 0 args, []⟩ { tmps := vs.toArray ++ Array.replicate (fn.ntmps - vs.toArray.size) undef, defers := [] } w := by
  refine ⟨fun _ => none, { chg := Chg.refl _ _, size := ?_, dom := fun x _ => rfl, objs := fun x g ver o h => (by cases h), live := fun x ver hd b h => (by cases h), inj := fun x y v1 h1 v2 h2 b h => (by cases h), tmps := fun t g pv h hgt => ?_, defers := rfl, und := fun t pv h => (by obtain ⟨k, _, h2⟩ := kH h; cases h2), exts := fun x hd h => (by cases h), dev := fun g ver O stp l h => (by cases h) }⟩
  ·simp [Amb.plain]; omega
  ·obtain ⟨k, h1, h2⟩ := lM h
   obtain ⟨v, h3, h4⟩ := hv.at h2
   rw [Nat.zero_add] at h1
   subst h1
   have hk : t < vs.length := (List.getElem?_eq_some_iff.1 h3).1
   refine ⟨v, ?_, ?_⟩
   ·rw [Array.getElem?_append_left (by simpa using hk)]
    simpa using h3
   ·refine h4.le ⟨Nat.le_refl _, fun b _ hb => ⟨⟨.inl hb, fun _ _ _ h => by cases h⟩, rfl⟩, fun _ _ _ h => by cases h⟩
 refine calls_of_wp hf hb (wp_mono (hT (Amb.plain w ok0 fn.ntmps) rfl rfl (AmbOk.plain fun w' hc => hI w w' hc hIw) _ w hg (fun _ _ _ hd h => ⟨hd, h⟩)) (fun x a' w' he => ?_))
 have he' : (x = .normal ∨ x = .ret) ∧ ∃ s, aWo P fn e n len f' s ∧ Gam (Amb.plain w ok0 fn.ntmps) s a' w' := by
  cases x with
  | panic chain => obtain ⟨_, l, hl, _⟩ := he; exact hl.elim
  | _ => exact he
 obtain ⟨h1, s, ⟨x0, ver, g, f0, h2, hfo, hgt, hff⟩, h4⟩ := he'
 obtain ⟨env, hE⟩ := h4
 obtain ⟨v', val, h5, h6, h7, _⟩ := zI hE h2
 subst h7
 obtain ⟨hd, hev, hob⟩ := jC hE hfo hgt
 obtain ⟨A0, n0, c0, rfl, hle0, rfl⟩ := h6.ow_inv hev
 obtain ⟨xs, hown, hel⟩ := hob
 have hn0 : n0 = len := by
  obtain ⟨_, A1, c1, e1, _⟩ := Reads.of_ownX hown
  cases e1; rfl
 have hown := hown.plain hmk
 subst hn0
 have hA : A0.map (fun p => p.add (0 * n)) = A0 := by
  cases A0 with
  | none => rfl
  | some ad => simp [Addr.add]
 have hown2 : w'.ownsRow w.heap.size e n (.slice A0 n0 c0) n0 xs := ⟨hown.1, hown.2.imp id (fun ⟨g, cap, cur, h1, _, h3⟩ => ⟨g, cap, cur, h1, by
  have := (hE.live x0 ver _ g hev (by rw [h1]; rfl)).2
  exact this.resolve_right (fun h => h.1), h3⟩)⟩
 have this : a'.defers = [] ∧ ∃ v, (results fn a'.tmps).run P w' = .ok v w' ∧ ∃ val xs, Ending.returned v = .returned val ∧ Ext w w' ∧ w'.ownsRow w.heap.size e n val n0 xs ∧ ∀ i, i < n0 → RL (resC w' ok0 w.heap.size val) (f' i) ((xs.drop (i * n)).take n) := by
  refine ⟨hE.defers, _, h5, _, xs, rfl, hE.chg, ?_, fun i hi => ?_⟩
  ·first | exact hown2 | (simp only [Nat.zero_mul, Nat.sub_zero] at hA ⊢; rw [hA]; exact hown2)
  ·have h8 := hel i hi
   rw [(hff i hi).1] at h8
   refine (kR h8 (hff i hi).2).le ⟨Nat.le_refl _, fun b _ ho => ⟨⟨ho.1, fun e => ho.2 x0 ver _ hev ?_⟩, rfl⟩, fun _ _ _ h => by cases h⟩
   simp only [Nat.zero_mul, Nat.sub_zero] at hA e
   rw [hA] at e
   exact e
 rcases h1 with rfl | rfl <;> exact this
section
variable {P : Program} {I : World → Prop} {A : Amb} {s : St} {a : Act} {w : World} {env : Env}
theorem GamE.new_ownS (h : GamE A s a w env) (nm : Nat) (e n len : Nat) {f : Nat → List PC} {v : Value} {xs : List Value} {w' : World} (hE : Ext w w') (ho : w'.ownsRow w.heap.size e n v len xs) (hr : ∀ i, i < len → RL (resC w' (aY A w env).ok w.heap.size v) (f i) ((xs.drop (i * n)).take n)) :
  ∃ env', GamE A { s with o := [(nm, none, fresh s nm, .arr e n len f)] ++ s.o } a w' env' ∧ RV (aY A w' env') (pv1 (.ow nm (fresh s nm) n 0 len)) v := by
 have ho0 : w'.ownsRow 0 e n v len xs := ⟨ho.1, ho.2.imp id (fun ⟨g, cap, cur, h1, _, h3⟩ => ⟨g, cap, cur, h1, Nat.zero_le _, h3⟩)⟩
 obtain ⟨A0, c0, rfl⟩ := iO ho
 obtain ⟨h1, h2⟩ := h.new (w' := w') nm none (.slice A0 len c0) (.arr e n len f) hE (fun b hb => by
   have hb' : (Value.slice A0 len c0).ownBlock = some b := by cases A0 <;> exact hb
   exact ⟨(ho.lt b hb').2, (ho.lt b hb').1⟩)
  (fun hle _ => ⟨xs, tJ ho0, fun i hi => (hr i hi).le ⟨Nat.le_refl _, fun b hb hok => ⟨by
   obtain ⟨hq, hne⟩ := hok
   rcases Nat.lt_or_ge b w.heap.size with hlt | hge
   ·rcases hq with hq | hq
    ·exact (hle.blk b hlt hq).1
    ·omega
   ·refine ⟨.inr (Nat.le_trans h.chg.size hge), fun x ver hd he hbl => ?_⟩
    by_cases hx : x = nm
    ·subst hx
     rw [gU] at he
     cases he
     exact hne hbl
    ·rw [jI hx] at he
     have := (h.live x ver hd b he hbl).1
     omega, rfl⟩, fun _ _ _ h => by cases h⟩⟩)
 refine ⟨_, h1, .w (.one (.ow ⟨_, _, rfl⟩ ⟨_, _, gU _ _ _ _, Nat.le_refl _, fun _ => ⟨_, _, _, rfl, by omega, ?_⟩⟩))⟩
 cases A0 with
 | none => simp
 | some ad => simp [Addr.add]
def aDg (g : List PV → Option (Prop × Nat × Nat × Nat × (Nat → List PC))) : Spec := fun nm xs => match xs.all tN, g xs with
 | true, some (p, e, n, len, f) => .need p (.new nm (.arr e n len f) fun v => .ret (pv1 (.ow nm v n 0 len)))
 | _, _ => .fail
theorem aIp {f : Nat} {g : List PV → Option (Prop × Nat × Nat × Nat × (Nat → List PC))} (hent : ∀ args w, (callFunc f args).run P w = .ok (.enter f args) w) (hg : ∀ xs p e n len f', g xs = some (p, e, n, len, f') → p → wK P I f xs e n len f') : SpecOk P I f (aDg g) := by
 refine ⟨hent, fun A s a w env nm pvs vs F h hI hv hk => ?_⟩
 unfold aDg at hk
 cases hc : pvs.all tN <;> cases hq : g pvs <;> simp only [hc, hq] at hk <;> try exact hk.elim
 rename_i q
 obtain ⟨p, e, n, len, f'⟩ := q
 obtain ⟨hp, hk⟩ := hk
 refine (hg pvs p e n len f' hq hp w (aY A w env).ok vs (hI.mem w h.chg) (aAi hv hc)).mono ?_
 rintro r w' ⟨val, xs, rfl, hE, ho, hr⟩
 obtain ⟨env', h3, h4⟩ := h.new_ownS nm e n len (f := f') hE ho hr
 exact .inl ⟨_, _, _, env', rfl, hk, h3, h4⟩
end
end Go.Proofs.YtihghljfmlbfhaaGreatDoor.Pv
namespace Go.Proofs.YtihghljfmlbfhaaGreatDoor.Pv
open Go.RowKit
theorem app0 (f g : Nat → List PC) : appF 0 f g = g := by
 funext i
 unfold appF
 rw [if_neg (by omega)]
 rfl
theorem clnB_fun (b : List (List Int)) (h0 : 0 < b.length) (hl : b.length ≤ 100000) : wK Tryz.prog ShaMem 105 [pv1 (.sl 1 b.length (bT b))] 40 1 b.length (bT b) := by
 have M := aUh (I := ShaMem)
 have hb1 : Tryz.prog.types[40].bytes = 24 := by kernel_rfl
 have hs1 : Tryz.prog.types[40].size = 1 := by kernel_rfl
 refine aPc Tryz.func105 rfl rfl fJ (fun A hS hn hI => ?_)
 refine aB M hI hn (by rfl) (by kernel_rfl) ?_ ?_
 ·simp
 refine aI ?_
 refine aB M hI hn (by rfl) (by kernel_rfl) ?_ ?_
 ·simp
  omega
 refine aJ (by rfl) (fun hc => ?_) (fun hc => ?_)
 ·cases hc
 refine aN ?_
 change Tri _ _ _ _ _
 refine aB M hI hn (by rfl) (by kernel_rfl) ?_ ?_
 ·simp
  rw [hb1]
  omega
 refine aV (s' := ⟨[(2, none, pv1 (.ow 3000 0 1 0 b.length))], [(3000, none, 0, .arr 40 1 b.length (bT b))]⟩) (fun a w hg => (hg.reset (kT := [2]) (kO := [3000]) (by rfl) ?_).same ?_ ?_) ?_
 ·simp
  rw [app0]
  exact fun i _ x hx => by
   have : x ∈ [_] := hx
   rw [List.mem_singleton] at this
   subst this
   rfl
 ·refine .cons ?_ .nil
  change pv1 (.ow 3000 0 Tryz.prog.types[40].size 0 (0 + b.length)) = _
  rw [hs1, Nat.zero_add]
 ·refine .cons (.arr ?_ (fun i hi => ?_)) .nil
  ·exact Nat.zero_add _
  ·rw [app0]
 refine bC (fun a w hg => ⟨.inr rfl, _, ?_, hg⟩)
 refine aRh (x := 3000) (ver := 0) (g := none) (f := ?_) (out := ?_) ?_ ?_ ?_ ?_ ?_ trivial ?_
 rotate_left 2
 ·rfl
 ·simp
 ·rfl
 ·rfl
 ·rfl
 exact fun i hi => ⟨rfl, rfl⟩
theorem clnC_fun (b : List Int) (h0 : 0 < b.length) (hl : b.length ≤ 100000) : aCv Tryz.prog ShaMem 106 [pv1 (.sl 1 b.length (u8F b))] 5 1 b.length (u8F b) := by
 have M := aUh (I := ShaMem)
 have hb1 : Tryz.prog.types[5].bytes = 1 := by kernel_rfl
 have hs1 : Tryz.prog.types[5].size = 1 := by kernel_rfl
 refine aUa Tryz.func106 rfl rfl fJ (fun A hS hn hI => ?_)
 refine aB M hI hn (by rfl) (by kernel_rfl) ?_ ?_
 ·simp
 refine aI ?_
 refine aB M hI hn (by rfl) (by kernel_rfl) ?_ ?_
 ·simp
  omega
 refine aJ (by rfl) (fun hc => ?_) (fun hc => ?_)
 ·cases hc
 refine aN ?_
 change Tri _ _ _ _ _
 refine aB M hI hn (by rfl) (by kernel_rfl) ?_ ?_
 ·simp
  rw [hb1]
  omega
 refine aV (s' := ⟨[(2, none, pv1 (.ow 3000 0 1 0 b.length))], [(3000, none, 0, .arr 5 1 b.length (u8F b))]⟩) (fun a w hg => (hg.reset (kT := [2]) (kO := [3000]) (by rfl) ?_).same ?_ ?_) ?_
 ·simp
  rw [app0]
  exact fun i _ x hx => by
   have : x ∈ [_] := hx
   rw [List.mem_singleton] at this
   subst this
   rfl
 ·refine .cons ?_ .nil
  change pv1 (.ow 3000 0 Tryz.prog.types[5].size 0 (0 + b.length)) = _
  rw [hs1, Nat.zero_add]
 ·refine .cons (.arr ?_ (fun i hi => ?_)) .nil
  ·exact Nat.zero_add _
  ·rw [app0]
 refine bC (fun a w hg => ⟨.inr rfl, _, ?_, hg⟩)
 refine rowTo_of (x := 3000) (ver := 0) (g := none) (f := ?_) (out := ?_) ?_ ?_ ?_ ?_ ?_ trivial ?_
 rotate_left 2
 ·rfl
 ·simp
 ·rfl
 ·rfl
 ·rfl
 exact fun i hi => ⟨rfl, rfl⟩
def spClnB : Spec := aDg fun xs => match xs with
 | [.w (.one (.sl 1 n f))] => some (0 < n ∧ n ≤ 100000 ∧ gW n f, 40, 1, (bJ n f).length, bT (bJ n f))
 | _ => none
theorem sl_row {C : Ctx} {n : Nat} {f : Nat → List PC} {v : Value} (hf : gW n f) (h : RV C (pv1 (.sl 1 n f)) v) : RV C (pv1 (.sl 1 (bJ n f).length (bT (bJ n f)))) v := by
 cases h with
 | w h => cases h with
  | one h => exact .w (.one (mM hf h))
theorem wK.args {P : Program} {I : World → Prop} {f : Nat} {args args' : List PV} {e n len : Nat} {f' : Nat → List PC} (h : wK P I f args' e n len f') (hv : ∀ C vs, Vals C args vs → Vals C args' vs) : wK P I f args e n len f' := fun w ok0 vs hI hV => h w ok0 vs hI (hv _ _ hV)
theorem aCv.args {P : Program} {I : World → Prop} {f : Nat} {args args' : List PV} {e n len : Nat} {f' : Nat → List PC} (h : aCv P I f args' e n len f') (hv : ∀ C vs, Vals C args vs → Vals C args' vs) : aCv P I f args e n len f' := fun w ok0 vs hI hV => h w ok0 vs hI (hv _ _ hV)
theorem clnB_ok : SpecOk Tryz.prog ShaMem 105 spClnB := by
 refine aIp (aF Tryz.func105 (by kernel_rfl) rfl) (fun xs p e n len f' hg hp => ?_)
 split at hg
 ·rename_i n0 f0
  cases hg
  obtain ⟨h0, h1, h2⟩ := hp
  exact (clnB_fun (bJ n0 f0) (by rw [dH]; exact h0) (by rw [dH]; exact h1)).args fun C vs hv => by
   match vs, hv with
   | [x], ⟨k0, _⟩ => exact ⟨sl_row h2 k0, trivial⟩
 ·cases hg
def aHy (n : Nat) (g : Nat → List PC) : Prop := ∀ j, j < n → aTp (g j) = true
def rowCell (n : Nat) (g : Nat → List PC) : List Int := (List.range n).map fun j => u8Of (g j)
theorem oZ (l : List Int) : rowCell l.length (u8F l) = l := aHp l
theorem cell_row {C : Ctx} {n : Nat} {g : Nat → List PC} {v : Value} (hf : aHy n g) (h : RV C (pv1 (.sl 1 n g)) v) : RV C (pv1 (.sl 1 (rowCell n g).length (u8F (rowCell n g)))) v := by
 have hl : (rowCell n g).length = n := by unfold rowCell; simp
 rw [hl]
 cases h with
 | w h => cases h with
  | one h => exact .w (.one (h.sl_ext fun j hj => by
   unfold u8F rowCell
   rw [iQ n j (fun j => u8Of (g j)) hj]
   exact aDx (hf j hj)))
@[simp] theorem gB (n : Nat) (g : Nat → List PC) : (rowCell n g).length = n := by unfold rowCell; simp
theorem xP {b : List (List Int)} {nc : Nat} {cut : Bool} (h : 2 < b.length) : bT (pulB b 2 (nc : Int) cut) 2 = bkPC ((b.getD 2 []).set nc (dK (dU b 2 (nc : Int)) cut)) := by
 unfold bT pulB
 rw [show (2 : Int).toNat = 2 from rfl, zG, List.getElem?_set_self h]
 rfl
theorem aDp {b : List (List Int)} {nc : Nat} {cut : Bool} {i : Nat} (h : i ≠ 2) : bT (pulB b 2 (nc : Int) cut) i = bT b i := by
 unfold bT pulB
 rw [show (2 : Int).toNat = 2 from rfl, zG, List.getElem?_set_ne (fun e => h e.symm), ← zG]
theorem aDa {l : List Int} {nc : Nat} {x : Int} (h : nc < l.length) {k : Nat} : (if k = nc then [PC.lit (.int .u8 x)] else u8F l k) = u8F (l.set nc x) k := by
 unfold u8F
 by_cases hk : k = nc
 ·subst hk
  rw [if_pos rfl, zG, List.getElem?_set_self h]
  rfl
 ·rw [if_neg hk, zG, zG, List.getElem?_set_ne (fun e => hk e.symm)]
theorem ExC.sl_len {s : St} {new : Bool} {c : PC} {n len len' : Nat} {f : Nat → List PC} (e : len' = len) (h : ExC s new c (.sl n len' f)) : ExC s new c (.sl n len f) := by subst e; exact h
theorem pI (b : List (List Int)) (bank cell : Int) (cut : Bool) : (pulB b bank cell cut).length = b.length := List.length_set ..
def spClnC : Spec := aIq fun xs => match xs with
 | [.w (.one (.sl 1 n f))] => some (0 < n ∧ n ≤ 100000 ∧ aHy n f, 5, 1, (rowCell n f).length, u8F (rowCell n f))
 | _ => none
theorem clnC_ok : SpecOk Tryz.prog ShaMem 106 spClnC := by
 refine aNr (aF Tryz.func106 (by kernel_rfl) rfl) (fun xs p e n len f' hg hp => ?_)
 split at hg
 ·rename_i n0 f0
  cases hg
  obtain ⟨h0, h1, h2⟩ := hp
  have hl : (rowCell n0 f0).length = n0 := by unfold rowCell; simp
  exact (clnC_fun (rowCell n0 f0) (by rw [hl]; exact h0) (by rw [hl]; exact h1)).args fun C vs hv => by
   match vs, hv with
   | [x], ⟨k0, _⟩ => exact ⟨cell_row h2 k0, trivial⟩
 ·cases hg
def puL : List (Nat × Spec) := [(103, bD true exG), (105, spClnB), (106, spClnC)]
theorem pu_ok : ∀ p ∈ puL, SpecOk Tryz.prog ShaMem p.1 p.2 := by
 intro p hp
 simp only [puL, List.mem_cons, List.not_mem_nil, or_false] at hp
 rcases hp with rfl | rfl | rfl
 ·exact wW
 ·exact clnB_ok
 ·exact clnC_ok
theorem puM : Mach Tryz.prog ShaMem (find puL) := ⟨dD pu_ok, iE⟩
def aGg (b : List (List Int)) (e : Int) : PV := .tup [.agg (fuPC b), .one (.lit (.int .i64 e))]
def puSt (b : List (List Int)) (nb nc : Nat) (x : Int) : St := ⟨[(1, none, pvI (nb : Int)), (2, none, pvI (nc : Int)), (4, none, pv1 (.pt 0 0 0)), (8, none, pv1 (.pt 1 0 0)), (10, none, lit1 (.int .u8 x))], [(0, none, 0, .box 49 (fuPC b)), (1, none, 0, .box 49 [.lit (.slice none 0 0)])]⟩
theorem pul_yes2 (b : List (List Int)) (nc : Nat) (cut : Bool) (hl4 : b.length ≤ 1000) (hlb : ∀ l ∈ b, l.length ≤ 100000) (hv : ∀ l ∈ b, ∀ x ∈ l, 0 ≤ x ∧ x ≤ 3) (he : exB b 2 (nc : Int) = true) : iW Tryz.prog ShaMem 81 false [.w (.agg (fuPC b)), pvI ((2 : Nat) : Int), pvI (nc : Int), pvB cut] (aGg (pulB b 2 (nc : Int) cut) 0) := by
 have M := puM
 have hex := aMa he
 refine eF Tryz.func81 rfl rfl fJ (fun A hS hn hI => ?_)
 refine aB M hI hn (by rfl) (by kernel_rfl) ?_ ?_
 ·simp
 refine aI ?_
 refine aB M hI hn (by rfl) (by kernel_rfl) ?_ ?_
 ·simp
 rw [aT, show ((2 : Nat) : Int) = 2 from rfl, he]
 refine aJ (by rfl) (fun hc => ?_) (fun hc => ?_)
 ·cases hc
 refine aN ?_
 change Tri _ _ _ _ _
 refine aB M hI hn (by rfl) (by kernel_rfl) ?_ ?_
 ·simp
 have h2b : 2 < b.length := by have := hex.1.2; omega
 have hlm : b.getD 2 [] ∈ b := getD_mem h2b []
 have hcl : (nc : Int) < ((b.getD 2 []).length : Int) := hex.2.2
 have hcm : 0 ≤ dU b 2 (nc : Int) ∧ dU b 2 (nc : Int) ≤ 3 := hv _ hlm _ (getD_mem (by omega) 0)
 refine aI ?_
 refine aB M hI hn (by rfl) (by kernel_rfl) ?_ ?_
 ·simp
 refine aJ (by rfl) (fun hc => ?_) (fun hc => ?_)
 ·have hcut : cut = true := hc
  refine aS M hI hn (by rfl) (by kernel_rfl) ?_ ?_
  ·simp
  change Tri _ _ _ _ _
  refine aI ?_
  refine aB M hI hn (by rfl) (by kernel_rfl) ?_ ?_
  ·simp
   rw [← zG]
   omega
  refine aB M hI hn (by rfl) (by kernel_rfl) ?_ ?_
  ·simp
  refine aJ (by rfl) (fun hc => ?_) (fun hc => ?_)
  ·have hc2 : (bif dU b 2 (nc : Int) == 2 then true else dU b 2 (nc : Int) == 3) = true := hc
   have hx : dK (dU b 2 (nc : Int)) cut = dU b 2 (nc : Int) := by
    unfold dK
    have h5 : ¬ dU b 2 (nc : Int) ≤ 1 := fun h => by
     by_cases h2 : dU b 2 (nc : Int) = 2
     ·omega
     ·rw [beq_eq_false_iff_ne.2 h2] at hc2
      have h3 := eq_of_beq hc2
      omega
    rw [if_neg h5]
   refine aS M hI hn (by rfl) (by kernel_rfl) ?_ ?_
   ·simp
   change Tri _ _ _ _ _
   refine aV (s' := puSt b 2 nc (dK (dU b 2 (nc : Int)) cut)) (fun a w hg => (hg.reset (kT := [1, 2, 4, 8, 10]) (kO := [0, 1]) (by rfl) (by simp)).same ?_ ?_) ?_
   ·exact .cons rfl (.cons rfl (.cons rfl (.cons rfl (.cons (congrArg (fun z => lit1 (.int .u8 z)) hx.symm) .nil))))
   ·exact .cons (.box rfl) (.cons (.box rfl) .nil)
   refine aB M hI hn (by rfl) (by kernel_rfl) ?_ ?_
   ·simp
    omega
   refine aB M hI hn (by rfl) (by kernel_rfl) ?_ ?_
   ·simp
    rw [← zG]
    exact ⟨by omega, by omega, ⟨by omega, hlb _ hlm, fun _ _ => rfl⟩, by omega, by omega⟩
   refine aB M hI hn (by rfl) (by kernel_rfl) ?_ ?_
   ·simp
    rw [← zG]
    omega
   refine aB M hI hn (by rfl) (by kernel_rfl) ?_ ?_
   ·simp
   refine bC (fun a w hg => ⟨.inr rfl, _, ?_, hg⟩)
   unfold aGg fuPC
   rw [pI]
   refine iL (by rfl) (by simp) (by rfl) ?_
   refine .tup (.cons (.agg (.cons ?_ .nil)) (.cons (.one (.cold rfl)) .nil))
   have e9 : (bJ b.length (bT b)).length = b.length := dH _ _
   refine ExC.sl_len e9 (.rows rfl trivial (by omega) (fun i hi => ?_))
   rw [Nat.zero_add]
   by_cases hi2 : i = 2
   ·subst hi2
    refine .inr ⟨10008, 0, 1, 0, (b.getD 2 []).length, _, _, _, _, u8F ((b.getD 2 []).set nc (dK (dU b 2 (nc : Int)) cut)), ?_, ?_, rfl, trivial, ?_, fun k hk => ⟨?_, rfl⟩⟩
    ·change [PC.ow 10008 0 1 0 (rowCell ((bJ b.length (bT b)).getD 2 []).length (u8F ((bJ b.length (bT b)).getD 2 []))).length] = _
     rw [aT, gB]
    ·rw [xP h2b]
     unfold bkPC
     rw [List.length_set]
    ·change 0 + (b.getD 2 []).length ≤ (rowCell ((bJ b.length (bT b)).getD 2 []).length (u8F ((bJ b.length (bT b)).getD 2 []))).length
     rw [aT, gB]
     omega
    ·rw [Nat.zero_add]
     change (if k = 0 + (nc : Int).toNat then [PC.lit (.int .u8 (dK (dU b 2 (nc : Int)) cut))] else u8F (rowCell ((bJ b.length (bT b)).getD 2 []).length (u8F ((bJ b.length (bT b)).getD 2 []))) k) = _
     rw [aT, oZ, Int.toNat_natCast, Nat.zero_add]
     exact aDa (by omega)
   ·refine .inl ⟨?_, rfl⟩
    rw [if_neg (by rw [Nat.zero_add]; exact hi2), aT]
    exact (aDp hi2).symm
  ·have hc2 : (bif dU b 2 (nc : Int) == 2 then true else dU b 2 (nc : Int) == 3) = false := hc
   have hx : dK (dU b 2 (nc : Int)) cut = 1 := by
    unfold dK
    have h5 : dU b 2 (nc : Int) ≤ 1 := by
     by_cases h2 : dU b 2 (nc : Int) = 2
     ·rw [h2] at hc2; cases hc2
     ·rw [beq_eq_false_iff_ne.2 h2] at hc2
      by_cases h3 : dU b 2 (nc : Int) = 3
      ·rw [h3] at hc2; cases hc2
      ·omega
    rw [if_pos h5, hcut]
    rfl
   refine aN ?_
   change Tri _ _ _ _ _
   refine aV (s' := puSt b 2 nc (dK (dU b 2 (nc : Int)) cut)) (fun a w hg => (hg.reset (kT := [1, 2, 4, 8, 10]) (kO := [0, 1]) (by rfl) (by simp)).same ?_ ?_) ?_
   ·exact .cons rfl (.cons rfl (.cons rfl (.cons rfl (.cons (congrArg (fun z => lit1 (.int .u8 z)) hx.symm) .nil))))
   ·exact .cons (.box rfl) (.cons (.box rfl) .nil)
   refine aB M hI hn (by rfl) (by kernel_rfl) ?_ ?_
   ·simp
    omega
   refine aB M hI hn (by rfl) (by kernel_rfl) ?_ ?_
   ·simp
    rw [← zG]
    exact ⟨by omega, by omega, ⟨by omega, hlb _ hlm, fun _ _ => rfl⟩, by omega, by omega⟩
   refine aB M hI hn (by rfl) (by kernel_rfl) ?_ ?_
   ·simp
    rw [← zG]
    omega
   refine aB M hI hn (by rfl) (by kernel_rfl) ?_ ?_
   ·simp
   refine bC (fun a w hg => ⟨.inr rfl, _, ?_, hg⟩)
   unfold aGg fuPC
   rw [pI]
   refine iL (by rfl) (by simp) (by rfl) ?_
   refine .tup (.cons (.agg (.cons ?_ .nil)) (.cons (.one (.cold rfl)) .nil))
   have e9 : (bJ b.length (bT b)).length = b.length := dH _ _
   refine ExC.sl_len e9 (.rows rfl trivial (by omega) (fun i hi => ?_))
   rw [Nat.zero_add]
   by_cases hi2 : i = 2
   ·subst hi2
    refine .inr ⟨10008, 0, 1, 0, (b.getD 2 []).length, _, _, _, _, u8F ((b.getD 2 []).set nc (dK (dU b 2 (nc : Int)) cut)), ?_, ?_, rfl, trivial, ?_, fun k hk => ⟨?_, rfl⟩⟩
    ·change [PC.ow 10008 0 1 0 (rowCell ((bJ b.length (bT b)).getD 2 []).length (u8F ((bJ b.length (bT b)).getD 2 []))).length] = _
     rw [aT, gB]
    ·rw [xP h2b]
     unfold bkPC
     rw [List.length_set]
    ·change 0 + (b.getD 2 []).length ≤ (rowCell ((bJ b.length (bT b)).getD 2 []).length (u8F ((bJ b.length (bT b)).getD 2 []))).length
     rw [aT, gB]
     omega
    ·rw [Nat.zero_add]
     change (if k = 0 + (nc : Int).toNat then [PC.lit (.int .u8 (dK (dU b 2 (nc : Int)) cut))] else u8F (rowCell ((bJ b.length (bT b)).getD 2 []).length (u8F ((bJ b.length (bT b)).getD 2 []))) k) = _
     rw [aT, oZ, Int.toNat_natCast, Nat.zero_add]
     exact aDa (by omega)
   ·refine .inl ⟨?_, rfl⟩
    rw [if_neg (by rw [Nat.zero_add]; exact hi2), aT]
    exact (aDp hi2).symm
 ·have hcut : cut = false := hc
  refine aN ?_
  change Tri _ _ _ _ _
  refine aI ?_
  refine aB M hI hn (by rfl) (by kernel_rfl) ?_ ?_
  ·simp
   rw [← zG]
   omega
  refine aB M hI hn (by rfl) (by kernel_rfl) ?_ ?_
  ·simp
  refine aJ (by rfl) (fun hc => ?_) (fun hc => ?_)
  ·have hc2 : (bif dU b 2 (nc : Int) == 2 then true else dU b 2 (nc : Int) == 3) = true := hc
   have hx : dK (dU b 2 (nc : Int)) cut = dU b 2 (nc : Int) := by
    unfold dK
    have h5 : ¬ dU b 2 (nc : Int) ≤ 1 := fun h => by
     by_cases h2 : dU b 2 (nc : Int) = 2
     ·omega
     ·rw [beq_eq_false_iff_ne.2 h2] at hc2
      have h3 := eq_of_beq hc2
      omega
    rw [if_neg h5]
   refine aS M hI hn (by rfl) (by kernel_rfl) ?_ ?_
   ·simp
   change Tri _ _ _ _ _
   refine aV (s' := puSt b 2 nc (dK (dU b 2 (nc : Int)) cut)) (fun a w hg => (hg.reset (kT := [1, 2, 4, 8, 10]) (kO := [0, 1]) (by rfl) (by simp)).same ?_ ?_) ?_
   ·exact .cons rfl (.cons rfl (.cons rfl (.cons rfl (.cons (congrArg (fun z => lit1 (.int .u8 z)) hx.symm) .nil))))
   ·exact .cons (.box rfl) (.cons (.box rfl) .nil)
   refine aB M hI hn (by rfl) (by kernel_rfl) ?_ ?_
   ·simp
    omega
   refine aB M hI hn (by rfl) (by kernel_rfl) ?_ ?_
   ·simp
    rw [← zG]
    exact ⟨by omega, by omega, ⟨by omega, hlb _ hlm, fun _ _ => rfl⟩, by omega, by omega⟩
   refine aB M hI hn (by rfl) (by kernel_rfl) ?_ ?_
   ·simp
    rw [← zG]
    omega
   refine aB M hI hn (by rfl) (by kernel_rfl) ?_ ?_
   ·simp
   refine bC (fun a w hg => ⟨.inr rfl, _, ?_, hg⟩)
   unfold aGg fuPC
   rw [pI]
   refine iL (by rfl) (by simp) (by rfl) ?_
   refine .tup (.cons (.agg (.cons ?_ .nil)) (.cons (.one (.cold rfl)) .nil))
   have e9 : (bJ b.length (bT b)).length = b.length := dH _ _
   refine ExC.sl_len e9 (.rows rfl trivial (by omega) (fun i hi => ?_))
   rw [Nat.zero_add]
   by_cases hi2 : i = 2
   ·subst hi2
    refine .inr ⟨10008, 0, 1, 0, (b.getD 2 []).length, _, _, _, _, u8F ((b.getD 2 []).set nc (dK (dU b 2 (nc : Int)) cut)), ?_, ?_, rfl, trivial, ?_, fun k hk => ⟨?_, rfl⟩⟩
    ·change [PC.ow 10008 0 1 0 (rowCell ((bJ b.length (bT b)).getD 2 []).length (u8F ((bJ b.length (bT b)).getD 2 []))).length] = _
     rw [aT, gB]
    ·rw [xP h2b]
     unfold bkPC
     rw [List.length_set]
    ·change 0 + (b.getD 2 []).length ≤ (rowCell ((bJ b.length (bT b)).getD 2 []).length (u8F ((bJ b.length (bT b)).getD 2 []))).length
     rw [aT, gB]
     omega
    ·rw [Nat.zero_add]
     change (if k = 0 + (nc : Int).toNat then [PC.lit (.int .u8 (dK (dU b 2 (nc : Int)) cut))] else u8F (rowCell ((bJ b.length (bT b)).getD 2 []).length (u8F ((bJ b.length (bT b)).getD 2 []))) k) = _
     rw [aT, oZ, Int.toNat_natCast, Nat.zero_add]
     exact aDa (by omega)
   ·refine .inl ⟨?_, rfl⟩
    rw [if_neg (by rw [Nat.zero_add]; exact hi2), aT]
    exact (aDp hi2).symm
  ·have hc2 : (bif dU b 2 (nc : Int) == 2 then true else dU b 2 (nc : Int) == 3) = false := hc
   have hx : dK (dU b 2 (nc : Int)) cut = 2 := by
    unfold dK
    have h5 : dU b 2 (nc : Int) ≤ 1 := by
     by_cases h2 : dU b 2 (nc : Int) = 2
     ·rw [h2] at hc2; cases hc2
     ·rw [beq_eq_false_iff_ne.2 h2] at hc2
      by_cases h3 : dU b 2 (nc : Int) = 3
      ·rw [h3] at hc2; cases hc2
      ·omega
    rw [if_pos h5, hcut]
    rfl
   refine aN ?_
   change Tri _ _ _ _ _
   refine aV (s' := puSt b 2 nc (dK (dU b 2 (nc : Int)) cut)) (fun a w hg => (hg.reset (kT := [1, 2, 4, 8, 10]) (kO := [0, 1]) (by rfl) (by simp)).same ?_ ?_) ?_
   ·exact .cons rfl (.cons rfl (.cons rfl (.cons rfl (.cons (congrArg (fun z => lit1 (.int .u8 z)) hx.symm) .nil))))
   ·exact .cons (.box rfl) (.cons (.box rfl) .nil)
   refine aB M hI hn (by rfl) (by kernel_rfl) ?_ ?_
   ·simp
    omega
   refine aB M hI hn (by rfl) (by kernel_rfl) ?_ ?_
   ·simp
    rw [← zG]
    exact ⟨by omega, by omega, ⟨by omega, hlb _ hlm, fun _ _ => rfl⟩, by omega, by omega⟩
   refine aB M hI hn (by rfl) (by kernel_rfl) ?_ ?_
   ·simp
    rw [← zG]
    omega
   refine aB M hI hn (by rfl) (by kernel_rfl) ?_ ?_
   ·simp
   refine bC (fun a w hg => ⟨.inr rfl, _, ?_, hg⟩)
   unfold aGg fuPC
   rw [pI]
   refine iL (by rfl) (by simp) (by rfl) ?_
   refine .tup (.cons (.agg (.cons ?_ .nil)) (.cons (.one (.cold rfl)) .nil))
   have e9 : (bJ b.length (bT b)).length = b.length := dH _ _
   refine ExC.sl_len e9 (.rows rfl trivial (by omega) (fun i hi => ?_))
   rw [Nat.zero_add]
   by_cases hi2 : i = 2
   ·subst hi2
    refine .inr ⟨10008, 0, 1, 0, (b.getD 2 []).length, _, _, _, _, u8F ((b.getD 2 []).set nc (dK (dU b 2 (nc : Int)) cut)), ?_, ?_, rfl, trivial, ?_, fun k hk => ⟨?_, rfl⟩⟩
    ·change [PC.ow 10008 0 1 0 (rowCell ((bJ b.length (bT b)).getD 2 []).length (u8F ((bJ b.length (bT b)).getD 2 []))).length] = _
     rw [aT, gB]
    ·rw [xP h2b]
     unfold bkPC
     rw [List.length_set]
    ·change 0 + (b.getD 2 []).length ≤ (rowCell ((bJ b.length (bT b)).getD 2 []).length (u8F ((bJ b.length (bT b)).getD 2 []))).length
     rw [aT, gB]
     omega
    ·rw [Nat.zero_add]
     change (if k = 0 + (nc : Int).toNat then [PC.lit (.int .u8 (dK (dU b 2 (nc : Int)) cut))] else u8F (rowCell ((bJ b.length (bT b)).getD 2 []).length (u8F ((bJ b.length (bT b)).getD 2 []))) k) = _
     rw [aT, oZ, Int.toNat_natCast, Nat.zero_add]
     exact aDa (by omega)
   ·refine .inl ⟨?_, rfl⟩
    rw [if_neg (by rw [Nat.zero_add]; exact hi2), aT]
    exact (aDp hi2).symm
def pulG : List PV → Option (Prop × PV)
 | [.w (.agg [.sl 1 n f]), .w (.one (.lit (.int .i64 2))), .w (.one (.lit (.int .i64 c))), .w (.one (.lit (.bool cut)))] => some (gW n f ∧ n ≤ 1000 ∧ (∀ l ∈ bJ n f, l.length ≤ 100000) ∧ (∀ l ∈ bJ n f, ∀ x ∈ l, 0 ≤ x ∧ x ≤ 3) ∧ exB (bJ n f) 2 c = true, aGg (pulB (bJ n f) 2 c cut) 0)
 | _ => none
theorem pul_spec : SpecOk Tryz.prog ShaMem 81 (bD false pulG) := by
 refine bM (aF Tryz.func81 (by kernel_rfl) rfl) (fun xs p r hg hp w ok0 vs hI hv => ?_)
 unfold pulG at hg
 split at hg
 ·rename_i n f c cut
  cases hg
  obtain ⟨h1, h2, h3, h4, h5⟩ := hp
  obtain ⟨nc, rfl⟩ : ∃ nc : Nat, c = (nc : Int) := ⟨c.toNat, by have := (aMa h5).2.1; omega⟩
  match vs, hv with
  | [v1, v2, v3, v4], ⟨k1, k2, k3, k4, _⟩ => exact pul_yes2 (bJ n f) nc cut (by rw [dH]; exact h2) h3 h4 h5 w ok0 [v1, v2, v3, v4] hI ⟨aAc h1 k1, k2, k3, k4, trivial⟩
 ·cases hg
end Go.Proofs.YtihghljfmlbfhaaGreatDoor.Pv
namespace Go.Proofs.YtihghljfmlbfhaaGreatDoor
open Go.RowKit
theorem aCt : Wide Tryz.prog 127 10 := ⟨⟨_, Tryz.underlying127, rfl⟩, by kernel_rfl⟩
def accV : Array Value := #[.nilFunc, .nilFunc, .func (.func 77) #[] #[], .func (.func 78) #[] #[], .func (.func 77) #[] #[], .func (.func 80) #[] #[],
 .func (.func 82) #[] #[], .func (.func 83) #[] #[], .func (.func 85) #[] #[], .func (.func 86) #[] #[]]
theorem aHx (w : World) : Calls Tryz.prog 61 #[] w fun e w' => e = .returned (.agg accV) ∧ Ext w w' := by
 go_enter Tryz.func61, Tryz.ntmps61
 go_wp2_with (refine aH (ty := 127) (t := 127) (x := .tmp 0) (y := .tmp 8) rfl rfl aCt rfl rfl (Blk.new w _ _) rfl rfl (by rw [← Array.all_toList]; rfl) ?_; intro w2 hb2 hc2 hz2)
 refine bodyPost_ret (v := .agg accV) (aX aCt rfl hb2 rfl rfl) rfl ⟨rfl, ?_⟩
 exact ((Ext.refl w).alloc _).trans' hc2 (fun _ _ h => h) (fun i hi e => by omega)
end Go.Proofs.YtihghljfmlbfhaaGreatDoor
namespace Go.Proofs.YtihghljfmlbfhaaGreatDoor.Pv
open Go.RowKit
def hwL (h : HwS) : List PC := [.sl 1 h.b.length (bT h.b), .sl 1 h.f.length (fsF h.f), .bs 16 h.r]
def rF (t : Flt) : List PC := [.lit (.bool t.cut), .lit (.int .i64 t.bytes), .lit (.bool t.noise)]
def accA (k c : Int) : Acc := ⟨k, 2, c, bF⟩
def hwOf : List PC → Option (Prop × HwS)
 | [.sl 1 n f, .sl 1 m g, .bs 16 r] => some (gW n f ∧ aEu m g, ⟨bJ n f, tX m g, r⟩)
 | _ => none
theorem xO {C : Ctx} {n len : Nat} {f : Nat → List PC} {xs : List Value} (h : R C (.sl n len f) xs) : ∃ v, xs = [v] := by cases h; exact ⟨_, rfl⟩
theorem aDy {C : Ctx} {l : List PC} {p : Prop} {h : HwS} (e : hwOf l = some (p, h)) (hp : p) {xs : List Value} (hr : RL C l xs) : RL C (hwL h) xs := by
 unfold hwOf at e
 split at e
 ·rename_i n f m g r
  cases e
  obtain ⟨h1, h2⟩ := hp
  unfold hwL
  dsimp only
  cases hr with
  | cons k1 hr => cases hr with
   | cons k2 hr =>
    obtain ⟨v, rfl⟩ := xO k1
    refine .cons (mM h1 k1) (.cons ?_ hr)
    rw [aHe]
    exact k2.sl_ext (fsF_row h2)
 ·cases e
theorem FunX.convI {P : Program} {I : World → Prop} {f : Nat} {new : Bool} {x : Nat} {t : TypeId} {l l1 l' : List PC} {O : List Acc → Option Res} {dev : Option (List Acc × List Acc)} {stp : List Acc → Prop} {args : List PV} {res : PV} (h : FunX P I f new [⟨x, t, l1, l'⟩] O dev stp args res)
  (hl : ∀ C xs, RL C l xs → RL C l1 xs) : FunX P I f new [⟨x, t, l, l'⟩] O dev stp args res := by
 intro w ok0 vs bl D X0 hM hold hst hpW hO hdv hnd hob hinj hv
 have hS : ∀ b, SX [⟨x, t, l, l'⟩] bl D b ↔ SX [⟨x, t, l1, l'⟩] bl D b := fun b => by
  constructor <;> rintro (h | ⟨o, ho, rfl⟩)
  ·exact .inl h
  ·obtain rfl := List.mem_singleton.1 ho
   exact .inr ⟨_, List.mem_singleton_self _, rfl⟩
  ·exact .inl h
  ·obtain rfl := List.mem_singleton.1 ho
   exact .inr ⟨_, List.mem_singleton_self _, rfl⟩
 refine (h w ok0 vs bl D X0 (fun w' hc => hM w' (hc.mono fun b _ hb => (hS b).2 hb)) (fun b hb => hold b ((hS b).2 hb)) hst hpW hO hdv hnd (fun o ho => ?_) (fun o ho o' ho' _ => ?_) hv).mono ?_
 ·obtain rfl := List.mem_singleton.1 ho
  obtain ⟨h1, cs, h2, h3⟩ := hob _ (List.mem_singleton_self _)
  exact ⟨h1, cs, h2, hl _ _ h3⟩
 ·obtain rfl := List.mem_singleton.1 ho
  obtain rfl := List.mem_singleton.1 ho'
  rfl
 ·rintro e w' ⟨h1, h2⟩
  refine ⟨h1.mono fun b _ hb => (hS b).2 hb, ?_⟩
  rcases h2 with ⟨val, rfl, h3, h4, h5⟩ | h2
  ·refine .inl ⟨val, rfl, h3, fun o ho => ?_, h5⟩
   obtain rfl := List.mem_singleton.1 ho
   exact h4 ⟨x, t, l1, l'⟩ (List.mem_singleton_self _)
  ·exact .inr h2
theorem onf_fun (k c : Int) : iW Tryz.prog ShaMem 77 true [.w (.agg (nZ (accA k c)))] (pvB true) := by
 have M := aUh (I := ShaMem)
 refine eF Tryz.func77 rfl rfl fJ (fun A hS hn hI => ?_)
 refine aB M hI hn (by rfl) (by kernel_rfl) ?_ ?_
 ·simp
 refine aB M hI hn (by rfl) (by kernel_rfl) ?_ ?_
 ·simp
 refine bC (fun a w hg => ⟨.inr rfl, _, ?_, hg⟩)
 refine aK (by rfl) (by simp) (by rfl) (by rfl) ?_
 refine congrArg pvB (?_ : (bF.toList == (⟨#[]⟩ : ByteArray).toList) = true)
 exact beq_self_eq_true _
def onfG : List PV → Option (Prop × PV)
 | [.w (.agg [.lit (.int .i64 _), .lit (.int .i64 b), .lit (.int .i64 _), .lit (.string s)])] => some (b = 2 ∧ s = bF, pvB true)
 | _ => none
theorem onf_spec : SpecOk Tryz.prog ShaMem 77 (bD true onfG) := by
 refine bM (aF Tryz.func77 (by kernel_rfl) rfl) (fun xs p r hg hp => ?_)
 unfold onfG at hg
 split at hg
 ·cases hg
  obtain ⟨rfl, rfl⟩ := hp
  exact onf_fun _ _
 ·cases hg
def dcL : List (Nat × Spec) := [(79, bD true frdG), (81, bD false pulG)]
theorem dc_ok : ∀ p ∈ dcL, SpecOk Tryz.prog ShaMem p.1 p.2 := by
 intro p hp
 simp only [dcL, List.mem_cons, List.not_mem_nil, or_false] at hp
 rcases hp with rfl | rfl
 ·exact frd_spec
 ·exact pul_spec
theorem dcM : Mach Tryz.prog ShaMem (find dcL) := ⟨dD dc_ok, iE⟩
structure CellOk (h : HwS) (c : Int) : Prop where
 ok : HwOk h
 ex : exB h.b 2 c = true
theorem aUt (h : HwS) (k c : Int) (t : Flt) (hc : CellOk h c) : FunX Tryz.prog ShaMem 78 false [⟨px, 54, hwL h, hwL h⟩] (fun _ => none) none (fun _ => False) [pv1 (.pt px 0 0), .w (.agg (nZ (accA k c))), .w (.agg (rF t))]
  (.tup [.agg (iT ⟨fG (dU h.b 2 c) t.noise, bF⟩), .one (.lit (.int .i64 0))]) := by
 have M := dcM
 refine iF Tryz.func78 rfl rfl rfl (fun A hn hI => ?_)
 refine aB M hI hn (by rfl) (by kernel_rfl) ?_ ?_
 ·simp
 refine aB M hI hn (by rfl) (by kernel_rfl) ?_ ?_
 ·simp
 refine aB M hI hn (by rfl) (by kernel_rfl) ?_ ?_
 ·simp
 refine bC (fun a w hg => ⟨.inr rfl, _, ⟨?_, (fun o ho => by obtain rfl := List.mem_singleton.1 ho; exact ⟨_, rfl, dA rfl⟩), fun p hp => (by cases hp)⟩, hg⟩)
 refine aK (by rfl) (by simp) (by rfl) (by rfl) ?_
 change PV.tup [.agg [.lit (.int .i64 (if exB (bJ h.b.length (bT h.b)) 2 c = true then fG (dU (bJ h.b.length (bT h.b)) 2 c) t.noise else 0)), .lit (.string bF)], .one (.lit (.int .i64 (if exB (bJ h.b.length (bT h.b)) 2 c = true then 0 else 1)))] = _
 rw [aT, hc.ex, if_pos rfl, if_pos rfl]
 rfl
theorem dpul_fun (h : HwS) (k c : Int) (t : Flt) (hc : CellOk h c) : FunX Tryz.prog ShaMem 80 false [⟨px, 54, hwL h, hwL { h with b := pulB h.b 2 c t.cut }⟩] (fun _ => none) none (fun _ => False) [pv1 (.pt px 0 0), .w (.agg (nZ (accA k c))), .w (.agg (rF t))]
  (.tup [.agg (iT iJ), .one (.lit (.int .i64 0))]) := by
 have M := dcM
 refine iF Tryz.func80 rfl rfl rfl (fun A hn hI => ?_)
 refine aB M hI hn (by rfl) (by kernel_rfl) ?_ ?_
 ·simp
 refine aB M hI hn (by rfl) (by kernel_rfl) ?_ ?_
 ·simp
  exact ⟨hc.ok.nb, hc.ok.nc, hc.ok.val, hc.ex⟩
 refine aI ?_
 refine aB M hI hn (by rfl) (by kernel_rfl) ?_ ?_
 ·simp
 refine aJ (by rfl) (fun hc => ?_) (fun hc => ?_)
 ·refine aS M hI hn (by rfl) (by kernel_rfl) ?_ ?_
  ·simp
  change Tri _ _ _ _ _
  refine aB M hI hn (by rfl) (by kernel_rfl) ?_ ?_
  ·simp
  refine aV (s' := ⟨[(6, none, pv1 (.pt 2 0 0)), (7, none, pvI 0)], [(px, none, 0, .box 54 (hwL { h with b := pulB h.b 2 c t.cut })), (2, none, 0, .box 79 (iT iJ))]⟩) (fun a w hg => (hg.reset (kT := [6, 7]) (kO := [px, 2]) (by rfl) (by simp)).same ?_ ?_) ?_
  ·exact .cons rfl (.cons rfl .nil)
  ·refine .cons (.box ?_) (.cons (.box rfl) .nil)
   change [PC.sl 1 (pulB (bJ h.b.length (bT h.b)) 2 c t.cut).length (bT (pulB (bJ h.b.length (bT h.b)) 2 c t.cut)), .sl 1 h.f.length (fsF h.f), .bs 16 h.r] = _
   rw [aT]
   rfl
  refine bC (fun a w hg => ⟨.inr rfl, _, ⟨?_, (fun o ho => by obtain rfl := List.mem_singleton.1 ho; exact ⟨_, rfl, dA rfl⟩), fun p hp => (by cases hp)⟩, hg⟩)
  refine aK (by rfl) (by simp) (by rfl) (by rfl) ?_
  rfl
 ·cases hc
def flA : List PV → Option (Acc × Flt)
 | [.w (.agg [.lit (.int .i64 k), .lit (.int .i64 b), .lit (.int .i64 c), .lit (.string s)]), .w (.agg [.lit (.bool cut), .lit (.int .i64 fb), .lit (.bool nz)])] => some (⟨k, b, c, s⟩, ⟨cut, fb, nz⟩)
 | _ => none
theorem aUi {ys : List PV} {a : Acc} {t : Flt} (h : flA ys = some (a, t)) : ys = [.w (.agg (nZ a)), .w (.agg (rF t))] := by
 unfold flA at h
 split at h
 ·cases h; rfl
 ·cases h
def aUu : List PC → List PV → Option (Prop × List PC × PV) := fun l ys => match hwOf l, flA ys with
 | some (p, h), some (a, t) => some (p ∧ a.bank = 2 ∧ a.bytes = bF ∧ CellOk h a.cell, hwL h, .tup [.agg (iT ⟨fG (dU h.b 2 a.cell) t.noise, bF⟩), .one (.lit (.int .i64 0))])
 | _, _ => none
def dpulG : List PC → List PV → Option (Prop × List PC × PV) := fun l ys => match hwOf l, flA ys with
 | some (p, h), some (a, t) => some (p ∧ a.bank = 2 ∧ a.bytes = bF ∧ CellOk h a.cell, hwL { h with b := pulB h.b 2 a.cell t.cut }, .tup [.agg (iT iJ), .one (.lit (.int .i64 0))])
 | _, _ => none
theorem aPm : SpecOk Tryz.prog ShaMem 78 (iM 54 aUu) := by
 refine zO (aF Tryz.func78 (by kernel_rfl) rfl) (fun l ys p l' r hg hp => ?_)
 unfold aUu at hg
 cases hq : hwOf l with
 | none => rw [hq] at hg; cases hg
 | some q =>
  cases hy : flA ys with
  | none => rw [hq, hy] at hg; cases hg
  | some y =>
   obtain ⟨p0, h⟩ := q
   obtain ⟨⟨k, b, c, s⟩, t⟩ := y
   rw [hq, hy] at hg
   cases hg
   obtain ⟨h0, h1, h2, h3⟩ := hp
   have h1' : b = 2 := h1
   have h2' : s = bF := h2
   subst h1' h2'
   rw [aUi hy]
   exact (aUt h k c t h3).convI (fun C xs hr => aDy hq h0 hr)
theorem aUv : SpecOk Tryz.prog ShaMem 80 (iM 54 dpulG) := by
 refine zO (aF Tryz.func80 (by kernel_rfl) rfl) (fun l ys p l' r hg hp => ?_)
 unfold dpulG at hg
 cases hq : hwOf l with
 | none => rw [hq] at hg; cases hg
 | some q =>
  cases hy : flA ys with
  | none => rw [hq, hy] at hg; cases hg
  | some y =>
   obtain ⟨p0, h⟩ := q
   obtain ⟨⟨k, b, c, s⟩, t⟩ := y
   rw [hq, hy] at hg
   cases hg
   obtain ⟨h0, h1, h2, h3⟩ := hp
   have h1' : b = 2 := h1
   have h2' : s = bF := h2
   subst h1' h2'
   rw [aUi hy]
   exact (dpul_fun h k c t h3).convI (fun C xs hr => aDy hq h0 hr)
def accsPC : List PC := [.lit .nilFunc, .lit .nilFunc, .lit (.func (.func 77) #[] #[]), .lit (.func (.func 78) #[] #[]), .lit (.func (.func 77) #[] #[]), .lit (.func (.func 80) #[] #[]),
 .lit (.func (.func 82) #[] #[]), .lit (.func (.func 83) #[] #[]), .lit (.func (.func 85) #[] #[]), .lit (.func (.func 86) #[] #[])]
theorem accs_fun : iW Tryz.prog ShaMem 61 true [] (.w (.agg accsPC)) := by
 intro w ok0 vs hI hv
 match vs, hv with
 | [], _ =>
  refine (aHx w).mono ?_
  rintro e w' ⟨rfl, hE⟩
  refine ⟨_, rfl, hE, .w (.agg ?_)⟩
  exact .cons (xs := [_]) (.lit rfl) (.cons (xs := [_]) (.lit rfl) (.cons (xs := [_]) (.lit rfl) (.cons (xs := [_]) (.lit rfl) (.cons (xs := [_]) (.lit rfl) (.cons (xs := [_]) (.lit rfl) (.cons (xs := [_]) (.lit rfl) (.cons (xs := [_]) (.lit rfl) (.cons (xs := [_]) (.lit rfl) (.cons (xs := [_]) (.lit rfl) .nil)))))))))
def accsG : List PV → Option (Prop × PV)
 | [] => some (True, .w (.agg accsPC))
 | _ => none
theorem aWn : SpecOk Tryz.prog ShaMem 61 (bD true accsG) := by
 refine bM (aF Tryz.func61 (by kernel_rfl) rfl) (fun xs p r hg hp => ?_)
 unfold accsG at hg
 split at hg
 ·cases hg; exact accs_fun
 ·cases hg
def ddL : List (Nat × Spec) := [(61, bD true accsG), (77, bD true onfG), (78, iM 54 aUu), (80, iM 54 dpulG)]
theorem dd_ok : ∀ p ∈ ddL, SpecOk Tryz.prog ShaMem p.1 p.2 := by
 intro p hp
 simp only [ddL, List.mem_cons, List.not_mem_nil, or_false] at hp
 rcases hp with rfl | rfl | rfl | rfl
 ·exact aWn
 ·exact onf_spec
 ·exact aPm
 ·exact aUv
theorem ddM : Mach Tryz.prog ShaMem (find ddL) := ⟨dD dd_ok, iE⟩
theorem aEk {h : HwS} {c : Int} {t : Flt} (k : CellOk h c) : dF h (accA 1 c) t = (h, if t.cut then iJ else ⟨fG (dU h.b 2 c) t.noise, bF⟩, 0) := by
 unfold dF accA
 dsimp only
 rw [if_pos rfl, if_pos rfl, if_pos k.ex]
theorem aAh {h : HwS} {c : Int} {t : Flt} (k : CellOk h c) : dF h (accA 2 c) t = (⟨pulB h.b 2 c t.cut, h.f, h.r⟩, iJ, 0) := by
 unfold dF accA
 dsimp only
 rw [if_neg (by decide), if_pos rfl, if_pos rfl, if_pos k.ex]
def ddPV (x : HwS × Res × Int) : PV := .tup [.agg (hwL x.1), .agg (iT x.2.1), .one (.lit (.int .i64 x.2.2))]
def ddSt (_ h' : HwS) (_ _ : Int) (t : Flt) (r : Res) : St := ⟨[(5, none, pv1 (.pt 2 0 0)), (6, none, pv1 (.pt 3 0 0)), (7, none, pv1 (.pt 4 0 0)), (10, none, pv1 (.pt 4001 0 0)), (11, none, pv1 (.pt 5011 0 0)), (12, none, pvI 0)], [(2, none, 0, .box 45 (rF t)), (3, none, 0, .box 54 [.lit (.slice none 0 0), .lit (.slice none 0 0), .bs 16 (List.replicate 16 0)]), (4, none, 0, .box 79 (iT iJ)), (4001, none, 0, .box 54 (hwL h')), (5011, none, 0, .box 79 (iT r))]⟩
theorem do1_fun (h : HwS) (c : Int) (t : Flt) (hc0 : CellOk h c) : iW Tryz.prog ShaMem 39 false [.w (.agg (hwL h)), .w (.agg (nZ (accA 1 c))), .w (.agg (rF t))] (ddPV (dF h (accA 1 c) t)) := by
 have M := ddM
 refine eF Tryz.func39 rfl rfl fJ (fun A hS hn hI => ?_)
 refine aB M hI hn (by rfl) (by kernel_rfl) ?_ ?_
 ·simp
 refine aB M hI hn (by rfl) (by kernel_rfl) ?_ ?_
 ·simp
 refine aI ?_
 refine aB M hI hn (by rfl) (by kernel_rfl) ?_ ?_
 ·simp
  exact ⟨fun _ _ => ⟨(by decide : (0 : Int) ≤ 1), (by decide : (1 : Int) < 5)⟩, fun _ _ => ⟨rfl, rfl⟩⟩
 refine aJ (by rfl) (fun hc => ?_) (fun hc => ?_)
 ·simp [accA] at hc
 refine aN ?_
 change Tri _ _ _ _ _
 refine aB M hI hn (by rfl) (by kernel_rfl) ?_ ?_
 ·simp
 refine aB M hI hn (by rfl) (by kernel_rfl) ?_ ?_
 ·simp
  exact ⟨⟨(by decide : (0 : Int) ≤ 1), (by decide : (1 : Int) < 5)⟩, rfl, rfl, hc0⟩
 refine aV (s' := ddSt h h 1 c t ⟨fG (dU h.b 2 c) t.noise, bF⟩) (fun a w hg => (hg.reset (kT := [5, 6, 7, 10, 11, 12]) (kO := [2, 3, 4, 4001, 5011]) (by rfl) (by simp)).same ?_ ?_) ?_
 ·exact .cons rfl (.cons rfl (.cons rfl (.cons rfl (.cons rfl (.cons rfl .nil)))))
 ·refine .cons (.box rfl) (.cons (.box rfl) (.cons (.box rfl) (.cons (.box ?_) (.cons (.box ?_) .nil))))
  ·change hwL ⟨bJ h.b.length (bT h.b), tX h.f.length (fsF h.f), h.r⟩ = _
   rw [aT, kP]
  ·change iT ⟨fG (dU (bJ h.b.length (bT h.b)) 2 c) t.noise, bF⟩ = _
   first | rw [aT] | rfl
 refine aI ?_
 refine aB M hI hn (by rfl) (by kernel_rfl) ?_ ?_
 ·simp
 refine aJ (by rfl) (fun hc => ?_) (fun hc => ?_)
 ·cases hc
 refine aN ?_
 change Tri _ _ _ _ _
 refine aI ?_
 refine aB M hI hn (by rfl) (by kernel_rfl) ?_ ?_
 ·simp
 refine aJ (by rfl) (fun hc => ?_) (fun hc => ?_)
 ·have hcut : t.cut = true := hc
  refine aS M hI hn (by rfl) (by kernel_rfl) ?_ ?_
  ·simp
  change Tri _ _ _ _ _
  refine aB M hI hn (by rfl) (by kernel_rfl) ?_ ?_
  ·simp
  rw [aEk hc0]
  refine bC (fun a w hg => ⟨.inr rfl, _, ?_, hg⟩)
  refine aK (by rfl) (by simp) (by rfl) (by rfl) ?_
  rw [hcut]
  rfl
 ·have hcut : t.cut = false := hc
  refine aN ?_
  change Tri _ _ _ _ _
  refine aB M hI hn (by rfl) (by kernel_rfl) ?_ ?_
  ·simp
  rw [aEk hc0]
  refine bC (fun a w hg => ⟨.inr rfl, _, ?_, hg⟩)
  refine aK (by rfl) (by simp) (by rfl) (by rfl) ?_
  rw [hcut]
  rfl
theorem do2_fun (h : HwS) (c : Int) (t : Flt) (hc0 : CellOk h c) : iW Tryz.prog ShaMem 39 false [.w (.agg (hwL h)), .w (.agg (nZ (accA 2 c))), .w (.agg (rF t))] (ddPV (dF h (accA 2 c) t)) := by
 have M := ddM
 refine eF Tryz.func39 rfl rfl fJ (fun A hS hn hI => ?_)
 refine aB M hI hn (by rfl) (by kernel_rfl) ?_ ?_
 ·simp
 refine aB M hI hn (by rfl) (by kernel_rfl) ?_ ?_
 ·simp
 refine aI ?_
 refine aB M hI hn (by rfl) (by kernel_rfl) ?_ ?_
 ·simp
  exact ⟨fun _ _ => ⟨(by decide : (0 : Int) ≤ 2), (by decide : (2 : Int) < 5)⟩, fun _ _ => ⟨rfl, rfl⟩⟩
 refine aJ (by rfl) (fun hc => ?_) (fun hc => ?_)
 ·simp [accA] at hc
 refine aN ?_
 change Tri _ _ _ _ _
 refine aB M hI hn (by rfl) (by kernel_rfl) ?_ ?_
 ·simp
 refine aB M hI hn (by rfl) (by kernel_rfl) ?_ ?_
 ·simp
  exact ⟨⟨(by decide : (0 : Int) ≤ 2), (by decide : (2 : Int) < 5)⟩, rfl, rfl, hc0⟩
 refine aV (s' := ddSt h ⟨pulB h.b 2 c t.cut, h.f, h.r⟩ 2 c t iJ) (fun a w hg => (hg.reset (kT := [5, 6, 7, 10, 11, 12]) (kO := [2, 3, 4, 4001, 5011]) (by rfl) (by simp)).same ?_ ?_) ?_
 ·exact .cons rfl (.cons rfl (.cons rfl (.cons rfl (.cons rfl (.cons rfl .nil)))))
 ·refine .cons (.box rfl) (.cons (.box rfl) (.cons (.box rfl) (.cons (.box ?_) (.cons (.box ?_) .nil))))
  ·change hwL ⟨pulB (bJ h.b.length (bT h.b)) 2 c t.cut, tX h.f.length (fsF h.f), h.r⟩ = _
   rw [aT, kP]
  ·change iT iJ = _
   first | rw [aT] | rfl
 refine aI ?_
 refine aB M hI hn (by rfl) (by kernel_rfl) ?_ ?_
 ·simp
 refine aJ (by rfl) (fun hc => ?_) (fun hc => ?_)
 ·cases hc
 refine aN ?_
 change Tri _ _ _ _ _
 refine aI ?_
 refine aB M hI hn (by rfl) (by kernel_rfl) ?_ ?_
 ·simp
 refine aJ (by rfl) (fun hc => ?_) (fun hc => ?_)
 ·have hcut : t.cut = true := hc
  refine aS M hI hn (by rfl) (by kernel_rfl) ?_ ?_
  ·simp
  change Tri _ _ _ _ _
  refine aB M hI hn (by rfl) (by kernel_rfl) ?_ ?_
  ·simp
  rw [aAh hc0]
  refine bC (fun a w hg => ⟨.inr rfl, _, ?_, hg⟩)
  refine aK (by rfl) (by simp) (by rfl) (by rfl) ?_
  rw [hcut]
  rfl
 ·have hcut : t.cut = false := hc
  refine aN ?_
  change Tri _ _ _ _ _
  refine aB M hI hn (by rfl) (by kernel_rfl) ?_ ?_
  ·simp
  rw [aAh hc0]
  refine bC (fun a w hg => ⟨.inr rfl, _, ?_, hg⟩)
  refine aK (by rfl) (by simp) (by rfl) (by rfl) ?_
  rw [hcut]
  rfl
structure GoodA (h : HwS) (a : Acc) : Prop where
 kind : a.kind = 1 ∨ a.kind = 2
 bank : a.bank = 2
 bytes : a.bytes = bF
 cell : CellOk h a.cell
theorem do_good {h : HwS} {a : Acc} (g : GoodA h a) (t : Flt) : iW Tryz.prog ShaMem 39 false [.w (.agg (hwL h)), .w (.agg (nZ a)), .w (.agg (rF t))] (ddPV (dF h a t)) := by
 obtain ⟨k, b, c, s⟩ := a
 obtain ⟨h1, h2, h3, h4⟩ := g
 dsimp only at h1 h2 h3 h4
 subst h2 h3
 rcases h1 with rfl | rfl
 ·exact do1_fun h c t h4
 ·exact do2_fun h c t h4
def ddG : List PV → Option (Prop × PV)
 | .w (.agg l) :: ys => (match hwOf l, flA ys with
  | some (p, h), some (a, t) => some (p ∧ GoodA h a, ddPV (dF h a t))
  | _, _ => none)
 | _ => none
theorem ddo_spec : SpecOk Tryz.prog ShaMem 39 (bD false ddG) := by
 refine bM (aF Tryz.func39 (by kernel_rfl) rfl) (fun xs p r hg hp => ?_)
 unfold ddG at hg
 split at hg
 ·rename_i l ys
  cases hq : hwOf l with
  | none => rw [hq] at hg; cases hg
  | some q =>
   cases hy : flA ys with
   | none => rw [hq, hy] at hg; cases hg
   | some y =>
    obtain ⟨p0, h⟩ := q
    obtain ⟨a, t⟩ := y
    rw [hq, hy] at hg
    cases hg
    rw [aUi hy]
    exact (do_good hp.2 t).args fun C vs hv => by
     match vs, hv with
     | [x, y, z], ⟨h0, h1, h2, _⟩ =>
      refine ⟨?_, h1, h2, trivial⟩
      cases h0 with
      | w h3 => cases h3 with
       | agg h4 => exact .w (.agg (aDy hq hp.1 h4))
 ·cases hg
theorem aTz {P : Program} {I : World → Prop} {fn : Func} {os : List Ob} {O : List Acc → Option Res} {dev : Option (List Acc × List Acc)} {stp : List Acc → Prop} {args : List PV} (hnb : Nat.ble args.length fn.ntmps = true)
  (hos : (os.all fun o => Nat.blt dx o.x) = true) {w : World} {ok0 : Nat → Prop} {vs : List Value} {bl : Nat → Nat} {D : Dv} {X0 : Nat → Prop}
  (hM : ∀ w', Chg (SX os bl D) w w' → I w') (hold : ∀ b, SX os bl D b → b < w.heap.size ∧ ¬ ok0 b) (hst : oP P D stp) (hpW : ∀ l X Y w w' chain, D.pan l X w chain → Chg X w w' → (∀ b, Y b → X b) → D.pan l Y w' chain) (hO : D.O = O)
  (hdv : ∀ p, dev = some p → D.inv p.1 X0 w) (hnd : dev = none → (∀ b, ¬ D.S b) ∧ ∀ l X w, ¬ D.inv l X w)
  (hob : ∀ o ∈ os, X0 (bl o.x) ∧ ∃ cs, Blk w (bl o.x) o.t cs ∧ RL { w, ok := ok0, env := fun _ => none } o.l cs.toList) (hinj : ∀ o ∈ os, ∀ o' ∈ os, bl o.x = bl o'.x → o.x = o'.x)
  (hv : Vals { w, ok := ok0, env := envX os bl dev D.hd } args vs) : AmbOk P I ⟨w, SX os bl D, ok0, fn.ntmps, extX os bl dev D.hd, D, stp, X0⟩ ∧ Gam ⟨w, SX os bl D, ok0, fn.ntmps, extX os bl dev D.hd, D, stp, X0⟩ ⟨slots 0 args, xB os O dev stp⟩ { tmps := vs.toArray ++ Array.replicate (fn.ntmps - vs.toArray.size) undef, defers := [] } w := by
 have hlen := hv.length
 have hn := Nat.le_of_ble_eq_true hnb
 have hgt : ∀ o ∈ os, dx < o.x := fun o ho => by
  have := List.all_eq_true.1 hos o ho
  have h3 : dx + 1 ≤ o.x := by simpa [Nat.blt] using this
  exact h3
 have hdxo : wC os dx = false := by
  cases h : wC os dx with
  | false => rfl
  | true =>
   obtain ⟨o, h1, h2⟩ := fU h
   have := hgt o h1; omega
 subst hO
 let A : Amb := ⟨w, SX os bl D, ok0, fn.ntmps, extX os bl dev D.hd, D, stp, X0⟩
 have hext : ∀ x hd, extX os bl dev D.hd x = some hd → (wC os x = true ∧ hd = kW (bl x)) ∨ (x = dx ∧ hd = D.hd ∧ dev.isSome = true) := by
  intro x hd h
  unfold extX at h
  split at h
  ·rename_i h1; cases h; exact .inl ⟨h1, rfl⟩
  ·rename_i h1 h2 h3; cases h; exact .inr ⟨beqT h3, rfl, rfl⟩
  ·cases h
 have hA : AmbOk P I A := ⟨hM, fun b h => .inl h, hold, hst, fun l X w' hi => by
  cases hd : dev with
  | none => exact ((hnd hd).2 l X w' hi).elim
  | some p => show extX os bl dev D.hd dx = _; unfold extX; rw [hdxo, hd]; rfl, hpW⟩
 have hown : ∀ b, ownB A (envX os bl dev D.hd) b → X0 b := by
  rintro b (h | ⟨x, ver, hd, h1, h2⟩)
  ·exact h
  ·unfold envX at h1
   cases hx : extX os bl dev D.hd x with
   | none => rw [hx] at h1; cases h1
   | some h =>
    rw [hx] at h1
    cases h1
    rcases hext x _ hx with ⟨h3, rfl⟩ | ⟨_, rfl, _⟩
    ·obtain ⟨o, h4, rfl⟩ := fU h3
     rw [gJ h2]
     exact (hob o h4).1
    ·rw [D.noBlk] at h2; cases h2
 have hhead : ∀ x p, find (xB os D.O dev stp) x = some p → (∃ o ∈ os, o.x = x ∧ p = (none, 0, .box o.t o.l)) ∨ (x = dx ∧ ∃ q, dev = some q ∧ p = (none, 0, .dev D.O stp q.1)) := by
  intro x p h
  unfold xB at h
  cases hd : dev with
  | none => rw [hd] at h; exact .inl (xX h)
  | some q =>
   rw [hd] at h
   by_cases hx : dx = x
   ·subst hx; rw [aP] at h; cases h; exact .inr ⟨rfl, q, rfl, rfl⟩
   ·rw [aO _ _ hx] at h; exact .inl (xX h)
 have henv : ∀ o ∈ os, envX os bl dev D.hd o.x = some (0, kW (bl o.x)) := fun o ho => by
  unfold envX extX
  rw [vI ho]
  rfl
 have hle0 : ∀ {pv : PV} {v : Value}, RV { w, ok := ok0, env := envX os bl dev D.hd } pv v → RV (aY A w (envX os bl dev D.hd)) pv v := fun h => h.le ⟨Nat.le_refl _, fun b hlt ho => ⟨⟨.inl ho, fun x ver hd hx hb => by
   unfold envX at hx
   cases hx2 : extX os bl dev D.hd x with
   | none => rw [hx2] at hx; cases hx
   | some h =>
    rw [hx2] at hx
    cases hx
    rcases hext x _ hx2 with ⟨h3, rfl⟩ | ⟨_, rfl, _⟩
    ·obtain ⟨o, h4, rfl⟩ := fU h3
     have := gJ hb
     subst this
     exact (hold _ (.inr ⟨o, h4, rfl⟩)).2 ho
    ·rw [D.noBlk] at hb; cases hb⟩, rfl⟩, fun x ver hd h => ⟨ver, hd, h, Nat.le_refl _, fun _ => rfl⟩⟩
 have hg : Gam A ⟨slots 0 args, xB os D.O dev stp⟩ { tmps := vs.toArray ++ Array.replicate (fn.ntmps - vs.toArray.size) undef, defers := [] } w := by
  refine ⟨envX os bl dev D.hd, { chg := Chg.refl _ _, size := ?_, dom := fun x hx => ?_, objs := fun x g ver o h => ?_, live := fun x ver hd b h hb => ?_, inj := fun x y v1 h1 v2 h2 b hx hy hb1 hb2 => ?_, tmps := fun t g pv h hgt => ?_, defers := rfl, und := fun t pv h => (by obtain ⟨k, _, h2⟩ := kH h; cases h2), exts := fun x hd hx => ?_, dev := fun g ver O stp' l h _ => ?_ }⟩
  ·simp [A]; omega
  ·unfold envX extX
   have h1 : wC os x = false := by
    unfold xB at hx
    cases hd : dev with
    | none => rw [hd] at hx; exact lI hx
    | some q =>
     rw [hd] at hx
     by_cases hdx : dx = x
     ·subst hdx; exact hdxo
     ·rw [aO _ _ hdx] at hx; exact lI hx
   rw [h1]
   cases hd : dev with
   | none => rfl
   | some q =>
    have : Nat.beq x dx = false := by
     cases hb : Nat.beq x dx with
     | false => rfl
     | true =>
      obtain rfl := beqT hb
      unfold xB at hx
      rw [hd, aP] at hx
      cases hx
    rw [this]
    rfl
  ·rcases hhead x _ h with ⟨ob, h1, rfl, h2⟩ | ⟨rfl, q, h1, h2⟩
   ·cases h2
    obtain ⟨_, cs, h3, h4⟩ := hob ob h1
    refine ⟨kW (bl ob.x), henv ob h1, fun _ => ⟨_, cs, rfl, h3, ?_⟩⟩
    refine h4.le ⟨Nat.le_refl _, fun b hlt hok => ⟨⟨.inl hok, fun x ver hd hx hb => ?_⟩, rfl⟩, fun _ _ _ h => by cases h⟩
    have hx' : envX os bl dev D.hd x = some (ver, hd) := hx
    unfold envX at hx'
    cases hx2 : extX os bl dev D.hd x with
    | none => rw [hx2] at hx'; cases hx'
    | some h =>
     rw [hx2] at hx'
     cases hx'
     rcases hext x _ hx2 with ⟨h5, rfl⟩ | ⟨_, rfl, _⟩
     ·obtain ⟨o, h6, rfl⟩ := fU h5
      have := gJ hb
      subst this
      exact (hold _ (.inr ⟨o, h6, rfl⟩)).2 hok
     ·rw [D.noBlk] at hb; cases hb
   ·cases h2
    refine ⟨D.hd, ?_, fun _ => trivial⟩
    unfold envX extX
    rw [hdxo, h1]
    rfl
  ·unfold envX at h
   cases hx2 : extX os bl dev D.hd x with
   | none => rw [hx2] at h; cases h
   | some h' =>
    rw [hx2] at h
    cases h
    rcases hext x _ hx2 with ⟨h3, rfl⟩ | ⟨_, rfl, _⟩
    ·obtain ⟨o, h4, rfl⟩ := fU h3
     have := gJ hb
     subst this
     exact ⟨(hold _ (.inr ⟨o, h4, rfl⟩)).1, .inr ⟨.inr ⟨o, h4, rfl⟩, Nat.ble_eq_true_of_le (Nat.le_of_lt (hgt o h4))⟩⟩
    ·rw [D.noBlk] at hb; cases hb
  ·unfold envX at hx hy
   cases hx2 : extX os bl dev D.hd x with
   | none => rw [hx2] at hx; cases hx
   | some hx3 =>
    cases hy2 : extX os bl dev D.hd y with
    | none => rw [hy2] at hy; cases hy
    | some hy3 =>
     rw [hx2] at hx
     rw [hy2] at hy
     cases hx
     cases hy
     rcases hext x _ hx2 with ⟨h3, rfl⟩ | ⟨_, rfl, _⟩
     ·rcases hext y _ hy2 with ⟨h4, rfl⟩ | ⟨_, rfl, _⟩
      ·obtain ⟨o, h5, rfl⟩ := fU h3
       obtain ⟨o', h6, rfl⟩ := fU h4
       refine hinj o h5 o' h6 ?_
       rw [← gJ hb1, ← gJ hb2]
      ·rw [D.noBlk] at hb2; cases hb2
     ·rw [D.noBlk] at hb1; cases hb1
  ·obtain ⟨k, h1, h2⟩ := lM h
   obtain ⟨v, h3, h4⟩ := hv.at h2
   rw [Nat.zero_add] at h1
   subst h1
   have hk : t < vs.length := (List.getElem?_eq_some_iff.1 h3).1
   refine ⟨v, ?_, hle0 h4⟩
   rw [Array.getElem?_append_left (by simpa using hk)]
   simpa using h3
  ·refine ⟨?_, 0, hd, ?_, Nat.le_refl _, fun _ => rfl⟩
   ·rcases hext x hd hx with ⟨h3, _⟩ | ⟨rfl, _, _⟩
    ·obtain ⟨o, h4, rfl⟩ := fU h3
     exact Nat.ble_eq_true_of_le (Nat.le_of_lt (hgt o h4))
    ·exact Nat.ble_eq_true_of_le (Nat.le_refl _)
   ·show envX os bl dev D.hd x = some (0, hd)
    unfold envX
    have : extX os bl dev D.hd x = some hd := hx
    rw [this]
    rfl
  ·rcases hhead dx _ h with ⟨ob, h1, h2, _⟩ | ⟨_, q, h1, h2⟩
   ·have := hgt ob h1; omega
   ·cases h2
    exact ⟨rfl, rfl, D.grow _ _ _ _ _ (hdv q h1) (Chg.refl _ _) (fun b hb => .inl (hown b hb))⟩
 exact ⟨hA, hg⟩
def FunB (P : Program) (I : World → Prop) (f : Nat) (os : List Ob) (args : List PV) (res : Sum PV (List PanicEntry)) : Prop :=
 ∀ (w : World) (ok0 : Nat → Prop) (vs : List Value) (bl : Nat → Nat),
  (∀ w', Chg (SX os bl Dv.non) w w' → I w') → (∀ b, SX os bl Dv.non b → b < w.heap.size ∧ ¬ ok0 b) →
  (∀ o ∈ os, ∃ cs, Blk w (bl o.x) o.t cs ∧ RL { w, ok := ok0, env := fun _ => none } o.l cs.toList) → (∀ o ∈ os, ∀ o' ∈ os, bl o.x = bl o'.x → o.x = o'.x) →
  Vals { w, ok := ok0, env := envX os bl none Dv.non.hd } args vs →
  Calls P f vs.toArray w fun e w' => Chg (SX os bl Dv.non) w w' ∧ (∀ o ∈ os, ∃ cs, Blk w' (bl o.x) o.t cs ∧ RL { w := w', ok := qG w ok0 false, env := fun _ => none } o.l' cs.toList) ∧
   match res with
   | .inl r => ∃ val, e = .returned val ∧ RV { w := w', ok := qG w ok0 false, env := fun _ => none } r val
   | .inr chain => e = .panicked chain
def EndB (os : List Ob) (s : St) : Prop := ∀ o ∈ os, ∃ l, find s.o o.x = some (none, 0, .box o.t l) ∧ ExL s false l o.l'
def RQB (P : Program) (A : Amb) (fn : Func) (os : List Ob) (res : Sum PV (List PanicEntry)) : Exit → Act → World → Prop
 | .panic chain, a, w => a.defers = [] ∧ res = .inr chain ∧ ∃ s, EndB os s ∧ Gam A s a w
 | e, a, w => (e = .normal ∨ e = .ret) ∧ ∃ r, res = .inl r ∧ ∃ s, (aKl P fn false r s ∧ EndB os s) ∧ Gam A s a w
theorem funB_of {P : Program} {I : World → Prop} {f : Nat} {fn : Func} {c : Code} {os : List Ob} {args : List PV} {res : Sum PV (List PanicEntry)} (hf : P.funcs[f]? = some fn) (hb : fn.body = some c) (hnb : Nat.ble args.length fn.ntmps = true)
  (hos : (os.all fun o => Nat.blt dx o.x) = true)
  (hT : ∀ A : Amb, A.nt = fn.ntmps → AmbOk P I A → Tri P A ⟨slots 0 args, os.map (fun o => (o.x, none, 0, .box o.t o.l))⟩ c (RQB P A fn os res)) : FunB P I f os args res := by
 intro w ok0 vs bl hM hold hob hinj hv
 obtain ⟨hA, hg⟩ := aTz (fn := fn) (O := fun _ => none) (dev := none) (stp := fun _ => False) (X0 := fun _ => True) (D := Dv.non) hnb hos hM hold (oP.non P) (fun _ _ _ _ _ _ h => h.elim) rfl (fun p hp => by cases hp) (fun _ => ⟨fun _ h => h, fun _ _ _ h => h⟩) (fun o ho => ⟨trivial, hob o ho⟩) hinj hv
 generalize hAe : (⟨w, SX os bl Dv.non, ok0, fn.ntmps, extX os bl none Dv.non.hd, Dv.non, fun _ => False, fun _ => True⟩ : Amb) = A at hA hg
 have key : ∀ (s : St) (a' : Act) (w' : World) (env : Env), EndB os s → GamE A s a' w' env → OwnS A s env ∧ ∀ o ∈ os, ∃ cs, Blk w' (bl o.x) o.t cs ∧ RL { w := w', ok := qG w ok0 false, env := fun _ => none } o.l' cs.toList := by
  intro s a' w' env hE1 hE
  subst hAe
  have hbox : ∀ o ∈ os, env o.x = some (0, kW (bl o.x)) := fun o ho => by
   obtain ⟨l, hf', _⟩ := hE1 o ho
   obtain ⟨hd, h8, _⟩ := hE.objs o.x none 0 _ hf'
   have h9 : extX os bl none Dv.non.hd o.x = some (kW (bl o.x)) := by unfold extX; rw [vI ho]
   have := (hE.exts o.x _ h9).2.now h8
   rw [h8, this]
  have hS : OwnS (⟨w, SX os bl Dv.non, ok0, fn.ntmps, extX os bl none Dv.non.hd, Dv.non, fun _ => False, fun _ => True⟩ : Amb) s env := by
   intro x g ver e n len f0 hd b hfx hex hbx hs
   rcases hs with hs | ⟨o, ho, rfl⟩
   ·exact hs.elim
   ·obtain ⟨l, hf', _⟩ := hE1 o ho
    have := hE.inj x o.x ver hd 0 _ (bl o.x) hex (hbox o ho) hbx rfl
    subst this
    rw [hf'] at hfx
    cases hfx
  refine ⟨hS, fun o ho => ?_⟩
  obtain ⟨l, hf', hx⟩ := hE1 o ho
  obtain ⟨hd, h8, h9⟩ := hE.objs o.x none 0 _ hf'
  obtain ⟨g, cs, e1, h10, h11⟩ := h9 trivial
  rw [hbox o ho] at h8
  cases h8
  cases e1
  exact ⟨cs, h10, aLz hE hS hx h11⟩
 have hchg : ∀ {s : St} {a' : Act} {w' : World} {env : Env}, GamE A s a' w' env → Chg (SX os bl Dv.non) w w' := by
  intro s a' w' env hE
  subst hAe
  exact hE.chg
 have hnt : A.nt = fn.ntmps := by subst hAe; rfl
 have hst : A.stp = fun _ => False := by subst hAe; rfl
 refine calls_of_wp hf hb (wp_mono (hT A hnt hA _ w hg (fun chain a w hd h => ?_)) (fun e a' w' he => ?_))
 ·obtain ⟨l, h1, _⟩ := h
  rw [hst] at h1
  exact h1.elim
 cases e with
 | panic chain =>
  obtain ⟨hd, rfl, s, hE1, env, hE⟩ := he
  exact ⟨hd, hchg hE, (key s _ _ env hE1 hE).2, rfl⟩
 | exit id => obtain ⟨h1 | h1, _⟩ := he <;> cases h1
 | goto _ => obtain ⟨h1 | h1, _⟩ := he <;> cases h1
 | outgrown => obtain ⟨h1 | h1, _⟩ := he <;> cases h1
 | normal | ret =>
  obtain ⟨_, r, rfl, s, ⟨⟨v, h2, h3⟩, hE1⟩, env, hE⟩ := he
  obtain ⟨v', val, h5, h6, h7, _⟩ := zI hE h2
  subst h7
  obtain ⟨hS, hobs⟩ := key s _ _ env hE1 hE
  have hres := aUq hE hS h3 h6
  have hres2 : RV { w := w', ok := qG w ok0 false, env := fun _ => none } r val := by
   subst hAe
   exact hres
  exact ⟨hE.defers, val, h5, hchg hE, hobs, val, rfl, hres2⟩
end Go.Proofs.YtihghljfmlbfhaaGreatDoor.Pv
