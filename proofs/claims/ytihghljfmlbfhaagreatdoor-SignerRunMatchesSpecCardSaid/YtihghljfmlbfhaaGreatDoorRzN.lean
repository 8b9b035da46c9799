/-
  Several texts in one file: each has its own heading below.
-/
import Derived.Test.YtihghljfmlbfhaaGreatDoorRzM
import Derived.Test.YtihghljfmlbfhaaGreatDoorRzL
import Derived.Test.YtihghljfmlbfhaaGreatDoorRzK
import Derived.Deep.Cut
import Derived.Test.YtihghljfmlbfhaaGreatDoorRzE
import Derived.Test.YtihghljfmlbfhaaGreatDoorRzI
import Derived.Test.YtihghljfmlbfhaaGreatDoorRzF
import Derived.Test.YtihghljfmlbfhaaGreatDoorProg
set_option maxRecDepth 100000
set_option maxHeartbeats 4000000
namespace Go.Proofs.YtihghljfmlbfhaaGreatDoor
open Go.RowKit
theorem aNm (seed msg : List UInt8) (h n : Nat) (hn : n = 2 ^ h) (hh : h ≤ 4) (i : Nat) (hi : i < n) (w : World) (hv : seed.length = 16) (hm : msg.length = 16)  :
  Calls Tryz.prog 36 #[.agg (seed.map u8v).toArray, .int .i64 (h : Int), .int .i64 (i : Int), .agg (msg.map u8v).toArray] w (aMm w (i : Int) (mQ seed (i : Int) msg 68) (dI (cO seed n) i)) := by
 have hn16 : n ≤ 16 := by subst hn; exact rY h h (Nat.le_refl _) hh
 have hsh : wrap64 ((2 : Int) ^ h) = (n : Int) := by rw [yQ h hh, hn]
 have HV := hide (fun W => (fun W => sD h n hn hh W) W)
 have HK := hide (fun W (hE : Ext w W) => aGc seed h n hn hh W hv )
 have HP := hide (fun (A : Option Addr) (c : Nat) W (hE : Ext w W) (hD : Digs W (.slice A n c) (cO seed n)) => aNq n (cO seed n) i (.slice A n c) W (by rw [fF]; omega) (by rw [fF]; omega) (by rw [fF]; omega) hD)
 have HS := hide (fun W (hE : Ext w W) => aRe seed (i : Int) msg W  hv hm (by omega) (by omega))
 have hnI : ¬ (n : Int) = 0 := by omega
 have hnB : ((n : Int) == 0) = false := beq_eq_false_iff_ne.2 (by omega)
 have hi0 : ¬ (i : Int) < 0 := by omega
 have hi1 : ¬ (n : Int) ≤ (i : Int) := by omega
 have hi2 : (i : Int) < (n : Int) := by omega
 obtain ⟨chain, hchain⟩ : ∃ x, mQ seed (i : Int) msg 68 = x := ⟨_, rfl⟩
 obtain ⟨path, hpath⟩ : ∃ x, dI (cO seed n) i = x := ⟨_, rfl⟩
 rw [hchain] at HS ⊢
 rw [hpath] at HP ⊢
 obtain ⟨arr, harr⟩ : ∃ x, (seed.map u8v).toArray = x := ⟨_, rfl⟩
 obtain ⟨mrr, hmrr⟩ : ∃ x, (msg.map u8v).toArray = x := ⟨_, rfl⟩
 have HSZ := hide (show arr.size = 16 ∧ mrr.size = 16 from by rw [← harr, ← hmrr]; exact ⟨by simpa using hv, by simpa using hm⟩)
 rw [harr] at HK HS ⊢
 rw [hmrr] at HS ⊢
 have HZ := hide (show Ext w (((w.alloc (.cells arr 23)).alloc (.cells mrr 23)).alloc (.cells #[.int .i64 0, .slice none 0 0, .slice none 0 0] 32)) ∧ Blk (((w.alloc (.cells arr 23)).alloc (.cells mrr 23)).alloc (.cells #[.int .i64 0, .slice none 0 0, .slice none 0 0] 32)) w.heap.size 23 arr ∧
  Blk (((w.alloc (.cells arr 23)).alloc (.cells mrr 23)).alloc (.cells #[.int .i64 0, .slice none 0 0, .slice none 0 0] 32)) (w.heap.size + 1) 23 mrr ∧ Blk (((w.alloc (.cells arr 23)).alloc (.cells mrr 23)).alloc (.cells #[.int .i64 0, .slice none 0 0, .slice none 0 0] 32)) (w.heap.size + 1 + 1) 32 #[.int .i64 0, .slice none 0 0, .slice none 0 0]
  from ⟨(((Ext.refl w).alloc _).alloc _).alloc _, ((Blk.new w _ _).alloc _).alloc _, (Blk.new' _ _ _ (by simp)).alloc _, Blk.new' _ _ _ (by simp)⟩)
 clear hn hv hm harr hmrr hchain hpath hi
 go_enter Tryz.func36, Tryz.ntmps36
 go_upto_region 5 with (go_at_call 19; refine (aA HV _).mono ?_; rintro e wz ⟨rfl, rfl⟩)
 generalize hW0 : (((w.alloc (.cells arr 23)).alloc (.cells mrr 23)).alloc (.cells #[.int .i64 0, .slice none 0 0, .slice none 0 0] 32)) = W0 at *
 clear hW0 hsh
 go_wp2_with (first
  | (refine aZ (ty := 23) (t := 23) (x := .tmp 4) rfl rfl aC rfl (cs := arr) (aA HZ).2.1 (aA HSZ).1 ?_)
  | (go_at_call 27; refine (aA HK _ (aA HZ).1).mono ?_; rintro e w1 ⟨A1, c1, rfl, hG⟩; have H1 := hide (And.intro hG.digs hG.ext); clear hG)
  | (go_at_call 59; refine (aA HP A1 c1 _ ((aA HZ).1.trans (aA H1).2) (aA H1).1).mono ?_; rintro e w2 ⟨A2, c2, rfl, hG⟩; have HO2 := hide (fun k (hk : (Value.slice A2 path.length c2).ownBlock = some k) => show w.heap.size + 1 + 1 < k from by have := (hG.own.lt k hk).1; have := (aA HZ).2.2.2.lt; have := (aA H1).2.size'; omega); have H2 := hide (And.intro hG.digs ((aA H1).2.trans hG.ext)); clear hG)
  | (refine aZ (ty := 23) (t := 23) (x := .tmp 4) rfl rfl aC rfl (cs := arr) ((aA HZ).2.1.ext (aA H2).2) (aA HSZ).1 ?_)
  | (refine aZ (ty := 23) (t := 23) (x := .tmp 7) rfl rfl aC rfl (cs := mrr) ((aA HZ).2.2.1.ext (aA H2).2) (aA HSZ).2 ?_)
  | (go_at_call 60; refine (aA HS _ ((aA HZ).1.trans (aA H2).2)).mono ?_; rintro e w3 ⟨A3, c3, rfl, hG⟩; have HO3 := hide (fun k (hk : (Value.slice A3 68 c3).ownBlock = some k) => show w.heap.size + 1 + 1 < k from by have := (hG.own.lt k hk).1; have := (aA HZ).2.2.2.lt; have := (aA H2).2.size'; omega); have H3 := hide (And.intro hG.digs (And.intro ((aA H2).1.ext hG.ext) ((aA H2).2.trans hG.ext))); obtain ⟨q0, q1, q2, qf, ql⟩ := ((aA HZ).2.2.2.ext (aA H3).2.2).cells3; clear hG))
 refine bodyPost_ret (v := .tuple #[.agg #[.int .i64 (i : Int), .slice A3 68 c3, .slice A2 path.length c2], .int .i64 0]) (gG nC rfl ((((aA HZ).2.2.2.ext (aA H3).2.2).set_ 0 _).set_ 1 _ |>.set_ 2 _) rfl rfl rfl) rfl ?_
 have hc : Chg (fun k => k = w.heap.size + 1 + 1) w3 (((w3.setCell ⟨w.heap.size + 1 + 1, 0, none⟩ (.int .i64 (i : Int))).setCell ⟨w.heap.size + 1 + 1, 1, none⟩ (.slice A3 68 c3)).setCell ⟨w.heap.size + 1 + 1, 2, none⟩ (.slice A2 path.length c2)) := (((Chg.refl (fun k => k = w.heap.size + 1 + 1) w3).setCell (p := ⟨w.heap.size + 1 + 1, 0, none⟩) (.inl rfl) _).setCell (p := ⟨w.heap.size + 1 + 1, 1, none⟩) (.inl rfl) _).setCell (p := ⟨w.heap.size + 1 + 1, 2, none⟩) (.inl rfl) _
 refine ⟨_, rfl, ⟨_, _, rfl, ?_, ?_⟩, ((aA HZ).1.trans (aA H3).2.2).trans' hc (fun _ _ h => h) (fun i hi e => by omega), ⟨_, _, _, rfl, fun k hk => by have := aA HO3 k hk; omega, fun k hk => by have := aA HO2 k hk; omega⟩⟩
 ·exact (aA H3).1.chg hc (fun k hk e => by have := aA HO3 k hk; omega)
 ·exact (aA H3).2.1.chg hc (fun k hk e => by have := aA HO2 k hk; omega)
def S4 (w : World) (cv : Value) (c : List (List UInt8)) (dv : Value) (m : List UInt8) (W : World) : Prop := Ext w W ∧ Digs W cv c ∧ Reads W 1 dv 68 (fH (digC m) 68) ∧ Blk W (w.heap.size + 1) 23 (Array.replicate 16 (.int .u8 0))
theorem S4.ext {w : World} {cv : Value} {c : List (List UInt8)} {dv : Value} {m : List UInt8} {W W' : World} (h : S4 w cv c dv m W) (hE : Ext W W') : S4 w cv c dv m W' := ⟨h.1.trans hE, h.2.1.ext hE, h.2.2.1.ext hE, h.2.2.2.ext hE⟩
theorem S4.chg {w : World} {cv : Value} {c : List (List UInt8)} {dv : Value} {m : List UInt8} {W W' : World} {S : Nat → Prop} {B : Nat} (h : S4 w cv c dv m W) (hc : Chg S W W') (hS : ∀ k, S k → B ≤ k) (hB : w.heap.size + 1 < B) (hd : ∀ k, dv.ownBlock = some k → k < B) (hcv : ∀ k, cv.ownBlock = some k → k < B) : S4 w cv c dv m W' :=
 ⟨h.1.trans' hc (fun _ _ h => h.elim) (fun i hi e => by have := hS i e; omega), h.2.1.chg hc (fun k hk e => by have := hS k e; have := hcv k hk; omega), h.2.2.1.chg hc (fun k _ hk e => by have := hS k e; have := hd k hk; omega), h.2.2.2.chg hc (fun e => by have := hS _ e; omega)⟩
theorem aFu (m : List UInt8) (c : List (List UInt8)) (cv : Value) (w : World) (hm : m.length = 16) (hc : c.length = 68) (hD : Digs w cv c) :
  Calls Tryz.prog 28 #[.agg (m.map u8v).toArray, cv] w fun e w' => e = .returned (.tuple #[.agg ((iR m (eU c)).map u8v).toArray, .int .i64 0]) ∧ Ext w w' := by
 have hlt := hD.own_lt (by omega)
 obtain ⟨bc, oc, c', rfl, _, _, _, _⟩ := hD.at (k := 0) (by omega)
 have HDD := hide hD
 have HLT := hide hlt
 have HDg := hide (fun (W : World) => zL m W hm)
 have HA := hide (fun k (W : World) => aDn k (3 - digC m k) (eU c k) W (kK hD.1 k))
 have HW := hide (fun k (W : World) => xH (advS k (eU c k) (3 - digC m k)) W (fQ k _ (kK hD.1 k) _))
 have HL := hide (fun k => fQ k _ (kK hD.1 k) (3 - digC m k))
 have HCL := hide (fun k => kK hD.1 k)
 have HG := hide (fun k (hk : k < 68) => jM (digC m) hk)
 have H3' := hide (aEj m)
 have HE := hide (lQ (fun k => advS k (eU c k) (3 - digC m k)))
 have HEL := hide (kQ (fun k => advS k (eU c k) (3 - digC m k)) (aA HL) 68)
 have HP := hide (show fP 4 [mG (fun k => advS k (eU c k) (3 - digC m k)) 68] = iR m (eU c) ∧ (iR m (eU c)).length = 16 from ⟨rfl, bY _ _⟩)
 have HAT := hide (fun k (W : World) (hk : k < 68) (h : Digs W (.slice (some ⟨bc, oc, none⟩) c.length c') c) => show W.rangeAt bc (oc + k * 16) ((eU c k).map u8v) from by
  obtain ⟨b2, o2, c2, e, _, _, _, hr⟩ := h.at (k := k) (by omega)
  cases e
  rw [aKe (by omega)]
  exact hr)
 obtain ⟨F, hF⟩ : ∃ F, mG (fun k => advS k (eU c k) (3 - digC m k)) = F := ⟨_, rfl⟩
 have hF0 : F 0 = [] := by rw [← hF]; rfl
 rw [hF] at HE HEL HP
 obtain ⟨arr, harr⟩ : ∃ r, (m.map u8v).toArray = r := ⟨_, rfl⟩
 rw [harr] at HDg ⊢
 have hasz : arr.size = 16 := by rw [← harr]; simpa using hm
 obtain ⟨res, hres⟩ : ∃ r, iR m (eU c) = r := ⟨_, rfl⟩
 rw [hres] at HP ⊢
 have HD := hide (fun (W : World) (A : Option Addr) (c : Nat) (pv : Value) (h1 : Reads W 1 pv 1 [.slice A (F 68).length c]) (h2 : Reads W 1 (.slice A (F 68).length c) (F 68).length ((F 68).map u8v)) =>
  jK 4 [F 68] pv W (Parts.one h1 h2) (by simp) (fun p hp => by have := aA HEL; simp at hp; subst hp; omega))
 rw [hc] at HDD HLT HAT ⊢
 clear harr hres hF hm hD hlt
 go_enter Tryz.func28, Tryz.ntmps28
 go_wp2_with (refine aZ (ty := 23) (t := 23) (x := .tmp 2) rfl rfl aC rfl ((Blk.new w _ _).alloc _) hasz ?_)
 refine (aA HDg _).mono ?_
 rintro e w1 ⟨A0, c0, rfl, hr1, hE1⟩
 have hol := hr1.own_lt (by omega) (by omega)
 obtain ⟨b0, o0, cc, u, hv0, _⟩ := hr1.at1 (k := 0) (by omega)
 cases hv0
 have H1 := hide (show S4 w (.slice (some ⟨bc, oc, none⟩) 68 c') c (.slice (some ⟨b0, o0, none⟩) 68 c0) m w1 from ⟨(((Ext.refl w).alloc _).alloc _).trans hE1, (aA HDD).ext ((((Ext.refl w).alloc _).alloc _).trans hE1), hr1, (Blk.new' (w.alloc (.cells arr 23)) 23 (Array.replicate 16 (.int .u8 0)) (g := w.heap.size + 1) (by simp)).ext hE1⟩)
 have HOL := hide hol
 clear hr1 hE1 hol
 go_wp2_with fail
 go_loopw [7, 8] (fun b i wr => ∃ (k : Nat) (A : Option Addr) (c1 : Nat), k ≤ 68 ∧ i = .int .i64 k ∧ b = .slice A (16 * k) c1 ∧ Hid (GB w w1.heap.size b (16 * k) (F k) wr ∧ S4 w (.slice (some ⟨bc, oc, none⟩) 68 c') c (.slice (some ⟨b0, o0, none⟩) 68 c0) m wr)) (fun _ i _ => 68 - (intOf i).toNat)
 case atStart => exact ⟨0, none, 0, by omega, rfl, rfl, hide ⟨by rw [hF0]; exact GB.nil (aA H1).1 (aA H1).1.size' (Nat.le_refl _), aA H1⟩⟩
 case round =>
  obtain ⟨k, A, c1, hk, rfl, rfl, HI⟩ := hrel
  by_cases hlt : k < 68
  ·have HF : Hid (∀ W, S4 w (.slice (some ⟨bc, oc, none⟩) 68 c') c (.slice (some ⟨b0, o0, none⟩) 68 c0) m W → W.cell? ⟨b0, o0 + k, none⟩ = some (.int .i64 ((digC m k : Nat) : Int))) := hide (fun W hW => hW.2.2.1.at_ (aA HG k hlt))
   have HAT' := hide (fun (W : World) (h : S4 w (.slice (some ⟨bc, oc, none⟩) 68 c') c (.slice (some ⟨b0, o0, none⟩) 68 c0) m W) => aA HAT k W hlt h.2.1)
   have HAk := hide (fun W => aA HA k W (by omega) (by omega))
   have HWk := hide (aA HW k)
   have HLk := hide (aA HL k)
   have HCk := hide (show ((eU c k).map u8v).length = 16 from by rw [List.length_map]; exact aA HCL k)
   have HEk := hide (aA HE k)
   have h3 := aA H3' k
   have e3 : IntKind.i64.wrap (3 - ((digC m k : Nat) : Int)) = ((3 - digC m k : Nat) : Int) := by rw [IntKind.wrap_i64]; omega
   generalize hd : advS k (eU c k) (3 - digC m k) = d at *
   generalize digC m k = dk at *
   generalize hst : (eU c k).map u8v = st at *
   generalize 3 - dk = sk at *
   have hkI : (k : Int) < 68 := by omega
   clear hd hst
   go_upto_region 8 with fail
   refine wp_region_held_drew (S := S4 w (.slice (some ⟨bc, oc, none⟩) 68 c') c (.slice (some ⟨b0, o0, none⟩) 68 c0) m) (by kernel_rfl) ((aA HI).2.ext ((Ext.refl _).drew)) (fun hHeld => ?_)
   refine wpAnyH_take (i := 0) (v := ?_) rfl (by kernel_rfl) (by kernel_rfl) (by kernel_rfl) (fun _ _ _ h => h) (Or.inl ⟨by rfl, fun wz hSz => ?_⟩) (by assumption) ?_
   rotate_left
   ·(first | (go_simp; done) | (go_simp; with_reducible rfl) | (obtain f1 := (aA HF) wz hSz; clear hSz; first | (go_simp; done) | (go_simp; with_reducible rfl)))
   try simp only [Act.put, zA, zB, zC, zD, zF]
   refine wpAnyH_take (i := 1) (v := ?_) rfl (by kernel_rfl) (by kernel_rfl) (by kernel_rfl) (fun _ _ _ h => h) (Or.inl ⟨by rfl, fun wz hSz => ?_⟩) (by assumption) ?_
   rotate_left
   ·(first | (go_simp; done) | (go_simp; with_reducible rfl) | (obtain f1 := (aA HF) wz hSz; clear hSz; first | (go_simp; done) | (go_simp; with_reducible rfl)))
   try simp only [Act.put, zA, zB, zC, zD, zE, zF]
   refine wpAnyH_take (i := 2) (v := ?_) rfl (by kernel_rfl) (by kernel_rfl) (by kernel_rfl) (fun _ _ _ h => h) (Or.inl ⟨by rfl, fun wz hSz => ?_⟩) (by assumption) ?_
   rotate_left
   ·(first | (go_simp; done) | (go_simp; with_reducible rfl) | (obtain f1 := (aA HF) wz hSz; clear hSz; first | (go_simp; done) | (go_simp; with_reducible rfl)))
   try simp only [Act.put, zA, zB, zC, zD, zE, zF]
   refine wpAnyH_take (i := 3) (v := ?_) rfl (by kernel_rfl) (by kernel_rfl) (by kernel_rfl) (fun _ _ _ h => h) (Or.inl ⟨by rfl, fun wz hSz => ?_⟩) (by assumption) ?_
   rotate_left
   ·(first | (go_simp; done) | (go_simp; with_reducible rfl) | (obtain f1 := (aA HF) wz hSz; clear hSz; first | (go_simp; done) | (go_simp; with_reducible rfl)))
   try simp only [Act.put, zA, zB, zC, zD, zE, zF]
   refine wpAnyH_take (i := 4) (v := ?_) rfl (by kernel_rfl) (by kernel_rfl) (by kernel_rfl) (fun _ _ _ h => h) (Or.inl ⟨by rfl, fun wz hSz => ?_⟩) (by assumption) ?_
   rotate_left
   ·(first | (go_simp; done) | (go_simp; with_reducible rfl) | (obtain f1 := (aA HF) wz hSz; clear hSz; first | (go_simp; done) | (go_simp; with_reducible rfl)))
   try simp only [Act.put, zA, zB, zC, zD, zE, zF]
   refine wpAnyH_take (i := 5) (v := _) rfl (by kernel_rfl) (by kernel_rfl) (by kernel_rfl) (fun _ _ _ h => h) (ylm aC rfl (by rfl) rfl (aA HCk) (fun w' hw => aA HAT' w' hw)) (by assumption) ?_
   try simp only [Act.put, zA, zB, zC, zD, zE, zF]
   refine wpAnyH_take (i := 6) (v := ?_) rfl (by kernel_rfl) (by kernel_rfl) (by kernel_rfl) (fun _ _ _ h => h) (Or.inl ⟨by rfl, fun wz hSz => ?_⟩) (by assumption) ?_
   rotate_left
   ·(first | (go_simp; done) | (go_simp; with_reducible rfl) | (obtain f1 := (aA HF) wz hSz; clear hSz; first | (go_simp; done) | (go_simp; with_reducible rfl)))
   try simp only [Act.put, zA, zB, zC, zD, zE, zF]
   refine wpAnyH_take (i := 7) (v := ?_) rfl (by kernel_rfl) (by kernel_rfl) (by kernel_rfl) (fun _ _ _ h => h) (Or.inl ⟨by rfl, fun wz hSz => ?_⟩) (by assumption) ?_
   rotate_left
   ·(first | (go_simp; done) | (go_simp; with_reducible rfl) | (obtain f1 := (aA HF) wz hSz; clear hSz; first | (go_simp; done) | (go_simp; with_reducible rfl)))
   try simp only [Act.put, zA, zB, zC, zD, zE, zF]
   refine wpAnyH_take (i := 8) (v := ?_) rfl (by kernel_rfl) (by kernel_rfl) (by kernel_rfl) (fun _ _ _ h => h) (Or.inl ⟨by rfl, fun wz hSz => ?_⟩) (by assumption) ?_
   rotate_left
   ·(first | (go_simp; done) | (go_simp; with_reducible rfl) | (obtain f1 := (aA HF) wz hSz; clear hSz; first | (go_simp; done) | (go_simp; with_reducible rfl)))
   try simp only [Act.put, zA, zB, zC, zD, zE, zF]
   refine wpAnyH_take (i := 9) (v := ?_) rfl (by kernel_rfl) (by kernel_rfl) (by kernel_rfl) (fun _ _ _ h => h) (Or.inl ⟨by rfl, fun wz hSz => ?_⟩) (by assumption) ?_
   rotate_left
   ·(first | (go_simp; done) | (go_simp; with_reducible rfl) | (obtain f1 := (aA HF) wz hSz; clear hSz; first | (go_simp; done) | (go_simp; with_reducible rfl)))
   try simp only [Act.put, zA, zB, zC, zD, zE, zF]
   refine wpAnyH_take (i := 10) (v := ?_) rfl (by kernel_rfl) (by kernel_rfl) (by kernel_rfl) (fun _ _ _ h => h) (Or.inl ⟨by rfl, fun wz hSz => ?_⟩) (by assumption) ?_
   rotate_left
   ·(first | (go_simp; done) | (go_simp; with_reducible rfl) | (obtain f1 := (aA HF) wz hSz; clear hSz; first | (go_simp; done) | (go_simp; with_reducible rfl)))
   try simp only [Act.put, zA, zB, zC, zD, zE, zF]
   refine wpAnyH_ready (rs := [11]) (by kernel_rfl) (by simp) (AllReadyH.cons (o := _) rfl (fun K hK => ?_) AllReadyH.nil)
   try go_simp
   (refine (aA HAk _).mono ?_; rintro e w2 ⟨rfl, hE2⟩; have hS := hHeld.ext hE2; have H2 := hide (((Ext.refl wr).drew).trans hE2); clear hHeld hE2)
   refine hK.out _ _ ?_ (fun hHeld => ?_)
   ·exact hS
   clear hK K
   try simp only [Act.put, zA, zB, zC, zD, zE, zF]
   refine wpAnyH_ready (rs := [12]) (by kernel_rfl) (by simp) (AllReadyH.cons (o := _) rfl (fun K hK => ?_) AllReadyH.nil)
   try go_simp
   (refine (aA HWk _).mono ?_; rintro e w4 ⟨A4, c4, rfl, ho4, hE4⟩; have hS := hHeld.ext hE4; have H4 := hide (And.intro ho4 ((aA H2).trans hE4)); clear hHeld hE4 H2 ho4)
   refine hK.out _ _ ?_ (fun hHeld => ?_)
   ·exact hS
   clear hK K
   try simp only [Act.put, zA, zB, zC, zD, zE, zF]
   refine wpAnyH_ready (rs := [13]) (by kernel_rfl) (by simp) (AllReadyH.cons (o := _) rfl (fun K hK => ?_) AllReadyH.nil)
   (refine rV rfl rfl eG rfl ((aA HI).1.to (aA H4).2).own rfl (aA H4).1 (bP.u8 d) (by have := aA HLk; omega) ((aA HI).1.to (aA H4).2).room ?_; intro A' c5 w5 ho hc5 hv; have hS := hHeld.chg (B := w1.heap.size) hc5 (fun j hj => ((aA HI).1.own.lt j hj).1) (aA H1).2.2.2.lt (aA HOL) (fun j hj => by have := aA HLT j hj; have := (aA H1).1.size'; omega); have H5 := hide ((aA HI).1.step (aA H4).2 hc5 (l' := F k ++ d) (by rw [List.map_append]; exact ho)); clear ho hc5 hv hHeld)
   refine hK.out _ _ ?_ (fun hHeld => ?_)
   ·exact hS
   clear hK K
   try simp only [Act.put, zA, zB, zC, zD, zE, zF]
   refine wpAnyH_take (i := 14) (v := ?_) rfl (by kernel_rfl) (by kernel_rfl) (by kernel_rfl) (fun _ _ _ h => h) (Or.inl ⟨by rfl, fun wz hSz => ?_⟩) (by assumption) ?_
   rotate_left
   ·(first | (go_simp; done) | (go_simp; with_reducible rfl) | (obtain f1 := (aA HF) wz hSz; clear hSz; first | (go_simp; done) | (go_simp; with_reducible rfl)))
   try simp only [Act.put, zA, zB, zC, zD, zE, zF]
   refine wpAnyH_done (by kernel_rfl) ?_ _
   have H6 := hide hHeld
   clear hHeld
   go_wp2
   go_roundw
   case rel =>
    have e16 : 16 * k + d.length = 16 * (k + 1) := by have := aA HLk; omega
    refine ⟨k + 1, A', c5, by omega, by go_num, by rw [e16], hide ⟨?_, aA H6⟩⟩
    rw [aA HEk, ← e16]
    exact aA H5
   case measure => simp [intOf]; omega
  ·obtain rfl : k = 68 := by omega
   have HX := hide (show GB w w1.heap.size (.slice A (F 68).length c1) (F 68).length (F 68) wr from by rw [aA HEL]; exact (aA HI).1)
   have HZ2 := hide (aA HI).2.2.2.2
   have e68 : 16 * 68 = (F 68).length := (aA HEL).symm
   rw [e68]
   clear HI e68
   go_wp2_with (first
    | (go_at_call 45; refine (aA HD _ A c1 _ (Reads.new1 _ _ _) ((aA HX).reads.ext ((Ext.refl _).alloc _))).mono ?_; rintro e w5 ⟨rfl, hE5⟩; rw [(aA HP).1]; have H5 := hide (((Ext.refl wr).alloc _).trans hE5); clear hE5)
    | (refine aH (ty := 23) (t := 23) (x := .tmp 4) (y := .tmp 35) rfl rfl aC rfl rfl ((aA HZ2).ext (aA H5)) rfl (by simpa using (aA HP).2) (bG _) ?_; intro w7 hb7 hc7 hz7; have H7 := hide (And.intro hb7 hc7); clear hb7 hc7 hz7))
   refine bodyPost_ret (v := .tuple #[.agg (res.map u8v).toArray, .int .i64 0]) (gG aC rfl (aA H7).1 (by simpa using (aA HP).2) rfl rfl) rfl ⟨rfl, ?_⟩
   exact ((aA HX).ext.trans (aA H5)).trans' (aA H7).2 (fun _ _ h => h) (fun i hi e => by omega)
end Go.Proofs.YtihghljfmlbfhaaGreatDoor
namespace Go.Proofs.YtihghljfmlbfhaaGreatDoor.Pv
open Go.RowKit
structure Sig where
 index : Int
 chain : List (List UInt8)
 path : List (List UInt8)
 deriving Inhabited
def qF (s : Sig) : List PC := [.lit (.int .i64 s.index), .sl 16 s.chain.length (digF s.chain), .sl 16 s.path.length (digF s.path)]
def sK (seed : List UInt8) (h : Int) : List UInt8 × Int := if 0 ≤ h ∧ h ≤ 4 then (iC (cO seed (2 ^ h.toNat)), 0) else (z16, 1)
def sgnT (seed : List UInt8) (h i : Int) (m : List UInt8) : Sig × Int :=
 if ¬ (0 ≤ h ∧ h ≤ 4) ∨ i < 0 then (⟨0, [], []⟩, 1) else if i.toNat < 2 ^ h.toNat then (⟨i, mQ seed i m 68, dI (cO seed (2 ^ h.toNat)) i.toNat⟩, 0) else (⟨0, [], []⟩, 17)
theorem aRj (seed : List UInt8) (h : Int) : (sK seed h).1.length = 16 := by
 unfold sK
 split
 ·exact bW _
 ·rfl
theorem r_digs {C : Ctx} {v : Value} {l : List (List UInt8)} (h : Digs C.w v l) (hb : ∀ k, v.ownBlock = some k → C.ok k) : R C (.sl 16 l.length (digF l)) [v] :=
 .sl h.2 (fun g hg hl => ⟨hb g hg, h.2.own_lt (by omega) hl g hg⟩) (fun i hi => by
  rw [show iP l = l.flatMap aEi from rfl, aEb aEi 16 l (fun d hd => by simp [aEi, h.1 d hd]) i hi]
  unfold digF
  rw [zG, zH hi]
  have := RL.cons (C := C.cold) (R.bs (n := 16) (h.1 _ (List.getElem_mem hi))) RL.nil
  rw [List.append_nil] at this
  exact this)
def dgOf : PC → Option (Prop × List (List UInt8))
 | .sl 16 len f => some (aMp len f, rowD len f)
 | .lit (.slice none 0 0) => some (True, [])
 | _ => none
theorem dgOf_ok {C : Ctx} {c : PC} {xs : List Value} {p : Prop} {l : List (List UInt8)} (h : dgOf c = some (p, l)) (hp : p) (hr : R C c xs) : ∃ v, xs = [v] ∧ Digs C.w v l := by
 unfold dgOf at h
 split at h
 ·rename_i len f
  cases h
  cases hr with
  | sl hr hb he =>
   obtain ⟨e1, e2⟩ := aCo hr.1 he hp
   refine ⟨_, rfl, e2, ?_⟩
   rw [← e1, oW]
   exact hr
 ·cases h
  cases hr
  exact ⟨_, rfl, D16.nil, Reads.nil _ 16⟩
 ·cases h
theorem kY {C : Ctx} {bs : List UInt8} {v : Value} (h : RV C (.w (.agg [.bs 16 bs])) v) : bs.length = 16 ∧ v = .agg (bs.map u8v).toArray := rv_dig h
def rootG : List PV → Option (Prop × PV)
 | [.w (.agg [.bs 16 s]), .w (.one (.lit (.int .i64 h)))] => some (True, .tup [.agg [.bs 16 (sK s h).1], .one (.lit (.int .i64 (sK s h).2))])
 | _ => none
def aNb : List PV → Option (Prop × PV)
 | [.w (.agg [.bs 16 s]), .w (.one (.lit (.int .i64 h))), .w (.one (.lit (.int .i64 i))), .w (.agg [.bs 16 m])] => some (True, .tup [.agg (qF (sgnT s h i m).1), .one (.lit (.int .i64 (sgnT s h i m).2))])
 | _ => none
theorem nT {C : Ctx} {l : List PC} {cs : Array Value} {n : Int} (h : RL C l cs.toList) : RV C (.tup [.agg l, .one (.lit (.int .i64 n))]) (.tuple #[.agg cs, .int .i64 n]) :=
 .tup rfl (fun i x hx => by
  match i, hx with
  | 0, hx => cases hx; exact ⟨_, rfl, .agg h⟩
  | 1, hx => cases hx; exact ⟨_, rfl, .one (.lit rfl)⟩
  | i + 2, hx => cases hx)
theorem aIk : SpecOk Tryz.prog ShaMem 15 (bD true rootG) := by
 refine bM (aF Tryz.func15 (by kernel_rfl) rfl) (fun xs p r hg hp w ok0 vs hI hv => ?_)
 unfold rootG at hg
 split at hg
 ·rename_i sd h
  cases hg
  match vs, hv with
  | [v1, v2], ⟨k1, k2, _⟩ =>
   obtain ⟨l1, rfl⟩ := kY k1
   obtain rfl := k2.lit_inv
   have hlen := aRj sd h
   have key : Calls Tryz.prog 15 #[.agg (sd.map u8v).toArray, .int .i64 h] w fun e w' => e = .returned (.tuple #[.agg ((sK sd h).1.map u8v).toArray, .int .i64 (sK sd h).2]) ∧ Ext w w' := by
    by_cases ho : okH h
    ·obtain ⟨k, rfl, hk⟩ := vH h ho
     have e : sK sd (k : Int) = (iC (cO sd (2 ^ k)), 0) := by
      unfold sK
      rw [if_pos ⟨by omega, by omega⟩, Int.toNat_natCast]
     rw [e]
     exact aNo sd k _ rfl hk w l1
    ·have e : sK sd h = (z16, 1) := by
      unfold sK
      rw [if_neg (show ¬ (0 ≤ h ∧ h ≤ 4) from ho)]
     rw [e]
     exact aRc sd h w ho
   refine key.mono ?_
   rintro e w' ⟨rfl, hE⟩
   refine ⟨_, rfl, hE, nT ?_⟩
   have := RL.cons (C := { w := w', ok := fun b => (true = false ∧ ok0 b) ∨ w.heap.size ≤ b, env := fun _ => none }) (R.bs (n := 16) hlen) RL.nil
   rw [List.append_nil] at this
   exact this
 ·cases hg
theorem aDe {C : Ctx} {i : Int} {cv pv : Value} {chain path : List (List UInt8)} (h1 : Digs C.w cv chain) (h2 : Digs C.w pv path) (h3 : ∀ k, cv.ownBlock = some k → C.ok k) (h4 : ∀ k, pv.ownBlock = some k → C.ok k) : RL C (qF ⟨i, chain, path⟩) [.int .i64 i, cv, pv] :=
 .cons (xs := [_]) (.lit rfl) (.cons (xs := [_]) (r_digs h1 h3) (.cons (xs := [_]) (r_digs h2 h4) .nil))
theorem lW {C : Ctx} : RL C (qF ⟨0, [], []⟩) [.int .i64 0, .slice none 0 0, .slice none 0 0] :=
 aDe (Digs.nil _) (Digs.nil _) (fun _ h => by cases h) (fun _ h => by cases h)
theorem aIj : SpecOk Tryz.prog ShaMem 36 (bD true aNb) := by
 refine bM (aF Tryz.func36 (by kernel_rfl) rfl) (fun xs p r hg hp w ok0 vs hI hv => ?_)
 unfold aNb at hg
 split at hg
 ·rename_i sd h i m
  cases hg
  match vs, hv with
  | [v1, v2, v3, v4], ⟨k1, k2, k3, k4, _⟩ =>
   obtain ⟨l1, rfl⟩ := kY k1
   obtain rfl := k2.lit_inv
   obtain rfl := k3.lit_inv
   obtain ⟨l4, rfl⟩ := kY k4
   by_cases ho : okH h
   ·obtain ⟨k, rfl, hk⟩ := vH h ho
    by_cases hi : i < 0
    ·have e : sgnT sd (k : Int) i m = (⟨0, [], []⟩, 1) := by
      unfold sgnT
      rw [if_pos (.inr hi)]
     rw [e]
     refine (aBr sd m _ i w (.inr hi)).mono ?_
     rintro e w' ⟨rfl, hE⟩
     exact ⟨_, rfl, hE, nT lW⟩
    ·obtain ⟨j, rfl⟩ : ∃ j : Nat, i = (j : Int) := ⟨i.toNat, by omega⟩
     by_cases hj : j < 2 ^ k
     ·have e : sgnT sd (k : Int) (j : Int) m = (⟨(j : Int), mQ sd (j : Int) m 68, dI (cO sd (2 ^ k)) j⟩, 0) := by
       unfold sgnT
       rw [if_neg (by omega)]
       simp only [Int.toNat_natCast]
       rw [if_pos hj]
      rw [e]
      refine (aNm sd m k _ rfl hk j hj w l1 l4).mono ?_
      rintro e w' ⟨v, rfl, ⟨cv, pv, rfl, d1, d2⟩, hE, ⟨i', cv', pv', q, n1, n2⟩⟩
      cases q
      exact ⟨_, rfl, hE, nT (aDe d1 d2 (fun b hb => .inr (n1 b hb)) (fun b hb => .inr (n2 b hb)))⟩
     ·have e : sgnT sd (k : Int) (j : Int) m = (⟨0, [], []⟩, 17) := by
       unfold sgnT
       rw [if_neg (by omega)]
       simp only [Int.toNat_natCast]
       rw [if_neg hj]
      rw [e]
      refine (aNn sd m k _ rfl hk j w (by omega)).mono ?_
      rintro e w' ⟨rfl, hE⟩
      exact ⟨_, rfl, hE, nT lW⟩
   ·have e : sgnT sd h i m = (⟨0, [], []⟩, 1) := by
     unfold sgnT
     rw [if_pos (.inl ho)]
    rw [e]
    refine (aBr sd m h i w (.inl ho)).mono ?_
    rintro e w' ⟨rfl, hE⟩
    exact ⟨_, rfl, hE, nT lW⟩
 ·cases hg
theorem RL.map1 {C : Ctx} {c c' : PC} {l l' : List PC} {xs : List Value} (h : RL C (c :: l) xs) (h1 : ∀ ys, R C c ys → R C c' ys) (h2 : ∀ ys, RL C l ys → RL C l' ys) : RL C (c' :: l') xs := by
 cases h with
 | cons k1 k2 => exact .cons (h1 _ k1) (h2 _ k2)
theorem tY {C : Ctx} {c : PC} {xs : List Value} {p : Prop} {l : List (List UInt8)} (h : dgOf c = some (p, l)) (hp : p) (hr : R C c xs) : R C (.sl 16 l.length (digF l)) xs ∧ D16 l := by
 unfold dgOf at h
 split at h
 ·rename_i len f
  cases h
  have h2 := hr
  cases h2 with
  | sl hr2 hb he =>
   have hD := (aCo hr2.1 he hp).2
   refine ⟨?_, hD⟩
   rw [oW]
   refine hr.sl_ext (fun i hi => ?_)
   unfold digF
   rw [rowD, iQ len i _ hi]
   have := hp i hi
   have h3 := (he i hi)
   revert this
   generalize f i = c
   intro this
   unfold isDig at this
   split at this
   ·rw [beqT this]; rfl
   ·cases this
 ·cases h
  cases hr
  exact ⟨.sl (Reads.nil _ _) (fun g hg => by simp [Value.ownBlock] at hg) (fun i hi => by simp at hi), D16.nil⟩
 ·cases h
theorem Gam.boxTo {A : Amb} {s : St} {a : Act} {w : World} {b ty vr : Nat} {g : Option Bool} {l l' : List PC} (h : Gam A s a w) (hb : find s.o b = some (g, vr, .box ty l)) (hl : ∀ C xs, RL C l xs → RL C l' xs) :
  Gam A { t := s.t, o := (b, g, vr, .box ty l') :: s.o } a w := by
 obtain ⟨env, h⟩ := h
 refine ⟨env, { h with dom := fun x hf => ?_, objs := fun x g' ver o hf => ?_, tmps := fun t' g pv hf hg => h.tmps t' g pv hf hg, dev := fun g' ver O stp l hf hg => ?_ }⟩
 ·by_cases hx : b = x
  ·subst hx; rw [aP] at hf; cases hf
  ·rw [aO _ _ hx] at hf
   exact h.dom x hf
 ·by_cases hx : b = x
  ·subst hx
   rw [aP] at hf
   cases hf
   obtain ⟨hd, h4, h5⟩ := h.objs b _ _ _ hb
   exact ⟨hd, h4, fun hg => by
    obtain ⟨k, cs, e1, e2, e3⟩ := h5 hg
    exact ⟨k, cs, e1, e2, hl _ _ e3⟩⟩
  ·rw [aO _ _ hx] at hf
   exact h.objs x _ _ _ hf
 ·by_cases hx : b = dx
  ·subst hx; rw [aP] at hf; cases hf
  ·rw [aO _ _ hx] at hf
   exact h.dev _ _ _ _ _ hf hg
theorem r_nil {C : Ctx} {n : Nat} {f : Nat → List PC} {xs : List Value} (h : R C (.lit (.slice none 0 0)) xs) : R C (.sl n 0 f) xs := by
 cases h
 exact .sl (vs := []) (Reads.nil _ _) (fun g hg => by cases hg) (fun i hi => absurd hi (by omega))
def raGo (m : KuM) (bank : Int) : Nat → Nat → KuS → (Nat × Int) × KuS
 | 0, n, s => ((n, 0), s)
 | f + 1, n, s => if s.stop = true then ((n, 0), s)
  else if (bK m (Prg.read bank n) (bK m (Prg.pulses bank n) s).2).1 = true then raGo m bank f (n + 1) (bK m (Prg.read bank n) (bK m (Prg.pulses bank n) s).2).2
  else ((n, 12), (bK m (Prg.read bank n) (bK m (Prg.pulses bank n) s).2).2)
def raC (m : KuM) (bank : Int) (bits target : Nat) (s : KuS) : (Nat × Int) × KuS :=
 raGo m bank (target - (bK m (Prg.levelOf bank bits) s).1) (bK m (Prg.levelOf bank bits) s).1 (bK m (Prg.levelOf bank bits) s).2
theorem aJb (m : KuM) (bank : Int) : ∀ f n s, (raGo m bank f n s).2 = (bK m (Prg.raiseFrom bank f n) s).2 ∧ ((raGo m bank f n s).2.stop = false → (raGo m bank f n s).1 = (bK m (Prg.raiseFrom bank f n) s).1)
 | 0, n, s => ⟨rfl, fun _ => rfl⟩
 | f + 1, n, s => by
  rw [raGo, Prg.raiseFrom]
  by_cases hs : s.stop = true
  ·rw [if_pos hs]
   exact ⟨(oN m _ s hs).symm, fun h => by rw [hs] at h; cases h⟩
  ·rw [if_neg hs, eQ, eQ]
   by_cases ho : (bK m (Prg.read bank n) (bK m (Prg.pulses bank n) s).2).1 = true
   ·rw [if_pos ho, ho, if_pos rfl]
    exact aJb m bank f (n + 1) _
   ·rw [if_neg ho]
    have ho2 : (bK m (Prg.read bank n) (bK m (Prg.pulses bank n) s).2).1 = false := by simpa using ho
    rw [ho2, if_neg Bool.false_ne_true]
    exact ⟨rfl, fun _ => rfl⟩
theorem raC_eq (m : KuM) (bank : Int) (bits target : Nat) (s : KuS) : (raC m bank bits target s).2 = (bK m (Prg.raiseTo bank bits target) s).2 ∧ ((raC m bank bits target s).2.stop = false → (raC m bank bits target s).1 = (bK m (Prg.raiseTo bank bits target) s).1) := by
 unfold raC Prg.raiseTo
 rw [eQ]
 exact aJb m bank _ _ _
theorem aSb (m : KuM) (bank : Int) (f n : Nat) (s : KuS) : s.i ≤ (raGo m bank f n s).2.i := by rw [(aJb m bank f n s).1]; exact lC m _ _
theorem aRl (m : KuM) (bank : Int) (bits : Nat) (s : KuS) : (bK m (Prg.levelOf bank bits) s).1 ≤ bits := aTn (kE bank bits) m s
def aVj : List PV → Option (KuC × KuF)
 | [.w (.one (.lit (.int .i64 bank))), .w (.one (.lit (.int .i64 bits)))] => some (fun m s => HasB m s bank ∧ 0 ≤ bits ∧ bits ≤ 16, fun m s => ((bK m (Prg.levelOf bank bits.toNat) s).2, pvI ((bK m (Prg.levelOf bank bits.toNat) s).1 : Nat)))
 | _ => none
theorem aNt (m : KuM) (s : KuS) : SpecOk Tryz.prog ShaMem 34 (iM 71 (kuG m s aVj)) :=
 jT (aF Tryz.func34 (by kernel_rfl) rfl) (fun ys C F h => by
  unfold aVj at h
  split at h
  ·rename_i bank b
   cases h
   intro m s hok hC hi
   obtain ⟨k, rfl⟩ := Int.eq_ofNat_of_zero_le hC.2.1
   exact aRm bank k (by have := hC.2.2; omega) m s hok hC.1 hi
  ·cases h)
def kuL4 (m : KuM) (s : KuS) : List (Nat × Spec) := (34, iM 71 (kuG m s aVj)) :: kuL3 m s
theorem ku4_ok (m : KuM) (s : KuS) : ∀ p ∈ kuL4 m s, SpecOk Tryz.prog ShaMem p.1 p.2 := by
 intro p hp
 rcases List.mem_cons.1 hp with rfl | hp
 ·exact aNt m s
 ·exact ku3_ok m s p hp
theorem kuM4 (m : KuM) (s : KuS) : Mach Tryz.prog ShaMem (find (kuL4 m s)) := ⟨dD (ku4_ok m s), iE⟩
def aJo (m : KuM) (s : KuS) (bank : Int) (target n : Nat) : St := ⟨[(0, none, pv1 (.pt px 0 0)), (1, none, pvI bank), (3, none, pvI (target : Int)), (10, none, pvI (n : Int))], [(px, none, 0, .box 71 (kuP m s))]⟩
def ku_raSt1 (m : KuM) (q : Bool × KuS) (bank : Int) (target n : Nat) : St := ⟨[(0, none, pv1 (.pt px 0 0)), (1, none, pvI bank), (3, none, pvI (target : Int)), (10, none, pvI (n : Int)), (11, none, pvB q.1)], [(px, none, 0, .box 71 (kuP m q.2))]⟩
def raPV (p : Nat × Int) : PV := .tup [.one (.lit (.int .i64 (p.1 : Int))), .one (.lit (.int .i64 p.2))]
theorem aIm (bank : Int) (bits target : Nat) (hbt : bits ≤ 16) (htg : target ≤ 16) : FunK 35 [pvI bank, pvI (bits : Int), pvI (target : Int)] (fun m s => HasB m s bank) (fun m s => ((raC m bank bits target s).2, raPV (raC m bank bits target s).1)) := by
 intro m s0 hok0 hC0 hi
 dsimp only at hi ⊢
 obtain ⟨R, hR⟩ : ∃ R, raC m bank bits target s0 = R := ⟨_, rfl⟩
 rw [hR] at hi ⊢
 have hn0 := aRl m bank bits s0
 unfold raC at hR
 have hle0 : (bK m (Prg.levelOf bank bits) s0).2.i ≤ 1000000 := Nat.le_trans (aSb m bank _ _ _) (by rw [hR]; exact hi)
 have hok1 := lG (Prg.levelOf bank bits) hok0 hle0
 have hC1 := hC0.shp (jU m (Prg.levelOf bank bits) s0)
 refine iF Tryz.func35 rfl rfl rfl (fun A hn hI => ?_)
 have M := kuM4 m s0
 refine aB M hI hn (by rfl) (by kernel_rfl) ?_ ?_
 ·simp
 refine aB M hI hn (by rfl) (by kernel_rfl) ?_ ?_
 ·simp
  exact ⟨hok0, ⟨hC0, by omega⟩, hle0⟩
 refine aI ?_
 refine bI ?_
 refine aV (s' := aJo m (bK m (Prg.levelOf bank bits) s0).2 bank target (bK m (Prg.levelOf bank bits) s0).1) (fun a w hg => (hg.reset (kT := [0, 1, 3, 10]) (kO := [px]) (by rfl) (by simp)).same ?_ ?_) ?_
 ·exact .cons rfl (.cons rfl (.cons rfl (.cons rfl .nil)))
 ·exact .cons (.box rfl) .nil
 generalize bK m (Prg.levelOf bank bits) s0 = q0 at hR hn0 hok1 hC1 ⊢
 obtain ⟨n0, s1⟩ := q0
 dsimp only at hR hn0 hok1 hC1 ⊢
 refine fV (max n0 target) (fun n t => ∃ s, t = aJo m s bank target n ∧ KuOk m s ∧ HasB m s bank ∧ raGo m bank (target - n) n s = R) n0 ⟨_, rfl, hok1, hC1, hR⟩ (by omega) (fun n t hJ hnb => ?_)
 obtain ⟨s, rfl, hok, hC, hJ⟩ := hJ
 refine aI ?_
 refine aB M hI hn (by rfl) (by kernel_rfl) ?_ ?_
 ·simp
 refine aJ (by rfl) (fun hc => ?_) (fun hc => ?_)
 ·have hcc : (bif decide ((n : Int) < (target : Int)) then !s.stop else false) = true := hc
  have hn2 : n < target := by
   by_cases h : n < target
   ·exact h
   ·rw [decide_eq_false (by omega)] at hcc
    cases hcc
  rw [decide_eq_true (by omega)] at hcc
  have hst : s.stop = false := by simpa using hcc
  refine aN ?_
  change Tri _ _ _ _ _
  refine bI ?_
  rw [show target - n = (target - (n + 1)) + 1 by omega, raGo, if_neg (by rw [hst]; exact Bool.false_ne_true)] at hJ
  have hle : (bK m (Prg.read bank (n : Int)) (bK m (Prg.pulses bank (n : Int)) s).2).2.i ≤ 1000000 := by
   by_cases ho : (bK m (Prg.read bank (n : Int)) (bK m (Prg.pulses bank (n : Int)) s).2).1 = true
   ·rw [if_pos ho] at hJ
    exact Nat.le_trans (aSb m bank _ _ _) (by rw [hJ]; exact hi)
   ·rw [if_neg ho] at hJ
    rw [← hJ] at hi
    exact hi
  have hle1 : (bK m (Prg.pulses bank (n : Int)) s).2.i ≤ 1000000 := Nat.le_trans (lC m _ _) hle
  have hok2 := lG (Prg.pulses bank (n : Int)) hok hle1
  have hC2 := hC.shp (jU m (Prg.pulses bank (n : Int)) s)
  have M := kuM4 m s
  refine aB M hI hn (by rfl) (by kernel_rfl) ?_ ?_
  ·simp
   exact ⟨hok, ⟨hC, by omega⟩, hle1⟩
  refine aV (s' := aJo m (bK m (Prg.pulses bank (n : Int)) s).2 bank target n) (fun a w hg => (hg.reset (kT := [0, 1, 3, 10]) (kO := [px]) (by rfl) (by simp)).same ?_ ?_) ?_
  ·exact .cons rfl (.cons rfl (.cons rfl (.cons rfl .nil)))
  ·exact .cons (.box rfl) .nil
  generalize (bK m (Prg.pulses bank (n : Int)) s).2 = s2 at hJ hle hok2 hC2 ⊢
  have hok3 := lG (Prg.read bank (n : Int)) hok2 hle
  have hC3 := hC2.shp (jU m (Prg.read bank (n : Int)) s2)
  have M := kuM4 m s2
  refine aB M hI hn (by rfl) (by kernel_rfl) ?_ ?_
  ·simp
   exact ⟨hok2, ⟨hC2, by omega⟩, hle⟩
  refine aV (s' := ku_raSt1 m (bK m (Prg.read bank (n : Int)) s2) bank target n) (fun a w hg => (hg.reset (kT := [0, 1, 3, 10, 11]) (kO := [px]) (by rfl) (by simp)).same ?_ ?_) ?_
  ·exact .cons rfl (.cons rfl (.cons rfl (.cons rfl (.cons rfl .nil))))
  ·exact .cons (.box rfl) .nil
  generalize bK m (Prg.read bank (n : Int)) s2 = q at hJ hok3 hC3 ⊢
  obtain ⟨one, s3⟩ := q
  dsimp only at hok3 hC3 hJ ⊢
  refine aI ?_
  refine aB M hI hn (by rfl) (by kernel_rfl) ?_ ?_
  ·simp
  refine aJ (by rfl) (fun hc => ?_) (fun hc => ?_)
  ·have ho : one = false := by
    have hc' : (!one) = true := hc
    simpa using hc'
   subst ho
   rw [if_neg Bool.false_ne_true] at hJ
   rw [← hJ]
   refine aB M hI hn (by rfl) (by kernel_rfl) ?_ ?_
   ·simp
   refine bC (fun a w hg => ⟨.inr rfl, _, ⟨?_, (fun o ho => by obtain rfl := List.mem_singleton.1 ho; exact ⟨_, rfl, dA rfl⟩), fun p hp => (by cases hp)⟩, hg⟩)
   refine aK (by rfl) (by simp) (by rfl) (by rfl) ?_
   all_goals rfl
  ·have ho : one = true := by
    have hc' : (!one) = false := hc
    simpa using hc'
   subst ho
   rw [if_pos rfl] at hJ
   refine aN ?_
   change Tri _ _ _ _ _
   refine aS M hI hn (by rfl) (by kernel_rfl) ?_ ?_
   ·simp
   intro a w hg
   refine ⟨n + 1, _, by omega, by omega, ⟨_, rfl, hok3, hC3, hJ⟩, (hg.reset (kT := [0, 1, 3, 10]) (kO := [px]) (by rfl) (by simp)).same ?_ ?_⟩
   ·exact .cons rfl (.cons rfl (.cons rfl (.cons (by rw [bZ n (by omega)]) .nil)))
   ·exact .cons (.box rfl) .nil
 ·have hcc : (bif decide ((n : Int) < (target : Int)) then !s.stop else false) = false := hc
  have hE : R = ((n, 0), s) := by
   rw [← hJ]
   by_cases h : n < target
   ·rw [decide_eq_true (by omega)] at hcc
    have hst : s.stop = true := by simpa using hcc
    rw [show target - n = (target - (n + 1)) + 1 by omega, raGo, if_pos hst]
   ·rw [show target - n = 0 by omega]
    rfl
  rw [hE]
  refine dZ ?_
  change Tri _ _ _ _ _
  refine aB M hI hn (by rfl) (by kernel_rfl) ?_ ?_
  ·simp
  refine bC (fun a w hg => ⟨.inr rfl, _, ⟨?_, (fun o ho => by obtain rfl := List.mem_singleton.1 ho; exact ⟨_, rfl, dA rfl⟩), fun p hp => (by cases hp)⟩, hg⟩)
  refine aK (by rfl) (by simp) (by rfl) (by rfl) ?_
  all_goals rfl
def aVf : List PV → Option (KuC × KuF)
 | [.w (.one (.lit (.int .i64 bank))), .w (.one (.lit (.int .i64 bits))), .w (.one (.lit (.int .i64 target)))] => some (fun m s => HasB m s bank ∧ (0 ≤ bits ∧ bits ≤ 16) ∧ 0 ≤ target ∧ target ≤ 16, fun m s => ((raC m bank bits.toNat target.toNat s).2, raPV (raC m bank bits.toNat target.toNat s).1))
 | _ => none
theorem aFv (m : KuM) (s : KuS) : SpecOk Tryz.prog ShaMem 35 (iM 71 (kuG m s aVf)) :=
 jT (aF Tryz.func35 (by kernel_rfl) rfl) (fun ys C F h => by
  unfold aVf at h
  split at h
  ·rename_i bank b t
   cases h
   intro m s hok hC hi
   obtain ⟨k, rfl⟩ := Int.eq_ofNat_of_zero_le hC.2.1.1
   obtain ⟨j, rfl⟩ := Int.eq_ofNat_of_zero_le hC.2.2.1
   exact aIm bank k j (by have := hC.2.1.2; omega) (by have := hC.2.2.2; omega) m s hok hC.1 hi
  ·cases h)
theorem noM {I : World → Prop} : Mach Tryz.prog I (find ([] : List (Nat × Spec))) := ⟨fun f sp h => (by cases h), (by kernel_rfl)⟩
theorem fuse_fun {I : World → Prop} (b c : Int) : FunP Tryz.prog I 92 (Prg.fuse b c) [.w (.one .dv), pvI b, pvI c] pvI := by
 intro O l
 have M := noM (I := I)
 refine iF Tryz.func92 rfl rfl rfl (fun A hn hI => ?_)
 refine aB M hI hn (by rfl) (by kernel_rfl) ?_ ?_
 ·simp
 refine aB M hI hn (by rfl) (by kernel_rfl) ?_ ?_
 ·exact ⟨aSe (xQ _) (xQ _), trivial⟩
 refine bC (fun a w hg => ⟨.inr rfl, _, ⟨?_, (fun o ho => by cases ho), fun p hp => ?_⟩, hg⟩)
 rotate_left 1
 ·cases hp
  rfl
 refine aK (by rfl) (by simp) (by rfl) (by rfl) ?_
 rfl
theorem aSc {I : World → Prop} (b c : Int) : FunP Tryz.prog I 94 (Prg.pulse b c) [.w (.one .dv), pvI b, pvI c] (fun _ => .tup []) := by
 intro O l
 have M := noM (I := I)
 refine iF Tryz.func94 rfl rfl rfl (fun A hn hI => ?_)
 refine aS M hI hn (by rfl) (by kernel_rfl) ?_ ?_
 ·exact ⟨aSe (xQ _) (xQ _), trivial⟩
 intro a w hg
 refine ⟨.inl rfl, _, ⟨?_, (fun o ho => by cases ho), fun p hp => ?_⟩, hg⟩
 rotate_left 1
 ·cases hp
  rfl
 refine aK (by rfl) (by simp) (by rfl) (by rfl) ?_
 rfl
def decFP (p : Int → Int → Prg Int) : List PV → Option (Prop × Prg Int × (Int → PV))
 | [.w (.one (.lit (.int .i64 b))), .w (.one (.lit (.int .i64 c)))] => some (True, p b c, pvI)
 | _ => none
def decU (p : Int → Int → Prg Unit) (q : Int → Int → Prop) : List PV → Option (Prop × Prg Unit × (Unit → PV))
 | [.w (.one (.lit (.int .i64 b))), .w (.one (.lit (.int .i64 c)))] => some (q b c, p b c, fun _ => .tup [])
 | _ => none
theorem aTx {I : World → Prop} : SpecOk Tryz.prog I 92 (jL (decFP Prg.fuse)) :=
 jZ (aF Tryz.func92 (by kernel_rfl) rfl) (fun ys c p v h _ => by
  unfold decFP at h
  split at h
  ·cases h; exact fuse_fun _ _
  ·cases h)
theorem aOd {I : World → Prop} : SpecOk Tryz.prog I 94 (jL (decU Prg.pulse fun _ _ => True)) :=
 jZ (aF Tryz.func94 (by kernel_rfl) rfl) (fun ys c p v h _ => by
  unfold decU at h
  split at h
  ·cases h; exact aSc _ _
  ·cases h)
theorem qZ (l : List Int) (x : Int) : nonzero (l ++ [x]) = nonzero l + if x = 0 then 0 else 1 := by
 unfold nonzero
 rw [List.filter_append, List.length_append]
 by_cases h : x = 0 <;> simp [h]
theorem rZ (l : List Int) : nonzero l ≤ l.length := List.length_filter_le _ _
theorem aGn {l : List Int} {k : Nat} (h : k < l.length) : nonzero (l.take (k + 1)) = nonzero (l.take k) + if l.getD k 0 = 0 then 0 else 1 := by
 rw [List.take_add_one, zH h, zG, zH h]
 exact qZ _ _
theorem aCs {k : Nat} {f g : Nat → List PC} (h1 : ∀ i, i < k → (f i).all (dY false) = true) (h2 : (g 0).all (dY false) = true) : ∀ i, i < k + 1 → (appF k f g i).all (dY false) = true := fun i hi => by
 unfold appF
 by_cases h : i < k
 ·rw [if_pos h]; exact h1 i h
 ·obtain rfl : i = k := by omega
  rw [if_neg h, Nat.sub_self]; exact h2
def mjSt (l : List Int) (k : Nat) : St := ⟨[(0, none, pv1 (.sl 1 l.length (intF l))), (3, none, pvI (nonzero (l.take k))), (6, none, pv1 (.sl 1 l.length (intF l))), (7, none, pvI l.length), (8, none, pvI k)], []⟩
theorem maj_fun {I : World → Prop} (hI0 : ∀ w w', Ext w w' → I w → I w') (l : List Int) (hl : l.length ≤ 1000) : iW Tryz.prog I 93 true [pv1 (.sl 1 l.length (intF l))] (pvB (jD l)) := by
 have M := noM (I := I)
 refine eF Tryz.func93 rfl rfl hI0 (fun A hS hn hI => ?_)
 refine aB M hI hn (by rfl) (by kernel_rfl) ?_ ?_
 ·simp
 refine aB M hI hn (by rfl) (by kernel_rfl) ?_ ?_
 ·simp
 refine aI ?_
 refine aB M hI hn (by rfl) (by kernel_rfl) ?_ ?_
 ·simp
 refine bI ?_
 refine aV (s' := mjSt l 0) (fun a w hg => (hg.reset (kT := [0, 3, 6, 7, 8]) (kO := []) (by rfl) (by simp)).same ?_ ?_) ?_
 ·exact .cons rfl (.cons rfl (.cons rfl (.cons rfl (.cons rfl .nil))))
 ·exact .nil
 refine fV l.length (fun k s => s = mjSt l k) 0 rfl (by omega) (fun k s hJ hk => ?_)
 subst hJ
 refine aB M hI hn (by rfl) (by kernel_rfl) ?_ ?_
 ·simp
 refine aI ?_
 refine aJ (by rfl) (fun hc => ?_) (fun hc => ?_)
 ·have hk2 : k < l.length := by simpa using hc
  have hnk := aGn hk2
  have hnl := rZ (l.take k)
  rw [List.length_take] at hnl
  refine aN ?_
  change Tri _ _ _ _ _
  refine aI ?_
  refine bI ?_
  refine aB M hI hn (by rfl) (by kernel_rfl) ?_ ?_
  ·simp; omega
  refine aB M hI hn (by rfl) (by kernel_rfl) ?_ ?_
  ·simp
  refine aJ (by rfl) (fun hc => ?_) (fun hc => ?_)
  ·have hx : ¬ l.getD k 0 = 0 := by
    have h : (l.getD k 0 != 0) = true := hc
    simpa using h
   refine aS M hI hn (by rfl) (by kernel_rfl) ?_ ?_
   ·simp
   change Tri _ _ _ _ _
   refine aS M hI hn (by rfl) (by kernel_rfl) ?_ ?_
   ·simp
   intro a w hg
   refine ⟨k + 1, _, by omega, by omega, rfl, (hg.reset (kT := [0, 3, 6, 7, 8]) (kO := []) (by rfl) (by simp)).same ?_ ?_⟩
   ·refine .cons rfl (.cons ?_ (.cons rfl (.cons rfl (.cons (by rw [bZ k (by omega)]) .nil))))
    rw [bZ _ (by omega), hnk, if_neg hx]
   ·exact .nil
  ·have hx : l.getD k 0 = 0 := by
    have h : (l.getD k 0 != 0) = false := hc
    simpa using h
   refine aN ?_
   change Tri _ _ _ _ _
   refine aS M hI hn (by rfl) (by kernel_rfl) ?_ ?_
   ·simp
   intro a w hg
   refine ⟨k + 1, _, by omega, by omega, rfl, (hg.reset (kT := [0, 3, 6, 7, 8]) (kO := []) (by rfl) (by simp)).same ?_ ?_⟩
   ·refine .cons rfl (.cons ?_ (.cons rfl (.cons rfl (.cons (by rw [bZ k (by omega)]) .nil))))
    rw [hnk, if_pos hx, Nat.add_zero]
   ·exact .nil
 ·have hkk : k = l.length := by
   have : ¬ k < l.length := by simpa using hc
   omega
  subst hkk
  have hnl := rZ l
  refine dZ ?_
  change Tri _ _ _ _ _
  refine aB M hI hn (by rfl) (by kernel_rfl) ?_ ?_
  ·simp
  refine bC (fun a w hg => ⟨.inr rfl, _, ?_, hg⟩)
  refine aK (by rfl) (by simp) (by rfl) (by rfl) ?_
  refine congrArg pvB ?_
  rw [List.take_length]
  unfold jD
  have e : IntKind.i64.wrap (2 * (nonzero l : Int)) = 2 * (nonzero l : Int) := by rw [IntKind.wrap_i64]; omega
  have e2 : ∀ x : Int, decide (x > (l.length : Int)) = decide ((l.length : Int) < x) := fun x => rfl
  refine decide_eq_decide.2 ?_
  show IntKind.i64.wrap (2 * (nonzero l : Int)) > (l.length : Int) ↔ _
  rw [e]
  omega
def majG : List PV → Option (Prop × PV)
 | [.w (.one (.sl 1 n f))] => some (aEt n f ∧ n ≤ 1000, pvB (jD (wQ n f)))
 | _ => none
theorem maj_spec {I : World → Prop} (hI0 : ∀ w w', Ext w w' → I w → I w') : SpecOk Tryz.prog I 93 (bD true majG) := by
 refine bM (aF Tryz.func93 (by kernel_rfl) rfl) (fun xs p r hg hp => ?_)
 unfold majG at hg
 split at hg
 ·rename_i n f
  cases hg
  have h := maj_fun hI0 (wQ n f) (by rw [uY]; exact hp.2)
  rw [uY] at h
  intro w ok0 vs hI hV
  match vs, hV with
  | [v], ⟨k1, _⟩ => exact h w ok0 [v] hI ⟨.w (.one (k1.inv.sl_ext (intF_row hp.1))), trivial⟩
 ·cases hg
def rdL : List (Nat × Spec) := [(92, jL (decFP Prg.fuse)), (94, jL (decU Prg.pulse fun _ _ => True)), (93, bD true majG)]
theorem rd_ok {I : World → Prop} (hI0 : ∀ w w', Ext w w' → I w → I w') : ∀ p ∈ rdL, SpecOk Tryz.prog I p.1 p.2 := by
 intro p hp
 simp only [rdL, List.mem_cons, List.not_mem_nil, or_false] at hp
 rcases hp with rfl | rfl | rfl
 ·exact aTx
 ·exact aOd
 ·exact maj_spec hI0
theorem rdM {I : World → Prop} (hI0 : ∀ w w', Ext w w' → I w → I w') : Mach Tryz.prog I (find rdL) := ⟨dD (rd_ok hI0), iE⟩
def rdH (kd b c : Int) (l : List Acc) : Nat → List Acc
 | 0 => l
 | k + 1 => rdH kd b c l k ++ [⟨kd, b, 3 * c + k, bF⟩]
def rdV (O : List Acc → Option Res) (b c : Int) (l : List Acc) (k : Nat) : Int := (ans O (rdH 1 b c l (k + 1))).val
def rdVs (O : List Acc → Option Res) (b c : Int) (l : List Acc) : List Int := [rdV O b c l 0, rdV O b c l 1, rdV O b c l 2]
theorem go_read (O : List Acc → Option Res) (b c : Int) (l : List Acc) : go O (Prg.read b c) l = (jD (rdVs O b c l), rdH 1 b c l 3) := rfl
theorem xN (kd b c : Int) (l : List Acc) (k : Nat) : rdH kd b c l k <+: rdH kd b c l (k + 1) := List.prefix_append _ _
theorem aRz (kd b c : Int) (l : List Acc) : ∀ k, l <+: rdH kd b c l k
 | 0 => List.prefix_refl _
 | k + 1 => (aRz kd b c l k).trans (xN kd b c l k)
theorem rdH_le (kd b c : Int) (l : List Acc) {k : Nat} (hk : k < 3) : rdH kd b c l (k + 1) <+: rdH kd b c l 3 := by
 match k, hk with
 | 0, _ => exact (xN _ _ _ _ 1).trans (xN _ _ _ _ 2)
 | 1, _ => exact xN _ _ _ _ 2
 | 2, _ => exact List.prefix_refl _
theorem wrap3 {c : Int} {k : Nat} (hc : 0 ≤ c ∧ c ≤ 100000) (hk : k < 3) : IntKind.i64.wrap (IntKind.i64.wrap (3 * c) + (k : Int)) = 3 * c + k := by
 rw [IntKind.wrap_i64, IntKind.wrap_i64]; omega
def rdSt (O : List Acc → Option Res) (stp : List Acc → Prop) (b c : Int) (l : List Acc) (k : Nat) : St := ⟨[(0, none, .w (.one .dv)), (1, none, pvI b), (2, none, pvI c), (7, none, pv1 (.ow 5009 0 1 0 k)), (9, none, pvI k)],
 [(dx, none, 0, .dev O stp (rdH 1 b c l k)), (5009, none, 0, .arr 3 1 k (intF (rdVs O b c l)))]⟩
theorem read_fun {I : World → Prop} (hI0 : ∀ w w', Ext w w' → I w → I w') (b c : Int) (hbc : 0 ≤ c ∧ c ≤ 100000) : FunP Tryz.prog I 69 (Prg.read b c) [.w (.one .dv), pvI b, pvI c] pvB := by
 intro O l
 have M := rdM hI0
 have hbt : Tryz.prog.types[3].bytes = 8 := by kernel_rfl
 have hst : Tryz.prog.types[3].size = 1 := by kernel_rfl
 refine iF Tryz.func69 rfl rfl rfl (fun A hn hI => ?_)
 generalize hstp : (fun h => l <+: h ∧ h <+: (go O (Prg.read b c) l).2) = stp
 refine aB M hI hn (by rfl) (by kernel_rfl) ?_ ?_
 ·simp
 refine aB M hI hn (by rfl) (by kernel_rfl) ?_ ?_
 ·simp
 refine aI ?_
 refine aB M hI hn (by rfl) (by kernel_rfl) ?_ ?_
 ·simp
 refine bI ?_
 refine aV (s' := rdSt O stp b c l 0) (fun a w hg => ((hg.nilRow (x := 5009) (e := 3) (n := 1) (t := 7) (by rfl) (by rfl)).reset (kT := [0, 1, 2, 7, 9]) (kO := [900000, 5009]) (by rfl) (by simp)).same ?_ ?_) ?_
 ·exact .cons rfl (.cons rfl (.cons rfl (.cons rfl (.cons rfl .nil))))
 ·exact .cons (.dev rfl) (.cons (.arr rfl (fun i hi => by omega)) .nil)
 refine fV 3 (fun k s => s = rdSt O stp b c l k) 0 rfl (by omega) (fun k s hJ hk => ?_)
 subst hJ
 refine aB M hI hn (by rfl) (by kernel_rfl) ?_ ?_
 ·simp
 refine aI ?_
 refine aJ (by rfl) (fun hc => ?_) (fun hc => ?_)
 ·have hk2 : k < 3 := by have := of_decide_eq_true hc; omega
  have hw := wrap3 hbc hk2
  refine aN ?_
  change Tri _ _ _ _ _
  refine aI ?_
  refine bI ?_
  refine aB M hI hn (by rfl) (by kernel_rfl) ?_ ?_
  ·simp
  refine aS M hI hn (by rfl) (by kernel_rfl) ?_ ?_
  ·simp
   refine ⟨fun h h1 h2 _ => ?_, by rw [hbt]; omega⟩
   rw [hw] at h2
   rw [← hstp]
   exact ⟨(aRz 1 b c l k).trans h1, h2.trans (rdH_le 1 b c l hk2)⟩
  change Tri _ _ _ _ _
  refine aS M hI hn (by rfl) (by kernel_rfl) ?_ ?_
  ·simp
  intro a w hg
  refine ⟨k + 1, _, by omega, by omega, rfl, (hg.reset (kT := [0, 1, 2, 7, 9]) (kO := [900000, 5009]) (by rfl) ?_).same ?_ ?_⟩
  ·simp only [All, and_true, List.append_nil, List.nil_append]
   exact aCs (fun i hi => rfl) rfl
  ·exact .cons rfl (.cons rfl (.cons rfl (.cons rfl (.cons (by rw [bZ k (by omega)]) .nil))))
  ·refine .cons (.dev ?_) (.cons (.arr rfl (aMi (fun i hi => rfl) ?_)) .nil)
   ·rw [hw]; rfl
   ·rw [hw]
    match k, hk2 with
    | 0, _ => rfl
    | 1, _ => rfl
    | 2, _ => rfl
 ·have hkk : k = 3 := by
   have := of_decide_eq_false hc; omega
  subst hkk
  refine dZ ?_
  change Tri _ _ _ _ _
  refine aB M hI hn (by rfl) (by kernel_rfl) ?_ ?_
  ·simp
   exact fun i _ => one_cold rfl
  refine bC (fun a w hg => ⟨.inr rfl, _, ⟨?_, (fun o ho => by cases ho), fun p hp => ?_⟩, hg⟩)
  rotate_left 1
  ·cases hp
   rfl
  refine aK (by rfl) (by simp) (by rfl) (by rfl) ?_
  rw [go_read]
  have := aIs (rdVs O b c l)
  simp only [Nat.zero_add]
  exact congrArg (fun x => pvB (jD x)) this
def plSt (O : List Acc → Option Res) (stp : List Acc → Prop) (b c : Int) (l : List Acc) (k : Nat) : St := ⟨[(0, none, .w (.one .dv)), (1, none, pvI b), (2, none, pvI c), (7, none, pvI k)], [(dx, none, 0, .dev O stp (rdH 2 b c l k))]⟩
theorem aOb {I : World → Prop} (hI0 : ∀ w w', Ext w w' → I w → I w') (b c : Int) (hbc : 0 ≤ c ∧ c ≤ 100000) : FunP Tryz.prog I 70 (Prg.pulses b c) [.w (.one .dv), pvI b, pvI c] (fun _ => .tup []) := by
 intro O l
 have M := rdM hI0
 refine iF Tryz.func70 rfl rfl rfl (fun A hn hI => ?_)
 generalize hstp : (fun h => l <+: h ∧ h <+: (go O (Prg.pulses b c) l).2) = stp
 refine aB M hI hn (by rfl) (by kernel_rfl) ?_ ?_
 ·simp
 refine bI ?_
 refine aV (s' := plSt O stp b c l 0) (fun a w hg => (hg.reset (kT := [0, 1, 2, 7]) (kO := [900000]) (by rfl) (by simp)).same ?_ ?_) ?_
 ·exact .cons rfl (.cons rfl (.cons rfl (.cons rfl .nil)))
 ·exact .cons (.dev rfl) .nil
 refine fV 3 (fun k s => s = plSt O stp b c l k) 0 rfl (by omega) (fun k s hJ hk => ?_)
 subst hJ
 refine aB M hI hn (by rfl) (by kernel_rfl) ?_ ?_
 ·simp
 refine aI ?_
 refine aJ (by rfl) (fun hc => ?_) (fun hc => ?_)
 ·have hk2 : k < 3 := by have := of_decide_eq_true hc; omega
  have hw := wrap3 hbc hk2
  refine aN ?_
  change Tri _ _ _ _ _
  refine aI ?_
  refine bI ?_
  refine aB M hI hn (by rfl) (by kernel_rfl) ?_ ?_
  ·simp
  refine aS M hI hn (by rfl) (by kernel_rfl) ?_ ?_
  ·simp
   refine fun h h1 h2 _ => ?_
   rw [hw] at h2
   rw [← hstp]
   exact ⟨(aRz 2 b c l k).trans h1, h2.trans (rdH_le 2 b c l hk2)⟩
  change Tri _ _ _ _ _
  refine aS M hI hn (by rfl) (by kernel_rfl) ?_ ?_
  ·simp
  intro a w hg
  refine ⟨k + 1, _, by omega, by omega, rfl, (hg.reset (kT := [0, 1, 2, 7]) (kO := [900000]) (by rfl) (by simp)).same ?_ ?_⟩
  ·exact .cons rfl (.cons rfl (.cons rfl (.cons (by rw [bZ k (by omega)]) .nil)))
  ·refine .cons (.dev ?_) .nil
   rw [hw]; rfl
 ·have hkk : k = 3 := by
   have := of_decide_eq_false hc; omega
  subst hkk
  refine dZ ?_
  change Aft _ _ _
  intro a w hg
  refine ⟨.inl rfl, _, ⟨?_, (fun o ho => by cases ho), fun p hp => ?_⟩, hg⟩
  rotate_left 1
  ·cases hp
   rfl
  refine aK (by rfl) (by simp) (by rfl) (by rfl) ?_
  rfl
def decR : List PV → Option (Prop × Prg Bool × (Bool → PV))
 | [.w (.one (.lit (.int .i64 b))), .w (.one (.lit (.int .i64 c)))] => some (0 ≤ c ∧ c ≤ 100000, Prg.read b c, pvB)
 | _ => none
theorem aRx {I : World → Prop} (hI0 : ∀ w w', Ext w w' → I w → I w') : SpecOk Tryz.prog I 69 (jL decR) :=
 jZ (aF Tryz.func69 (by kernel_rfl) rfl) (fun ys c p v h hc => by
  unfold decR at h
  split at h
  ·cases h; exact read_fun hI0 _ _ hc
  ·cases h)
theorem aJc {I : World → Prop} (hI0 : ∀ w w', Ext w w' → I w → I w') : SpecOk Tryz.prog I 70 (jL (decU Prg.pulses fun _ c => 0 ≤ c ∧ c ≤ 100000)) :=
 jZ (aF Tryz.func70 (by kernel_rfl) rfl) (fun ys c p v h hc => by
  unfold decU at h
  split at h
  ·cases h; exact aOb hI0 _ _ hc
  ·cases h)
theorem tri_mid {P : Program} {A : Amb} {s : St} {Q : Exit → Act → World → Prop} {x y : Code} (J : St → Prop) (h : Tri P A s x (Exit.then (fun a w => ∃ s', J s' ∧ Gam A s' a w) Q)) (h2 : ∀ s', J s' → Tri P A s' y Q) : Tri P A s (.seq x y) Q := fun a w hg hPQ =>
 wp_seq (wp_mono (h a w hg (fun chain a w hd hp => hPQ chain a w hd hp)) (fun e a' w' he => by
  cases e <;> first | exact he | (obtain ⟨s', h3, h4⟩ := he; exact h2 s' h3 a' w' h4 hPQ)))
def lvL : List (Nat × Spec) := (69, jL decR) :: (70, jL (decU Prg.pulses fun _ c => 0 ≤ c ∧ c ≤ 100000)) :: rdL
theorem lv_ok {I : World → Prop} (hI0 : ∀ w w', Ext w w' → I w → I w') : ∀ p ∈ lvL, SpecOk Tryz.prog I p.1 p.2 := by
 intro p hp
 simp only [lvL, List.mem_cons] at hp
 rcases hp with rfl | rfl | hp
 ·exact aRx hI0
 ·exact aJc hI0
 ·exact rd_ok hI0 p hp
theorem lvM {I : World → Prop} (hI0 : ∀ w w', Ext w w' → I w → I w') : Mach Tryz.prog I (find lvL) := ⟨dD (lv_ok hI0), iE⟩
def Left {α : Type} (O : List Acc → Option Res) (p : Prg α) (l : List Acc) (q : Prg α) (k : List Acc) : Prop := l <+: k ∧ go O p l = go O q k
theorem Left.start {α : Type} (O : List Acc → Option Res) (p : Prg α) (l : List Acc) : Left O p l p l := ⟨List.prefix_refl _, rfl⟩
theorem Left.step {α β : Type} {O : List Acc → Option Res} {p : Prg α} {l k : List Acc} {q : Prg β} {f : β → Prg α} (h : Left O p l (q.bind f) k) : Left O p l (f (go O q k).1) (go O q k).2 :=
 ⟨h.1.trans (aLr O q k), h.2.trans (go_bind O q f k)⟩
theorem Left.stp {α β : Type} {O : List Acc → Option Res} {p : Prg α} {l k : List Acc} {q : Prg β} {f : β → Prg α} (h : Left O p l (q.bind f) k) : ∀ g, k <+: g → g <+: (go O q k).2 → O g = none → l <+: g ∧ g <+: (go O p l).2 := fun g h1 h2 _ => by
 refine ⟨h.1.trans h1, h2.trans ?_⟩
 rw [h.step.2]
 exact aLr _ _ _
def lvSt (O : List Acc → Option Res) (stp : List Acc → Prop) (b : Int) (m : Nat) (n : Nat) (lk : List Acc) : St := ⟨[(0, none, .w (.one .dv)), (1, none, pvI b), (2, none, pvI m), (7, none, pvI n)], [(dx, none, 0, .dev O stp lk)]⟩
def lvSu (O : List Acc → Option Res) (stp : List Acc → Prop) (b : Int) (m : Nat) (n k : Nat) (lk : List Acc) : St := ⟨[(0, none, .w (.one .dv)), (1, none, pvI b), (2, none, pvI m), (7, none, pvI n), (19, none, pvI n), (20, none, pvI k)], [(dx, none, 0, .dev O stp lk)]⟩
theorem aJm {I : World → Prop} (hI0 : ∀ w w', Ext w w' → I w → I w') (b : Int) (m : Nat) (hm : m ≤ 1000) : FunP Tryz.prog I 54 (Prg.levelOf b m) [.w (.one .dv), pvI b, pvI m] (fun n => pvI n) := by
 intro O l
 have M := lvM hI0
 refine iF Tryz.func54 rfl rfl rfl (fun A hn hI => ?_)
 generalize hstp : (fun h => l <+: h ∧ h <+: (go O (Prg.levelOf b m) l).2) = stp
 refine aB M hI hn (by rfl) (by kernel_rfl) ?_ ?_
 ·simp
 refine aFe ?_
 refine aB M hI hn (by rfl) (by kernel_rfl) ?_ ?_
 ·simp
 refine aI ?_
 refine aFf ?_
 change Tri _ _ _ _ _
 refine tri_mid (fun s' => ∃ n lk, s' = lvSt O stp b m n lk ∧ n ≤ m ∧ Left O (Prg.levelOf b m) l ((Prg.down b n 0).bind fun _ => .ret n) lk) ?_ ?_
 ·refine bI ?_
  refine aV (s' := lvSt O stp b m 0 l) (fun a w hg => (hg.reset (kT := [0, 1, 2, 7]) (kO := [900000]) (by rfl) (by simp)).same ?_ ?_) ?_
  ·exact .cons rfl (.cons rfl (.cons rfl (.cons rfl .nil)))
  ·exact .cons (.dev rfl) .nil
  refine fV m (fun n s => ∃ lk, s = lvSt O stp b m n lk ∧ Left O (Prg.levelOf b m) l ((Prg.up b (m - n) n).bind fun n => (Prg.down b n 0).bind fun _ => .ret n) lk) 0 ⟨l, rfl, Left.start _ _ _⟩ (by omega) (fun n s hJ hk => ?_)
  obtain ⟨lk, rfl, hL⟩ := hJ
  refine aI ?_
  refine aB M hI hn (by rfl) (by kernel_rfl) ?_ ?_
  ·simp
  refine aJ (by rfl) (fun hc => ?_) (fun hc => ?_)
  ·have hn2 : n < m := by have := of_decide_eq_true hc; omega
   have hmn : m - n = (m - (n + 1)) + 1 := by omega
   rw [hmn, Prg.up, Prg.bind_assoc] at hL
   refine aN ?_
   change Tri _ _ _ _ _
   refine bI ?_
   refine aI ?_
   refine aB M hI hn (by rfl) (by kernel_rfl) ?_ ?_
   ·simp
    refine ⟨by omega, fun h h1 h2 h3 => ?_⟩
    rw [← hstp]
    exact hL.stp h h1 h2 h3
   refine aJ (by rfl) (fun hc => ?_) (fun hc => ?_)
   ·have hb : (go O (Prg.read b n) lk).1 = false := by
     have h : (!(go O (Prg.read b n) lk).1) = true := hc
     simpa using h
    have hL2 := hL.step
    rw [hb, if_neg (by simp)] at hL2
    refine dZ ?_
    intro a w hg
    refine ⟨_, ⟨n, _, rfl, by omega, hL2⟩, (hg.reset (kT := [0, 1, 2, 7]) (kO := [900000]) (by rfl) (by simp)).same ?_ ?_⟩
    ·exact .cons rfl (.cons rfl (.cons rfl (.cons rfl .nil)))
    ·exact .cons (.dev rfl) .nil
   ·have hb : (go O (Prg.read b n) lk).1 = true := by
     have h : (!(go O (Prg.read b n) lk).1) = false := hc
     simpa using h
    have hL2 := hL.step
    rw [hb, if_pos rfl] at hL2
    refine aN ?_
    change Tri _ _ _ _ _
    refine aS M hI hn (by rfl) (by kernel_rfl) ?_ ?_
    ·simp
    intro a w hg
    refine ⟨n + 1, _, by omega, by omega, ⟨_, rfl, hL2⟩, (hg.reset (kT := [0, 1, 2, 7]) (kO := [900000]) (by rfl) (by simp)).same ?_ ?_⟩
    ·exact .cons rfl (.cons rfl (.cons rfl (.cons (by rw [bZ n (by omega)]) .nil)))
    ·exact .cons (.dev rfl) .nil
  ·have hnm : n = m := by have := of_decide_eq_false hc; omega
   refine dZ ?_
   intro a w hg
   refine ⟨_, ⟨n, lk, rfl, by omega, ?_⟩, (hg.reset (kT := [0, 1, 2, 7]) (kO := [900000]) (by rfl) (by simp)).same ?_ ?_⟩
   ·rw [hnm, Nat.sub_self] at hL
    rw [hnm]
    exact hL
   ·exact .cons rfl (.cons rfl (.cons rfl (.cons rfl .nil)))
   ·exact .cons (.dev rfl) .nil
 ·rintro s' ⟨n, lk, rfl, hnm, hL⟩
  refine aI ?_
  refine aB M hI hn (by rfl) (by kernel_rfl) ?_ ?_
  ·simp
  refine bI ?_
  refine aV (s' := lvSu O stp b m n 0 lk) (fun a w hg => (hg.reset (kT := [0, 1, 2, 7, 19, 20]) (kO := [900000]) (by rfl) (by simp)).same ?_ ?_) ?_
  ·exact .cons rfl (.cons rfl (.cons rfl (.cons rfl (.cons rfl (.cons rfl .nil)))))
  ·exact .cons (.dev rfl) .nil
  refine fV n (fun k s => ∃ lk, s = lvSu O stp b m n k lk ∧ Left O (Prg.levelOf b m) l ((Prg.down b (n - k) k).bind fun _ => .ret n) lk) 0 ⟨lk, rfl, hL⟩ (by omega) (fun k s hJ hk => ?_)
  obtain ⟨lk2, rfl, hL2⟩ := hJ
  refine aB M hI hn (by rfl) (by kernel_rfl) ?_ ?_
  ·simp
  refine aI ?_
  refine aJ (by rfl) (fun hc => ?_) (fun hc => ?_)
  ·have hk2 : k < n := by have := of_decide_eq_true hc; omega
   have hnk : n - k = (n - (k + 1)) + 1 := by omega
   rw [hnk, Prg.down, Prg.bind_assoc] at hL2
   refine aN ?_
   change Tri _ _ _ _ _
   refine aI ?_
   refine bI ?_
   refine aB M hI hn (by rfl) (by kernel_rfl) ?_ ?_
   ·simp
   refine aS M hI hn (by rfl) (by kernel_rfl) ?_ ?_
   ·simp
    refine ⟨by omega, fun h h1 h2 h3 => ?_⟩
    rw [← hstp]
    exact hL2.stp h h1 h2 h3
   change Tri _ _ _ _ _
   refine aS M hI hn (by rfl) (by kernel_rfl) ?_ ?_
   ·simp
   intro a w hg
   refine ⟨k + 1, _, by omega, by omega, ⟨_, rfl, hL2.step⟩, (hg.reset (kT := [0, 1, 2, 7, 19, 20]) (kO := [900000]) (by rfl) (by simp)).same ?_ ?_⟩
   ·exact .cons rfl (.cons rfl (.cons rfl (.cons rfl (.cons rfl (.cons (by rw [bZ k (by omega)]) .nil)))))
   ·exact .cons (.dev rfl) .nil
  ·have hkk : k = n := by have := of_decide_eq_false hc; omega
   rw [hkk, Nat.sub_self] at hL2
   have hE : go O (Prg.levelOf b m) l = (n, lk2) := hL2.2
   refine dZ ?_
   change Tri _ _ _ _ _
   refine aB M hI hn (by rfl) (by kernel_rfl) ?_ ?_
   ·simp
   refine bC (fun a w hg => ⟨.inr rfl, _, ⟨?_, (fun o ho => by cases ho), fun p hp => ?_⟩, hg⟩)
   rotate_left 1
   ·cases hp
    rw [hE]; rfl
   refine aK (by rfl) (by simp) (by rfl) (by rfl) ?_
   rw [hE]
def decLv : List PV → Option (Prop × Prg Nat × (Nat → PV))
 | [.w (.one (.lit (.int .i64 b))), .w (.one (.lit (.int .i64 m)))] => some (0 ≤ m ∧ m ≤ 1000, Prg.levelOf b m.toNat, fun n => pvI n)
 | _ => none
theorem aGu {I : World → Prop} (hI0 : ∀ w w', Ext w w' → I w → I w') : SpecOk Tryz.prog I 54 (jL decLv) :=
 jZ (aF Tryz.func54 (by kernel_rfl) rfl) (fun ys c p v h hc => by
  unfold decLv at h
  split at h
  ·rename_i b m
   cases h
   obtain ⟨k, rfl⟩ : ∃ k : Nat, m = (k : Int) := ⟨m.toNat, by omega⟩
   rw [Int.toNat_natCast]
   exact aJm hI0 b k (by omega)
  ·cases h)
def raL : List (Nat × Spec) := (54, jL decLv) :: lvL
theorem ra_ok {I : World → Prop} (hI0 : ∀ w w', Ext w w' → I w → I w') : ∀ p ∈ raL, SpecOk Tryz.prog I p.1 p.2 := by
 intro p hp
 simp only [raL, List.mem_cons] at hp
 rcases hp with rfl | hp
 ·exact aGu hI0
 ·exact lv_ok hI0 p hp
theorem raM {I : World → Prop} (hI0 : ∀ w w', Ext w w' → I w → I w') : Mach Tryz.prog I (find raL) := ⟨dD (ra_ok hI0), iE⟩
def raSt (O : List Acc → Option Res) (stp : List Acc → Prop) (b : Int) (t : Nat) (n : Nat) (lk : List Acc) : St := ⟨[(0, none, .w (.one .dv)), (1, none, pvI b), (3, none, pvI t), (10, none, pvI n)], [(dx, none, 0, .dev O stp lk)]⟩
def raV (p : Nat × Int) : PV := .tup [.one (.lit (.int .i64 p.1)), .one (.lit (.int .i64 p.2))]
theorem aIz {I : World → Prop} (hI0 : ∀ w w', Ext w w' → I w → I w') (b : Int) (m t : Nat) (hm : m ≤ 1000) (ht : t ≤ 1000) : FunP Tryz.prog I 55 (Prg.raiseTo b m t) [.w (.one .dv), pvI b, pvI m, pvI t] raV := by
 intro O l
 have M := raM hI0
 refine iF Tryz.func55 rfl rfl rfl (fun A hn hI => ?_)
 generalize hstp : (fun h => l <+: h ∧ h <+: (go O (Prg.raiseTo b m t) l).2) = stp
 have hL0 : Left O (Prg.raiseTo b m t) l ((Prg.levelOf b m).bind fun n => Prg.raiseFrom b (t - n) n) l := Left.start _ _ _
 have hn0 : (go O (Prg.levelOf b m) l).1 ≤ m := aTv O (kE b m) l
 have hL := hL0.step
 refine aB M hI hn (by rfl) (by kernel_rfl) ?_ ?_
 ·simp
 refine aB M hI hn (by rfl) (by kernel_rfl) ?_ ?_
 ·simp
  refine ⟨by omega, fun h h1 h2 h3 => ?_⟩
  rw [← hstp]
  exact hL0.stp h h1 h2 h3
 obtain ⟨n0, l0, hq⟩ : ∃ n0 l0, go O (Prg.levelOf b m) l = (n0, l0) := ⟨_, _, rfl⟩
 rw [hq] at hn0 hL
 dsimp only at hn0 hL
 refine aI ?_
 refine bI ?_
 refine aV (s' := raSt O stp b t n0 l0) (fun a w hg => (hg.reset (kT := [0, 1, 3, 10]) (kO := [900000]) (by rfl) (by simp)).same ?_ ?_) ?_
 ·exact .cons rfl (.cons rfl (.cons rfl (.cons (by show pvI ((go O (Prg.levelOf b m) l).1 : Int) = _; rw [hq]) .nil)))
 ·exact .cons (.dev (by show (go O (Prg.levelOf b m) l).2 = _; rw [hq])) .nil
 refine fV (m + t) (fun n s => ∃ lk, s = raSt O stp b t n lk ∧ Left O (Prg.raiseTo b m t) l (Prg.raiseFrom b (t - n) n) lk) n0 ⟨l0, rfl, hL⟩ (by omega) (fun n s hJ hk => ?_)
 obtain ⟨lk, rfl, hL⟩ := hJ
 refine aI ?_
 refine aB M hI hn (by rfl) (by kernel_rfl) ?_ ?_
 ·simp
 refine aJ (by rfl) (fun hc => ?_) (fun hc => ?_)
 ·have hn2 : n < t := by have := of_decide_eq_true hc; omega
  rw [show t - n = (t - (n + 1)) + 1 by omega, Prg.raiseFrom] at hL
  have hL2 := hL.step
  have hL3 := hL2.step
  refine aN ?_
  change Tri _ _ _ _ _
  refine aI ?_
  refine bI ?_
  refine aB M hI hn (by rfl) (by kernel_rfl) ?_ ?_
  ·simp
   refine ⟨by omega, fun h h1 h2 h3 => ?_⟩
   rw [← hstp]
   exact hL.stp h h1 h2 h3
  refine aB M hI hn (by rfl) (by kernel_rfl) ?_ ?_
  ·simp
   refine ⟨by omega, fun h h1 h2 h3 => ?_⟩
   rw [← hstp]
   exact hL2.stp h h1 h2 h3
  refine aJ (by rfl) (fun hc => ?_) (fun hc => ?_)
  ·have hb : (go O (Prg.read b n) (go O (Prg.pulses b n) lk).2).1 = false := by
    have h : (!(go O (Prg.read b n) (go O (Prg.pulses b n) lk).2).1) = true := hc
    simpa using h
   rw [hb, if_neg (by simp)] at hL3
   have hE := hL3.2
   refine aB M hI hn (by rfl) (by kernel_rfl) ?_ ?_
   ·simp
   refine bC (fun a w hg => ⟨.inr rfl, _, ⟨?_, (fun o ho => by cases ho), fun p hp => ?_⟩, hg⟩)
   rotate_left 1
   ·cases hp
    rw [hE]; rfl
   refine aK (by rfl) (by simp) (by rfl) (by rfl) ?_
   rw [hE]
   rfl
  ·have hb : (go O (Prg.read b n) (go O (Prg.pulses b n) lk).2).1 = true := by
    have h : (!(go O (Prg.read b n) (go O (Prg.pulses b n) lk).2).1) = false := hc
    simpa using h
   rw [hb, if_pos rfl] at hL3
   refine aN ?_
   change Tri _ _ _ _ _
   refine aS M hI hn (by rfl) (by kernel_rfl) ?_ ?_
   ·simp
   intro a w hg
   refine ⟨n + 1, _, by omega, by omega, ⟨_, rfl, hL3⟩, (hg.reset (kT := [0, 1, 3, 10]) (kO := [900000]) (by rfl) (by simp)).same ?_ ?_⟩
   ·exact .cons rfl (.cons rfl (.cons rfl (.cons (by rw [bZ n (by omega)]) .nil)))
   ·exact .cons (.dev rfl) .nil
 ·have hn2 : t - n = 0 := by have := of_decide_eq_false hc; omega
  rw [hn2] at hL
  have hE : go O (Prg.raiseTo b m t) l = ((n, 0), lk) := hL.2
  refine dZ ?_
  change Tri _ _ _ _ _
  refine aB M hI hn (by rfl) (by kernel_rfl) ?_ ?_
  ·simp
  refine bC (fun a w hg => ⟨.inr rfl, _, ⟨?_, (fun o ho => by cases ho), fun p hp => ?_⟩, hg⟩)
  rotate_left 1
  ·cases hp
   rw [hE]; rfl
  refine aK (by rfl) (by simp) (by rfl) (by rfl) ?_
  rw [hE]
  rfl
def decRa : List PV → Option (Prop × Prg (Nat × Int) × (Nat × Int → PV))
 | [.w (.one (.lit (.int .i64 b))), .w (.one (.lit (.int .i64 m))), .w (.one (.lit (.int .i64 t)))] => some ((0 ≤ m ∧ m ≤ 1000) ∧ 0 ≤ t ∧ t ≤ 1000, Prg.raiseTo b m.toNat t.toNat, raV)
 | _ => none
theorem aGd {I : World → Prop} (hI0 : ∀ w w', Ext w w' → I w → I w') : SpecOk Tryz.prog I 55 (jL decRa) :=
 jZ (aF Tryz.func55 (by kernel_rfl) rfl) (fun ys c p v h hc => by
  unfold decRa at h
  split at h
  ·rename_i b m t
   cases h
   obtain ⟨k, rfl⟩ : ∃ k : Nat, m = (k : Int) := ⟨m.toNat, by omega⟩
   obtain ⟨j, rfl⟩ : ∃ j : Nat, t = (j : Int) := ⟨t.toNat, by omega⟩
   rw [Int.toNat_natCast, Int.toNat_natCast]
   exact aIz hI0 b k j (by omega) (by omega)
  ·cases h)
end Go.Proofs.YtihghljfmlbfhaaGreatDoor.Pv
