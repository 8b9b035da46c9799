/-
  Several texts in one file: each has its own heading below.
-/
import Derived.Test.YtihghljfmlbfhaaGreatDoorRzM
import Derived.Test.YtihghljfmlbfhaaGreatDoorRzF
import Derived.Test.YtihghljfmlbfhaaGreatDoorRzL
import Derived.Test.YtihghljfmlbfhaaGreatDoorRzN
import Derived.Test.YtihghljfmlbfhaaGreatDoorRzH
import Derived.WalkMore
set_option maxRecDepth 100000
set_option maxHeartbeats 4000000
namespace Go.Proofs.YtihghljfmlbfhaaGreatDoor
open Go.RowKit
structure PI (B bw bp : Nat) (ds : List (List UInt8)) (w : World) : Prop where
 mem : ShaMem w
 low : 1 < B ∧ 0 < B
 lt : B ≤ bp ∧ bp < bw
 walk : Blk w bw 152 #[.func (.func 95) #[] #[.pointer (some ⟨bw, 0, none⟩), .pointer (some ⟨bp, 0, none⟩)]]
 proof : ∃ A c, Blk w bp 30 #[.slice A ds.length c] ∧ w.ownsRow (bw + 1) 23 16 (.slice A ds.length c) ds.length (iP ds)
 all : D16 ds
theorem PI.ext {B bw bp : Nat} {ds : List (List UInt8)} {w w' : World} (h : PI B bw bp ds w) (hE : Ext w w') : PI B bw bp ds w' := by
 obtain ⟨A, c, h1, h2⟩ := h.proof
 exact ⟨h.mem.ext hE, h.low, h.lt, h.walk.ext hE, ⟨A, c, h1.ext hE, aQ h2 hE⟩, h.all⟩
theorem PI.step {B bw bp : Nat} {ds : List (List UInt8)} {d : List UInt8} {w w2 w3 : World} (h : PI B bw bp ds w) (hd : d.length = 16) (hE : Ext w w2) {A : Option Addr} {c : Nat} (hb : Blk w bp 30 #[.slice A ds.length c]) (ho0 : w.ownsRow (bw + 1) 23 16 (.slice A ds.length c) ds.length (iP ds))
  (hc : Chg (fun k => (Value.slice A ds.length c).ownBlock = some k) w2 w3) {A' : Option Addr} {c' : Nat} (ho : w3.ownsRow (bw + 1) 23 16 (.slice A' (ds.length + 1) c') (ds.length + 1) (iP ds ++ d.map u8v)) :
  PI B bw bp (ds ++ [d]) (w3.setCell ⟨bp, 0, none⟩ (.slice A' (ds.length + 1) c')) ∧ Chg (fun k => B ≤ k) w2 (w3.setCell ⟨bp, 0, none⟩ (.slice A' (ds.length + 1) c')) := by
 have h2 := h.ext hE
 have hlt := h.lt
 have hlow := h.low
 have hS : ∀ k, (Value.slice A ds.length c).ownBlock = some k → bw + 1 ≤ k := fun k hk => (ho0.lt k hk).1
 have hC : Chg (fun k => B ≤ k) w2 (w3.setCell ⟨bp, 0, none⟩ (.slice A' (ds.length + 1) c')) := (hc.mono fun k _ hk => by have := hS k hk; omega).setCell (p := ⟨bp, 0, none⟩) (.inl (by show B ≤ bp; omega)) _
 refine ⟨⟨h2.mem.chg hC (by omega) (by omega), hlow, hlt, ?_, ⟨A', c', ?_, ?_⟩, h.all.append (D16.one hd)⟩, hC⟩
 ·exact ((h2.walk.chg hc (fun e => by have := hS _ e; omega)).far' (by omega) _ _)
 ·have := ((hb.ext hE).chg hc (fun e => by have := hS _ e; omega)).set_ 0 (.slice A' (ds.length + 1) c')
  rw [List.length_append]
  exact this
 ·rw [qA, wH, List.length_append]
  refine dB ho (Chg.setCell (Chg.refl (fun k => k = bp) w3) (p := ⟨bp, 0, none⟩) (.inl rfl) _) (fun k hk => ?_)
  have := (ho.lt k hk).1
  omega
theorem walk_any (B bw bp : Nat) (N : Nat) : ∀ (l ds : List (List UInt8)) (i : Nat) (lv : Value) (w : World), l.length ≤ N → i < l.length → l.length + ds.length ≤ 100000 → Digs w lv l → (∀ k, lv.ownBlock = some k → k < B) → PI B bw bp ds w →
  Calls Tryz.prog 95 #[lv, .int .i64 (i : Int), .pointer (some ⟨bw, 0, none⟩), .pointer (some ⟨bp, 0, none⟩)] w fun e w' => e = .returned (.tuple #[]) ∧ PI B bw bp (ds ++ dI l i) w' ∧ Chg (fun k => B ≤ k) w w' := by
 induction N with
 | zero => intro l ds i lv w h1 h2; omega
 | succ N ih =>
  intro l ds i lv w hN hi h5 hD hlv hP
  by_cases h1 : l.length = 1
  ·obtain ⟨A, c, rfl, _, _⟩ := hD.form
   have HP := hide (show PI B bw bp (ds ++ dI l i) w from by rw [oI l i (by omega), List.append_nil]; exact hP)
   rw [h1]
   clear hD hP ih hlv
   go_enter Tryz.func95, Tryz.ntmps95
   go_wp2_with fail
   refine bodyPost_ret (results_none rfl _ _ _) rfl ?_
   exact ⟨rfl, aA HP, Chg.refl _ _⟩
  ·have hb := eY l.length (by omega)
   have HSp := hide (fun W => aFj l.length W (by omega) (by omega))
   obtain ⟨b, o, c, rfl, hc1, hc2, hbl, hL, hRt⟩ := hD.parts (by omega) hb.1 hb.2
   have hbB : b < B := hlv b rfl
   have hll : (l.take (aG l.length)).length = aG l.length := by rw [List.length_take]; omega
   have hrl : (l.drop (aG l.length)).length = l.length - aG l.length := by rw [List.length_drop]
   have HDL := hide (hL (aG l.length) (by omega) (by omega))
   have HDR := hide (hRt (l.length - aG l.length) (by omega) (by omega))
   have hnI : ¬ (l.length : Int) = 1 := by omega
   have HP := hide hP
   have HM := hide (And.intro hP.mem (And.intro hP.low hP.lt))
   have hwc : w.cell? ⟨bw, 0, none⟩ = some (.func (.func 95) #[] #[.pointer (some ⟨bw, 0, none⟩), .pointer (some ⟨bp, 0, none⟩)]) := by rw [hP.walk.cell]; rfl
   have hcall := aF Tryz.func95 (by kernel_rfl) rfl
   have hk1 : aG l.length ≤ l.length := by omega
   have hk2 : aG l.length ≤ c := by omega
   have hk3 : ¬ l.length = aG l.length := by omega
   have hk4 : ¬ c = aG l.length := by omega
   unfold maxLen at hc2
   by_cases hk : i < aG l.length
   ·have HQ := hide (tH l i (by omega) hk)
    have HW := hide (fun W (hD : Digs W (.slice (some ⟨b, o, none⟩) (aG l.length) (aG l.length)) (l.take (aG l.length))) (hP : PI B bw bp ds W) => ih (l.take (aG l.length)) ds i (.slice (some ⟨b, o, none⟩) (aG l.length) (aG l.length)) W (by omega) (by omega) (by omega) hD (fun k hk => by cases hk; exact hbB) hP)
    obtain ⟨ro, hro⟩ : ∃ r, iC (l.drop (aG l.length)) = r := ⟨_, rfl⟩
    have HRt := hide (fun W (hC : Chg (fun k => B ≤ k) w W) => aLa (l.drop (aG l.length)).length (l.drop (aG l.length)) (.slice (some ⟨b, o + aG l.length * 16, none⟩) (l.length - aG l.length) (l.length - aG l.length)) W ((aA HM).1.chg hC (by have := (aA HM).2.1; omega) (by have := (aA HM).2.1; omega)) (Nat.le_refl _) (by omega) ((aA HDR).chg hC (fun k hk e => by simp only [Value.ownBlock, Option.some.injEq] at hk; omega)))
    have hkI : (i : Int) < ((aG l.length : Nat) : Int) := by omega
    have hle : l.length + ds.length ≤ 100000 := h5
    clear hD hP ih hlv hL hRt
    go_enter Tryz.func95, Tryz.ntmps95
    go_upto_region 3 with (go_at_call 96; refine (aA HSp _).mono ?_; rintro e wz ⟨rfl, rfl⟩)
    refine wp_region_held_drew (S := fun _ => True) (by kernel_rfl) trivial (fun hHeld => ?_)
    refine wpAnyH_take (i := 0) (v := ?_) rfl (by kernel_rfl) (by kernel_rfl) (by kernel_rfl) (fun _ _ _ h => h) (Or.inl ⟨by rfl, fun wz hSz => ?_⟩) (by assumption) ?_
    rotate_left
    ·(first | (go_simp; done) | (go_simp; with_reducible rfl))
    try simp only [Act.put, zA, zB, zC, zD, zF]
    refine wpAnyH_take (i := 1) (v := ?_) rfl (by kernel_rfl) (by kernel_rfl) (by kernel_rfl) (fun _ _ _ h => h) (Or.inl ⟨by rfl, fun wz hSz => ?_⟩) (by assumption) ?_
    rotate_left
    ·(first | (go_simp; done) | (go_simp; with_reducible rfl))
    try simp only [Act.put, zA, zB, zC, zD, zE, zF]
    refine wpAnyH_take (i := 2) (v := ?_) rfl (by kernel_rfl) (by kernel_rfl) (by kernel_rfl) (fun _ _ _ h => h) (Or.inl ⟨by rfl, fun wz hSz => ?_⟩) (by assumption) ?_
    rotate_left
    ·(first | (go_simp; done) | (go_simp; with_reducible rfl))
    try simp only [Act.put, zA, zB, zC, zD, zE, zF]
    refine wpAnyH_take (i := 3) (v := ?_) rfl (by kernel_rfl) (by kernel_rfl) (by kernel_rfl) (fun _ _ _ h => h) (Or.inl ⟨by rfl, fun wz hSz => ?_⟩) (by assumption) ?_
    rotate_left
    ·(first | (go_simp; done) | (go_simp; with_reducible rfl))
    try simp only [Act.put, zA, zB, zC, zD, zE, zF]
    refine wpAnyH_take (i := 4) (v := ?_) rfl (by kernel_rfl) (by kernel_rfl) (by kernel_rfl) (fun _ _ _ h => h) (Or.inl ⟨by rfl, fun wz hSz => ?_⟩) (by assumption) ?_
    rotate_left
    ·(first | (go_simp; done) | (go_simp; with_reducible rfl))
    try simp only [Act.put, zA, zB, zC, zD, zE, zF]
    refine wpAnyH_take (i := 5) (v := ?_) rfl (by kernel_rfl) (by kernel_rfl) (by kernel_rfl) (fun _ _ _ h => h) (Or.inl ⟨by rfl, fun wz hSz => ?_⟩) (by assumption) ?_
    rotate_left
    ·(first | (go_simp; done) | (go_simp; with_reducible rfl))
    try simp only [Act.put, zA, zB, zC, zD, zE, zF]
    refine wpAnyH_take (i := 6) (v := ?_) rfl (by kernel_rfl) (by kernel_rfl) (by kernel_rfl) (fun _ _ _ h => h) (Or.inl ⟨by rfl, fun wz hSz => ?_⟩) (by assumption) ?_
    rotate_left
    ·(first | (go_simp; done) | (go_simp; with_reducible rfl))
    try simp only [Act.put, zA, zB, zC, zD, zE, zF]
    refine wpAnyH_take (i := 7) (v := ?_) rfl (by kernel_rfl) (by kernel_rfl) (by kernel_rfl) (fun _ _ _ h => h) (Or.inl ⟨by rfl, fun wz hSz => ?_⟩) (by assumption) ?_
    rotate_left
    ·(first | (go_simp; done) | (go_simp; with_reducible rfl))
    try simp only [Act.put, zA, zB, zC, zD, zE, zF]
    refine wpAnyH_take (i := 8) (v := ?_) rfl (by kernel_rfl) (by kernel_rfl) (by kernel_rfl) (fun _ _ _ h => h) (Or.inl ⟨by rfl, fun wz hSz => ?_⟩) (by assumption) ?_
    rotate_left
    ·(first | (go_simp; done) | (go_simp; with_reducible rfl))
    try simp only [Act.put, zA, zB, zC, zD, zE, zF]
    refine wpAnyH_take (i := 9) (v := ?_) rfl (by kernel_rfl) (by kernel_rfl) (by kernel_rfl) (fun _ _ _ h => h) (Or.inl ⟨by rfl, fun wz hSz => ?_⟩) (by assumption) ?_
    rotate_left
    ·(first | (go_simp; done) | (go_simp; with_reducible rfl))
    try simp only [Act.put, zA, zB, zC, zD, zE, zF]
    refine wpAnyH_take (i := 10) (v := ?_) rfl (by kernel_rfl) (by kernel_rfl) (by kernel_rfl) (fun _ _ _ h => h) (Or.inl ⟨by rfl, fun wz hSz => ?_⟩) (by assumption) ?_
    rotate_left
    ·(first | (go_simp; done) | (go_simp; with_reducible rfl))
    try simp only [Act.put, zA, zB, zC, zD, zE, zF]
    refine wpAnyH_done (by kernel_rfl) ?_ _
    go_wp2_with fail
    refine (aA HW _ ((aA HDL).ext (Ext.refl _).drew) ((aA HP).ext (Ext.refl _).drew)).mono ?_
    rintro e w1 ⟨rfl, hP1, hC1⟩
    have H1 := hide (And.intro hP1 ((Chg.refl (fun k => B ≤ k) w).drew.trans hC1))
    obtain ⟨A, c1, hbp, hown⟩ := hP1.proof
    have hgp := hP1.lt
    have HBO := hide (And.intro hbp hown)
    have HL16 := hide (show ro.length = 16 from by rw [← hro]; exact bW _)
    have HPL := hide (pJ l.length (l.take (aG l.length)) (i) (by omega))
    have hpl : (ds ++ dI (l.take (aG l.length)) (i)).length ≤ 100000 := by have := aA HPL; rw [List.length_append]; omega
    have HQ2 := hide (show ds ++ dI l i = (ds ++ dI (l.take (aG l.length)) (i)) ++ [ro] from by rw [aA HQ, List.append_assoc, hro])
    generalize ds ++ dI (l.take (aG l.length)) (i) = ds1 at *
    have HF : Hid (∀ W, Chg (fun k => bw + 1 ≤ k) w1 W → W.cell? ⟨bp, 0, none⟩ = some (.slice A ds1.length c1)) := hide (fun W hW => by rw [(hbp.chg hW (by omega)).cell]; rfl)
    clear hbp hown hP1 hC1
    go_upto_region 6 with fail
    refine uG 5 (Chg (fun k => bw + 1 ≤ k) w1) (by kernel_rfl) ((Chg.refl _ _).drew) (fun hHeld => ?_)
    refine oU (i := 0) (v := ?_) rfl (by kernel_rfl) (by kernel_rfl) (by kernel_rfl) (by kernel_rfl) (by kernel_rfl) (fun _ _ _ h => h) (Or.inl ⟨by rfl, fun wz hSz => ?_⟩) (by assumption) ?_
    rotate_left
    ·(first | (go_simp; done) | (go_simp; with_reducible rfl) | (obtain f1 := (aA HF) wz hSz; clear hSz; first | (go_simp; done) | (go_simp; with_reducible rfl)))
    try simp only [Act.put, zA, zB, zC, zD, zF]
    refine oU (i := 1) (v := ?_) rfl (by kernel_rfl) (by kernel_rfl) (by kernel_rfl) (by kernel_rfl) (by kernel_rfl) (fun _ _ _ h => h) (Or.inl ⟨by rfl, fun wz hSz => ?_⟩) (by assumption) ?_
    rotate_left
    ·(first | (go_simp; done) | (go_simp; with_reducible rfl) | (obtain f1 := (aA HF) wz hSz; clear hSz; first | (go_simp; done) | (go_simp; with_reducible rfl)))
    try simp only [Act.put, zA, zB, zC, zD, zE, zF]
    refine iG (rs := [2]) (by kernel_rfl) (by simp) (dG.cons (o := _) rfl (fun K hK => ?_) dG.nil)
    try go_simp
    (refine (aA HRt _ ((aA H1).2.drew)).mono ?_; rintro e w3 ⟨rfl, hE3⟩; rw [hro]; have hS : Chg (fun k => bw + 1 ≤ k) w1 w3 := hHeld.ext hE3; have H3 := hide ((Ext.refl w1).drew.trans hE3); clear hHeld hE3)
    refine hK.out _ _ ?_ (fun hHeld => ?_)
    ·exact hS
    clear hK K
    try simp only [Act.put, zA, zB, zC, zD, zE, zF]
    refine iG (rs := [3]) (by kernel_rfl) (by simp) (dG.cons (o := _) rfl (fun K hK => ?_) dG.nil)
    (rw [if_pos (by rfl)]; refine uH (t := 30) (x := .tmp 34) gY (by omega) rfl rfl (by simpa using aA HL16) ?_; have hS := hHeld.alloc (.cells (ro.map u8v).toArray 23); clear hHeld)
    refine hK.out _ _ ?_ (fun hHeld => ?_)
    ·exact hS
    clear hK K
    try simp only [Act.put, zA, zB, zC, zD, zE, zF]
    refine iG (rs := [4]) (by kernel_rfl) (by simp) (dG.cons (o := _) rfl (fun K hK => ?_) dG.nil)
    (refine rV rfl rfl gY rfl (aQ (aA HBO).2 ((aA H3).alloc _)) rfl (Reads.newD _ _ _ (aA HL16) rfl) (bP.u8 ro) (by omega) (by have := (aA HBO).1.lt; have := (aA H1).1.walk.lt; have := (aA H3).size'; simp; omega) ?_; intro A' c' w4 ho hc4 hv; have hS : Chg (fun k => bw + 1 ≤ k) w1 w4 := hHeld.trans (hc4.mono fun k _ hk => ((aA HBO).2.lt k hk).1); have H4 := hide ((aA H1).1.step (aA HL16) ((aA H3).alloc _) (aA HBO).1 (aA HBO).2 hc4 ho); have cb := aA HF w4 hS; have fb := ((aA HBO).1.chg hS (by omega)).frozen 0; have H34 := hide ((aA H1).2.trans (((aA H3).alloc (.cells (ro.map u8v).toArray 23)).chg)); clear ho hc4 hv hHeld)
    refine hK.out _ _ ?_ (fun hHeld => ?_)
    ·exact hS
    clear hK K
    try simp only [Act.put, zA, zB, zC, zD, zE, zF]
    refine iG (rs := [5]) (by kernel_rfl) (by simp) (dG.key (o := _) (by kernel_rfl) rfl (fun K hK => ?_))
    go_simp
    refine hK.out _ _ trivial (fun _ => ?_)
    clear hK K
    try simp only [Act.put, zA, zB, zC, zD, zE, zF]
    refine yG (by kernel_rfl) ?_ _
    go_wp2
    first | (refine bodyPost_ret (results_none rfl _ _ _) rfl ?_) | go_end0
    exact ⟨rfl, by rw [aA HQ2]; exact (aA H4).1, (aA H34).trans (aA H4).2⟩
   ·have HQ := hide (qW l i (by omega) hk)
    have HW := hide (fun W (hD : Digs W (.slice (some ⟨b, o + aG l.length * 16, none⟩) (l.length - aG l.length) (l.length - aG l.length)) (l.drop (aG l.length))) (hP : PI B bw bp ds W) => ih (l.drop (aG l.length)) ds (i - aG l.length) (.slice (some ⟨b, o + aG l.length * 16, none⟩) (l.length - aG l.length) (l.length - aG l.length)) W (by omega) (by omega) (by omega) hD (fun k hk => by cases hk; exact hbB) hP)
    obtain ⟨ro, hro⟩ : ∃ r, iC (l.take (aG l.length)) = r := ⟨_, rfl⟩
    have HRt := hide (fun W (hC : Chg (fun k => B ≤ k) w W) => aLa (l.take (aG l.length)).length (l.take (aG l.length)) (.slice (some ⟨b, o, none⟩) (aG l.length) (aG l.length)) W ((aA HM).1.chg hC (by have := (aA HM).2.1; omega) (by have := (aA HM).2.1; omega)) (Nat.le_refl _) (by omega) ((aA HDL).chg hC (fun k hk e => by simp only [Value.ownBlock, Option.some.injEq] at hk; omega)))
    have hkI : ¬ (i : Int) < ((aG l.length : Nat) : Int) := by omega
    have eki : ((i - aG l.length : Nat) : Int) = (i : Int) - ((aG l.length : Nat) : Int) := by omega
    rw [eki] at HW
    have hle : l.length + ds.length ≤ 100000 := h5
    clear hD hP ih hlv hL hRt
    go_enter Tryz.func95, Tryz.ntmps95
    go_upto_region 3 with (go_at_call 96; refine (aA HSp _).mono ?_; rintro e wz ⟨rfl, rfl⟩)
    refine wp_region_held_drew (S := fun _ => True) (by kernel_rfl) trivial (fun hHeld => ?_)
    refine wpAnyH_take (i := 0) (v := ?_) rfl (by kernel_rfl) (by kernel_rfl) (by kernel_rfl) (fun _ _ _ h => h) (Or.inl ⟨by rfl, fun wz hSz => ?_⟩) (by assumption) ?_
    rotate_left
    ·(first | (go_simp; done) | (go_simp; with_reducible rfl))
    try simp only [Act.put, zA, zB, zC, zD, zF]
    refine wpAnyH_take (i := 1) (v := ?_) rfl (by kernel_rfl) (by kernel_rfl) (by kernel_rfl) (fun _ _ _ h => h) (Or.inl ⟨by rfl, fun wz hSz => ?_⟩) (by assumption) ?_
    rotate_left
    ·(first | (go_simp; done) | (go_simp; with_reducible rfl))
    try simp only [Act.put, zA, zB, zC, zD, zE, zF]
    refine wpAnyH_take (i := 2) (v := ?_) rfl (by kernel_rfl) (by kernel_rfl) (by kernel_rfl) (fun _ _ _ h => h) (Or.inl ⟨by rfl, fun wz hSz => ?_⟩) (by assumption) ?_
    rotate_left
    ·(first | (go_simp; done) | (go_simp; with_reducible rfl))
    try simp only [Act.put, zA, zB, zC, zD, zE, zF]
    refine wpAnyH_take (i := 3) (v := ?_) rfl (by kernel_rfl) (by kernel_rfl) (by kernel_rfl) (fun _ _ _ h => h) (Or.inl ⟨by rfl, fun wz hSz => ?_⟩) (by assumption) ?_
    rotate_left
    ·(first | (go_simp; done) | (go_simp; with_reducible rfl))
    try simp only [Act.put, zA, zB, zC, zD, zE, zF]
    refine wpAnyH_take (i := 4) (v := ?_) rfl (by kernel_rfl) (by kernel_rfl) (by kernel_rfl) (fun _ _ _ h => h) (Or.inl ⟨by rfl, fun wz hSz => ?_⟩) (by assumption) ?_
    rotate_left
    ·(first | (go_simp; done) | (go_simp; with_reducible rfl))
    try simp only [Act.put, zA, zB, zC, zD, zE, zF]
    refine wpAnyH_take (i := 5) (v := ?_) rfl (by kernel_rfl) (by kernel_rfl) (by kernel_rfl) (fun _ _ _ h => h) (Or.inl ⟨by rfl, fun wz hSz => ?_⟩) (by assumption) ?_
    rotate_left
    ·(first | (go_simp; done) | (go_simp; with_reducible rfl))
    try simp only [Act.put, zA, zB, zC, zD, zE, zF]
    refine wpAnyH_take (i := 6) (v := ?_) rfl (by kernel_rfl) (by kernel_rfl) (by kernel_rfl) (fun _ _ _ h => h) (Or.inl ⟨by rfl, fun wz hSz => ?_⟩) (by assumption) ?_
    rotate_left
    ·(first | (go_simp; done) | (go_simp; with_reducible rfl))
    try simp only [Act.put, zA, zB, zC, zD, zE, zF]
    refine wpAnyH_take (i := 7) (v := ?_) rfl (by kernel_rfl) (by kernel_rfl) (by kernel_rfl) (fun _ _ _ h => h) (Or.inl ⟨by rfl, fun wz hSz => ?_⟩) (by assumption) ?_
    rotate_left
    ·(first | (go_simp; done) | (go_simp; with_reducible rfl))
    try simp only [Act.put, zA, zB, zC, zD, zE, zF]
    refine wpAnyH_take (i := 8) (v := ?_) rfl (by kernel_rfl) (by kernel_rfl) (by kernel_rfl) (fun _ _ _ h => h) (Or.inl ⟨by rfl, fun wz hSz => ?_⟩) (by assumption) ?_
    rotate_left
    ·(first | (go_simp; done) | (go_simp; with_reducible rfl))
    try simp only [Act.put, zA, zB, zC, zD, zE, zF]
    refine wpAnyH_take (i := 9) (v := ?_) rfl (by kernel_rfl) (by kernel_rfl) (by kernel_rfl) (fun _ _ _ h => h) (Or.inl ⟨by rfl, fun wz hSz => ?_⟩) (by assumption) ?_
    rotate_left
    ·(first | (go_simp; done) | (go_simp; with_reducible rfl))
    try simp only [Act.put, zA, zB, zC, zD, zE, zF]
    refine wpAnyH_take (i := 10) (v := ?_) rfl (by kernel_rfl) (by kernel_rfl) (by kernel_rfl) (fun _ _ _ h => h) (Or.inl ⟨by rfl, fun wz hSz => ?_⟩) (by assumption) ?_
    rotate_left
    ·(first | (go_simp; done) | (go_simp; with_reducible rfl))
    try simp only [Act.put, zA, zB, zC, zD, zE, zF]
    refine wpAnyH_done (by kernel_rfl) ?_ _
    go_wp2_with fail
    refine (aA HW _ ((aA HDR).ext (Ext.refl _).drew) ((aA HP).ext (Ext.refl _).drew)).mono ?_
    rintro e w1 ⟨rfl, hP1, hC1⟩
    have H1 := hide (And.intro hP1 ((Chg.refl (fun k => B ≤ k) w).drew.trans hC1))
    obtain ⟨A, c1, hbp, hown⟩ := hP1.proof
    have hgp := hP1.lt
    have HBO := hide (And.intro hbp hown)
    have HL16 := hide (show ro.length = 16 from by rw [← hro]; exact bW _)
    have HPL := hide (pJ l.length (l.drop (aG l.length)) (i - aG l.length) (by omega))
    have hpl : (ds ++ dI (l.drop (aG l.length)) (i - aG l.length)).length ≤ 100000 := by have := aA HPL; rw [List.length_append]; omega
    have HQ2 := hide (show ds ++ dI l i = (ds ++ dI (l.drop (aG l.length)) (i - aG l.length)) ++ [ro] from by rw [aA HQ, List.append_assoc, hro])
    generalize ds ++ dI (l.drop (aG l.length)) (i - aG l.length) = ds1 at *
    have HF : Hid (∀ W, Chg (fun k => bw + 1 ≤ k) w1 W → W.cell? ⟨bp, 0, none⟩ = some (.slice A ds1.length c1)) := hide (fun W hW => by rw [(hbp.chg hW (by omega)).cell]; rfl)
    clear hbp hown hP1 hC1
    go_upto_region 8 with fail
    refine uG 5 (Chg (fun k => bw + 1 ≤ k) w1) (by kernel_rfl) ((Chg.refl _ _).drew) (fun hHeld => ?_)
    refine oU (i := 0) (v := ?_) rfl (by kernel_rfl) (by kernel_rfl) (by kernel_rfl) (by kernel_rfl) (by kernel_rfl) (fun _ _ _ h => h) (Or.inl ⟨by rfl, fun wz hSz => ?_⟩) (by assumption) ?_
    rotate_left
    ·(first | (go_simp; done) | (go_simp; with_reducible rfl) | (obtain f1 := (aA HF) wz hSz; clear hSz; first | (go_simp; done) | (go_simp; with_reducible rfl)))
    try simp only [Act.put, zA, zB, zC, zD, zF]
    refine oU (i := 1) (v := ?_) rfl (by kernel_rfl) (by kernel_rfl) (by kernel_rfl) (by kernel_rfl) (by kernel_rfl) (fun _ _ _ h => h) (Or.inl ⟨by rfl, fun wz hSz => ?_⟩) (by assumption) ?_
    rotate_left
    ·(first | (go_simp; done) | (go_simp; with_reducible rfl) | (obtain f1 := (aA HF) wz hSz; clear hSz; first | (go_simp; done) | (go_simp; with_reducible rfl)))
    try simp only [Act.put, zA, zB, zC, zD, zE, zF]
    refine iG (rs := [2]) (by kernel_rfl) (by simp) (dG.cons (o := _) rfl (fun K hK => ?_) dG.nil)
    try go_simp
    (refine (aA HRt _ ((aA H1).2.drew)).mono ?_; rintro e w3 ⟨rfl, hE3⟩; rw [hro]; have hS : Chg (fun k => bw + 1 ≤ k) w1 w3 := hHeld.ext hE3; have H3 := hide ((Ext.refl w1).drew.trans hE3); clear hHeld hE3)
    refine hK.out _ _ ?_ (fun hHeld => ?_)
    ·exact hS
    clear hK K
    try simp only [Act.put, zA, zB, zC, zD, zE, zF]
    refine iG (rs := [3]) (by kernel_rfl) (by simp) (dG.cons (o := _) rfl (fun K hK => ?_) dG.nil)
    (rw [if_pos (by rfl)]; refine uH (t := 30) (x := .tmp 45) gY (by omega) rfl rfl (by simpa using aA HL16) ?_; have hS := hHeld.alloc (.cells (ro.map u8v).toArray 23); clear hHeld)
    refine hK.out _ _ ?_ (fun hHeld => ?_)
    ·exact hS
    clear hK K
    try simp only [Act.put, zA, zB, zC, zD, zE, zF]
    refine iG (rs := [4]) (by kernel_rfl) (by simp) (dG.cons (o := _) rfl (fun K hK => ?_) dG.nil)
    (refine rV rfl rfl gY rfl (aQ (aA HBO).2 ((aA H3).alloc _)) rfl (Reads.newD _ _ _ (aA HL16) rfl) (bP.u8 ro) (by omega) (by have := (aA HBO).1.lt; have := (aA H1).1.walk.lt; have := (aA H3).size'; simp; omega) ?_; intro A' c' w4 ho hc4 hv; have hS : Chg (fun k => bw + 1 ≤ k) w1 w4 := hHeld.trans (hc4.mono fun k _ hk => ((aA HBO).2.lt k hk).1); have H4 := hide ((aA H1).1.step (aA HL16) ((aA H3).alloc _) (aA HBO).1 (aA HBO).2 hc4 ho); have cb := aA HF w4 hS; have fb := ((aA HBO).1.chg hS (by omega)).frozen 0; have H34 := hide ((aA H1).2.trans (((aA H3).alloc (.cells (ro.map u8v).toArray 23)).chg)); clear ho hc4 hv hHeld)
    refine hK.out _ _ ?_ (fun hHeld => ?_)
    ·exact hS
    clear hK K
    try simp only [Act.put, zA, zB, zC, zD, zE, zF]
    refine iG (rs := [5]) (by kernel_rfl) (by simp) (dG.key (o := _) (by kernel_rfl) rfl (fun K hK => ?_))
    go_simp
    refine hK.out _ _ trivial (fun _ => ?_)
    clear hK K
    try simp only [Act.put, zA, zB, zC, zD, zE, zF]
    refine yG (by kernel_rfl) ?_ _
    go_wp2
    first | (refine bodyPost_ret (results_none rfl _ _ _) rfl ?_) | go_end0
    exact ⟨rfl, by rw [aA HQ2]; exact (aA H4).1, (aA H34).trans (aA H4).2⟩
theorem aSd (l : List (List UInt8)) (i : Nat) (v : Value) (w : World) (hM : ShaMem w) (hl : l.length ≤ 1000) (hD : Digs w v l) (h : i < l.length) :
  Calls Tryz.prog 72 #[v, .int .i64 (i : Int)] w fun e w' => ∃ A c, e = .returned (.tuple #[.slice A (dI l i).length c, .int .i64 0]) ∧ GD w w.heap.size (.slice A (dI l i).length c) (dI l i).length (dI l i) w' := by
 have hsl := hM.lt
 have hol := hD.own_lt (by omega)
 obtain ⟨A, c, rfl, _, _⟩ := hD.form
 have hmf := mkfun
 have hcall := aF Tryz.func95 (by kernel_rfl) rfl
 have HW := hide (fun W (hE : Ext w W) (hP : PI w.heap.size (w.heap.size + 1) w.heap.size [] W) => walk_any w.heap.size (w.heap.size + 1) w.heap.size l.length l [] i _ W (Nat.le_refl _) h (by simp; omega) (hD.ext hE) hol hP)
 obtain ⟨p, hp⟩ : ∃ p, dI l i = p := ⟨_, rfl⟩
 rw [hp] at HW ⊢
 have HP0 := hide (fun W (hE : Ext w W) (h1 : Blk W (w.heap.size + 1) 152 #[.func (.func 95) #[] #[.pointer (some ⟨w.heap.size + 1, 0, none⟩), .pointer (some ⟨w.heap.size, 0, none⟩)]]) (h2 : Blk W w.heap.size 30 #[.slice none 0 0]) =>
  show PI w.heap.size (w.heap.size + 1) w.heap.size [] W from ⟨hM.ext hE, ⟨hsl.1, hsl.2⟩, ⟨Nat.le_refl _, by omega⟩, h1, ⟨none, 0, h2, World.ownsRow_nil _ _ _ _⟩, D16.nil⟩)
 have hi1 : ¬ (i : Int) < 0 := by omega
 have hi2 : ¬ (l.length : Int) ≤ (i : Int) := by omega
 have hi3 : (i : Int) < (l.length : Int) := by omega
 clear hM hD hol hsl hp
 go_enter Tryz.func72, Tryz.ntmps72
 go_wp2_with fail
 refine (aA HW _ ?hE (aA HP0 _ ?hE2 ?h1 ?h2)).mono ?_
 case hE => exact ((Ext.refl w).alloc _).alloc _
 case hE2 => exact ((Ext.refl w).alloc _).alloc _
 case h1 => exact Blk.new' (w.alloc (.cells #[.slice none 0 0] 30)) _ _ (by simp)
 case h2 => exact (Blk.new w _ _).alloc _
 rintro e w1 ⟨rfl, hP1, hC1⟩
 rw [List.nil_append] at hP1
 obtain ⟨A1, c1, hbp, hown⟩ := hP1.proof
 have H1 := hide (And.intro hP1.all (And.intro hown hC1))
 have cb : w1.cell? ⟨w.heap.size, 0, none⟩ = some (.slice A1 p.length c1) := by rw [hbp.cell]; rfl
 have hsz := hbp.lt
 clear hP1 hbp hown hC1 hmf hcall
 go_wp2
 go_ret2
 refine ⟨A1, c1, rfl, ownsRow_base (aA H1).2.1 (by omega), (aA H1).1, ?_, Nat.le_refl _, by omega⟩
 exact (((Ext.refl w).alloc _).alloc _).trans' (aA H1).2.2 (fun _ _ h => h) (fun k hk e => by omega)
theorem sign_any (seed : List UInt8) (index : Int) (m : List UInt8) (w : World) (hM : ShaMem w) (hv : seed.length = 16) (hm : m.length = 16) (h1 : -9223372036854775808 ≤ index) (h2 : index < 9223372036854775808) :
  Calls Tryz.prog 74 #[.agg (seed.map u8v).toArray, .int .i64 index, .agg (m.map u8v).toArray] w fun e w' => ∃ A c, e = .returned (.slice A 68 c) ∧ GD w w.heap.size (.slice A 68 c) 68 (mQ seed index m 68) w' := by
 have HDg := hide (fun (W : World) => aPn m W hm)
 have HS := hide (fun k (hk : k < 68) (W : World) (hE : Ext w W) => aFi k seed index W (hM.ext hE) hv (by omega) h1 h2)
 have HA := hide (fun k (hk : k < 68) (W : World) (hE : Ext w W) => aWm k (digC m k) (gX seed index k) W (hM.ext hE) (dO _ _ _) (by omega) (by have := aEj m k; omega))
 have HL := hide (uQ seed index m)
 have HT := hide (aBo seed index m)
 have HG := hide (fun k (hk : k < 68) => jM (digC m) hk)
 have HQ := hide (fun k => show advS k (gX seed index k) (digC m k) = sV seed index m k from rfl)
 obtain ⟨arr, harr⟩ : ∃ r, (seed.map u8v).toArray = r := ⟨_, rfl⟩
 obtain ⟨marr, hmarr⟩ : ∃ r, (m.map u8v).toArray = r := ⟨_, rfl⟩
 rw [harr] at HS ⊢
 rw [hmarr] at HDg ⊢
 have HSZ := hide (show arr.size = 16 ∧ marr.size = 16 from by rw [← harr, ← hmarr]; simp; omega)
 clear hM harr hmarr hv hm
 go_enter Tryz.func74, Tryz.ntmps74
 go_wp2_with (refine aZ (ty := 23) (t := 23) (x := .tmp 5) rfl rfl aC rfl (Blk.new' _ _ _ (by simp)) (aA HSZ).2 ?_)
 refine (aA HDg _).mono ?_
 rintro e w1 ⟨g, rfl, hb1, hg, hE1⟩
 have H1 := hide (And.intro hb1 (And.intro ((((Ext.refl w).alloc _).alloc _).trans hE1) (((Blk.new w 23 arr).alloc _).ext hE1)))
 clear hb1 hE1 hg
 go_wp2_with fail
 go_loopw [7, 13] (fun b i wr => ∃ (k : Nat) (A : Option Addr) (c : Nat), k ≤ 68 ∧ i = .int .i64 k ∧ b = .slice A k c ∧ Hid (GD w w1.heap.size (.slice A k c) k (mQ seed index m k) wr ∧ Blk wr w.heap.size 23 arr ∧ Blk wr g 166 (fH (digC m) 68).toArray)) (fun _ i _ => 68 - (intOf i).toNat)
 case atStart => exact ⟨0, none, 0, by omega, rfl, rfl, hide ⟨GD.nil (aA H1).2.1 (aA H1).2.1.size' (Nat.le_refl _), (aA H1).2.2, (aA H1).1⟩⟩
 case round =>
  obtain ⟨k, A, c, hk, rfl, rfl, HI⟩ := hrel
  by_cases hlt : k < 68
  ·have cg : wr.cell? ⟨g, k, none⟩ = some (.int .i64 ((digC m k : Nat) : Int)) := by rw [(aA HI).2.2.cell, List.getElem?_toArray]; exact aA HG k hlt
   have HSk := hide (aA HS k hlt)
   have HAk := hide (aA HA k hlt)
   have HLk := hide (aA HL k)
   have HTk := hide (aA HT k)
   rw [aA HQ k] at HAk
   generalize digC m k = dk at *
   generalize hst : ((gX seed index k).map u8v).toArray = st at *
   generalize sV seed index m k = d at *
   have hkI : (k : Int) < 68 := by omega
   go_wp2_with (refine aZ (ty := 23) (t := 23) (x := .tmp 3) rfl rfl aC rfl (aA HI).2.1 (aA HSZ).1 ?_)
   refine (aA HSk _ (aA HI).1.ext).mono ?_
   rintro e w2 ⟨rfl, hE2⟩
   have H2 := hide hE2
   clear hE2
   go_wp2_with fail
   refine (aA HAk _ ((aA HI).1.ext.trans (aA H2))).mono ?_
   rintro e w3 ⟨rfl, hE3⟩
   have H3 := hide ((aA H2).trans hE3)
   clear hE3
   go_wp2_with (first | (refine kX (t := 30) (x := .tmp 25) rfl gY (by omega) rfl rfl (by simpa using aA HLk) ?_) | at_builtin; refine aU rfl rfl gY rfl ((aA HI).1.to ((aA H3).alloc _)).own rfl (Reads.newD _ _ _ (aA HLk) rfl) (bP.u8 d) (by omega) ((aA HI).1.to ((aA H3).alloc _)).room ?_; intro A' c' w4 ho hc4 hv; have H4 := hide (And.intro ho hc4); clear ho hc4 hv)
   go_roundw
   case rel =>
    refine ⟨k + 1, A', c', by omega, by go_num, rfl, hide ⟨by rw [aA HTk]; exact (aA HI).1.step (aA HLk) ((aA H3).alloc _) (aA H4).2 (aA H4).1, ?_, ?_⟩⟩
    ·exact ((aA HI).2.1.ext ((aA H3).alloc _)).chg (aA H4).2 (fun e => by have h5 := ((aA HI).1.own.lt _ e).1; have h6 := (aA H1).2.2.lt; omega)
    ·exact ((aA HI).2.2.ext ((aA H3).alloc _)).chg (aA H4).2 (fun e => by have h5 := ((aA HI).1.own.lt _ e).1; have h6 := (aA H1).1.lt; omega)
   case measure => simp [intOf]; omega
  ·obtain rfl : k = 68 := by omega
   go_wp2
   go_ret
   exact ⟨A, c, rfl, ⟨ownsRow_base (aA HI).1.own (aA H1).2.1.size', (aA HI).1.all, (aA HI).1.ext, Nat.le_refl _, (aA HI).1.ext.size'⟩⟩
theorem aFd (seed msg : List UInt8) (h index : Int) (w : World) (hh : ¬ okH h ∨ index < 0) :
  Calls Tryz.prog 56 #[.agg (seed.map u8v).toArray, .int .i64 h, .int .i64 index, .agg (msg.map u8v).toArray] w fun e w' => e = .returned (.tuple #[.agg #[.int .i64 0, .slice none 0 0, .slice none 0 0], .int .i64 1]) ∧ Ext w w' := by
 obtain ⟨arr, harr⟩ : ∃ x, (seed.map u8v).toArray = x := ⟨_, rfl⟩
 obtain ⟨mrr, hmrr⟩ : ∃ x, (msg.map u8v).toArray = x := ⟨_, rfl⟩
 rw [harr, hmrr]
 clear harr hmrr
 by_cases ho : okH h
 ·have hi : index < 0 := by rcases hh with h | h; exact absurd ho h; exact h
  have HV := hide (fun W => valid_ok h ho W)
  clear hh ho
  go_enter Tryz.func56, Tryz.ntmps56
  go_wp2_with (go_at_call 71; refine (aA HV _).mono ?_; rintro e wz ⟨rfl, rfl⟩)
  refine bodyPost_ret (v := .tuple #[.agg #[.int .i64 0, .slice none 0 0, .slice none 0 0], .int .i64 1]) (gG nC rfl (Blk.new' _ _ _ (by simp)) rfl rfl rfl) rfl ⟨rfl, ?_⟩
  exact (((Ext.refl w).alloc _).alloc _).alloc _
 ·have HV := hide (fun W => valid_no h W ho)
  clear hh ho
  go_enter Tryz.func56, Tryz.ntmps56
  go_wp2_with (go_at_call 71; refine (aA HV _).mono ?_; rintro e wz ⟨rfl, rfl⟩)
  refine bodyPost_ret (v := .tuple #[.agg #[.int .i64 0, .slice none 0 0, .slice none 0 0], .int .i64 1]) (gG nC rfl (Blk.new' _ _ _ (by simp)) rfl rfl rfl) rfl ⟨rfl, ?_⟩
  exact (((Ext.refl w).alloc _).alloc _).alloc _
theorem aQl (seed msg : List UInt8) (h n : Nat) (hn : n = 2 ^ h) (hh : h ≤ 4) (index : Int) (w : World) (h0 : (n : Int) ≤ index) :
  Calls Tryz.prog 56 #[.agg (seed.map u8v).toArray, .int .i64 (h : Int), .int .i64 index, .agg (msg.map u8v).toArray] w fun e w' => e = .returned (.tuple #[.agg #[.int .i64 0, .slice none 0 0, .slice none 0 0], .int .i64 17]) ∧ Ext w w' := by
 have HV := hide (fun W => (fun W => yK (h : Int) W (aSl h hh)) W)
 have hsh : wrap64 ((2 : Int) ^ h) = (n : Int) := by rw [yQ h hh, hn]
 have hn1 : 1 ≤ n := by subst hn; exact Nat.one_le_two_pow
 have hnI : ¬ (n : Int) = 0 := by omega
 have hnB : ((n : Int) == 0) = false := beq_eq_false_iff_ne.2 (by omega)
 have hi0 : ¬ index < 0 := by omega
 obtain ⟨arr, harr⟩ : ∃ x, (seed.map u8v).toArray = x := ⟨_, rfl⟩
 obtain ⟨mrr, hmrr⟩ : ∃ x, (msg.map u8v).toArray = x := ⟨_, rfl⟩
 rw [harr, hmrr]
 clear harr hmrr hn
 go_enter Tryz.func56, Tryz.ntmps56
 go_wp2_with (go_at_call 71; refine (aA HV _).mono ?_; rintro e wz ⟨rfl, rfl⟩)
 refine bodyPost_ret (v := .tuple #[.agg #[.int .i64 0, .slice none 0 0, .slice none 0 0], .int .i64 17]) (gG nC rfl (Blk.new' _ _ _ (by simp)) rfl rfl rfl) rfl ⟨rfl, ?_⟩
 exact (((Ext.refl w).alloc _).alloc _).alloc _
theorem aQk (seed msg : List UInt8) (h n : Nat) (hn : n = 2 ^ h) (hh : h ≤ 4) (i : Nat) (hi : i < n) (w : World) (hv : seed.length = 16) (hm : msg.length = 16) (hM : ShaMem w) :
  Calls Tryz.prog 56 #[.agg (seed.map u8v).toArray, .int .i64 (h : Int), .int .i64 (i : Int), .agg (msg.map u8v).toArray] w (aMm w (i : Int) (mQ seed (i : Int) msg 68) (dI (cO seed n) i)) := by
 have hn16 : n ≤ 16 := by subst hn; exact rY h h (Nat.le_refl _) hh
 have hsh : wrap64 ((2 : Int) ^ h) = (n : Int) := by rw [yQ h hh, hn]
 have HV := hide (fun W => (fun W => yK (h : Int) W (aSl h hh)) W)
 have HK := hide (fun W (hE : Ext w W) => aOq seed h n hn hh W hv (hM.ext hE))
 have HP := hide (fun (A : Option Addr) (c : Nat) W (hE : Ext w W) (hD : Digs W (.slice A n c) (cO seed n)) => aSd (cO seed n) i (.slice A n c) W (hM.ext hE) (by rw [fF]; omega) hD (by rw [fF]; omega))
 have HS := hide (fun W (hE : Ext w W) => sign_any seed (i : Int) msg W (hM.ext hE) hv hm (by omega) (by omega))
 have hnI : ¬ (n : Int) = 0 := by omega
 have hnB : ((n : Int) == 0) = false := beq_eq_false_iff_ne.2 (by omega)
 have hi0 : ¬ (i : Int) < 0 := by omega
 have hi1 : ¬ (n : Int) ≤ (i : Int) := by omega
 have hi2 : (i : Int) < (n : Int) := by omega
 obtain ⟨chain, hchain⟩ : ∃ x, mQ seed (i : Int) msg 68 = x := ⟨_, rfl⟩
 obtain ⟨path, hpath⟩ : ∃ x, dI (cO seed n) i = x := ⟨_, rfl⟩
 rw [hchain] at HS ⊢
 rw [hpath] at HP ⊢
 obtain ⟨arr, harr⟩ : ∃ x, (seed.map u8v).toArray = x := ⟨_, rfl⟩
 obtain ⟨mrr, hmrr⟩ : ∃ x, (msg.map u8v).toArray = x := ⟨_, rfl⟩
 have HSZ := hide (show arr.size = 16 ∧ mrr.size = 16 from by rw [← harr, ← hmrr]; exact ⟨by simpa using hv, by simpa using hm⟩)
 rw [harr] at HK HS ⊢
 rw [hmrr] at HS ⊢
 have HZ := hide (show Ext w (((w.alloc (.cells arr 23)).alloc (.cells mrr 23)).alloc (.cells #[.int .i64 0, .slice none 0 0, .slice none 0 0] 32)) ∧ Blk (((w.alloc (.cells arr 23)).alloc (.cells mrr 23)).alloc (.cells #[.int .i64 0, .slice none 0 0, .slice none 0 0] 32)) w.heap.size 23 arr ∧
  Blk (((w.alloc (.cells arr 23)).alloc (.cells mrr 23)).alloc (.cells #[.int .i64 0, .slice none 0 0, .slice none 0 0] 32)) (w.heap.size + 1) 23 mrr ∧ Blk (((w.alloc (.cells arr 23)).alloc (.cells mrr 23)).alloc (.cells #[.int .i64 0, .slice none 0 0, .slice none 0 0] 32)) (w.heap.size + 1 + 1) 32 #[.int .i64 0, .slice none 0 0, .slice none 0 0]
  from ⟨(((Ext.refl w).alloc _).alloc _).alloc _, ((Blk.new w _ _).alloc _).alloc _, (Blk.new' _ _ _ (by simp)).alloc _, Blk.new' _ _ _ (by simp)⟩)
 clear hn hv hm harr hmrr hchain hpath hi hM
 go_enter Tryz.func56, Tryz.ntmps56
 go_upto_region 6 with (go_at_call 71; refine (aA HV _).mono ?_; rintro e wz ⟨rfl, rfl⟩)
 generalize hW0 : (((w.alloc (.cells arr 23)).alloc (.cells mrr 23)).alloc (.cells #[.int .i64 0, .slice none 0 0, .slice none 0 0] 32)) = W0 at *
 clear hW0 hsh
 go_wp2_with (first
  | (refine aZ (ty := 23) (t := 23) (x := .tmp 4) rfl rfl aC rfl (cs := arr) (aA HZ).2.1 (aA HSZ).1 ?_)
  | (go_at_call 73; refine (aA HK _ (aA HZ).1).mono ?_; rintro e w1 ⟨A1, c1, rfl, hG⟩; have H1 := hide (And.intro hG.digs hG.ext); clear hG)
  | (go_at_call 72; refine (aA HP A1 c1 _ ((aA HZ).1.trans (aA H1).2) (aA H1).1).mono ?_; rintro e w2 ⟨A2, c2, rfl, hG⟩; have HO2 := hide (fun k (hk : (Value.slice A2 path.length c2).ownBlock = some k) => show w.heap.size + 1 + 1 < k from by have := (hG.own.lt k hk).1; have := (aA HZ).2.2.2.lt; have := (aA H1).2.size'; omega); have H2 := hide (And.intro hG.digs ((aA H1).2.trans hG.ext)); clear hG)
  | (refine aZ (ty := 23) (t := 23) (x := .tmp 4) rfl rfl aC rfl (cs := arr) ((aA HZ).2.1.ext (aA H2).2) (aA HSZ).1 ?_)
  | (refine aZ (ty := 23) (t := 23) (x := .tmp 7) rfl rfl aC rfl (cs := mrr) ((aA HZ).2.2.1.ext (aA H2).2) (aA HSZ).2 ?_)
  | (go_at_call 74; refine (aA HS _ ((aA HZ).1.trans (aA H2).2)).mono ?_; rintro e w3 ⟨A3, c3, rfl, hG⟩; have HO3 := hide (fun k (hk : (Value.slice A3 68 c3).ownBlock = some k) => show w.heap.size + 1 + 1 < k from by have := (hG.own.lt k hk).1; have := (aA HZ).2.2.2.lt; have := (aA H2).2.size'; omega); have H3 := hide (And.intro hG.digs (And.intro ((aA H2).1.ext hG.ext) ((aA H2).2.trans hG.ext))); obtain ⟨q0, q1, q2, qf, ql⟩ := ((aA HZ).2.2.2.ext (aA H3).2.2).cells3; clear hG))
 refine bodyPost_ret (v := .tuple #[.agg #[.int .i64 (i : Int), .slice A3 68 c3, .slice A2 path.length c2], .int .i64 0]) (gG nC rfl ((((aA HZ).2.2.2.ext (aA H3).2.2).set_ 0 _).set_ 1 _ |>.set_ 2 _) rfl rfl rfl) rfl ?_
 have hc : Chg (fun k => k = w.heap.size + 1 + 1) w3 (((w3.setCell ⟨w.heap.size + 1 + 1, 0, none⟩ (.int .i64 (i : Int))).setCell ⟨w.heap.size + 1 + 1, 1, none⟩ (.slice A3 68 c3)).setCell ⟨w.heap.size + 1 + 1, 2, none⟩ (.slice A2 path.length c2)) := (((Chg.refl (fun k => k = w.heap.size + 1 + 1) w3).setCell (p := ⟨w.heap.size + 1 + 1, 0, none⟩) (.inl rfl) _).setCell (p := ⟨w.heap.size + 1 + 1, 1, none⟩) (.inl rfl) _).setCell (p := ⟨w.heap.size + 1 + 1, 2, none⟩) (.inl rfl) _
 refine ⟨_, rfl, ⟨_, _, rfl, ?_, ?_⟩, ((aA HZ).1.trans (aA H3).2.2).trans' hc (fun _ _ h => h) (fun i hi e => by omega), ⟨_, _, _, rfl, fun k hk => by have := aA HO3 k hk; omega, fun k hk => by have := aA HO2 k hk; omega⟩⟩
 ·exact (aA H3).1.chg hc (fun k hk e => by have := aA HO3 k hk; omega)
 ·exact (aA H3).2.1.chg hc (fun k hk e => by have := aA HO2 k hk; omega)
end Go.Proofs.YtihghljfmlbfhaaGreatDoor
namespace Go.Proofs.YtihghljfmlbfhaaGreatDoor.Pv
open Go.RowKit
theorem aMw : SpecOk Tryz.prog ShaMem 56 (bD true aNb) := by
 refine bM (aF Tryz.func56 (by kernel_rfl) rfl) (fun xs p r hg hp w ok0 vs hI hv => ?_)
 unfold aNb at hg
 split at hg
 ·rename_i sd h i m
  cases hg
  match vs, hv with
  | [v1, v2, v3, v4], ⟨k1, k2, k3, k4, _⟩ =>
   obtain ⟨l1, rfl⟩ := kY k1
   obtain rfl := k2.lit_inv
   obtain rfl := k3.lit_inv
   obtain ⟨l4, rfl⟩ := kY k4
   by_cases ho : okH h
   ·obtain ⟨k, rfl, hk⟩ := vH h ho
    by_cases hi : i < 0
    ·have e : sgnT sd (k : Int) i m = (⟨0, [], []⟩, 1) := by
      unfold sgnT
      rw [if_pos (.inr hi)]
     rw [e]
     refine (aFd sd m _ i w (.inr hi)).mono ?_
     rintro e w' ⟨rfl, hE⟩
     exact ⟨_, rfl, hE, nT lW⟩
    ·obtain ⟨j, rfl⟩ : ∃ j : Nat, i = (j : Int) := ⟨i.toNat, by omega⟩
     by_cases hj : j < 2 ^ k
     ·have e : sgnT sd (k : Int) (j : Int) m = (⟨(j : Int), mQ sd (j : Int) m 68, dI (cO sd (2 ^ k)) j⟩, 0) := by
       unfold sgnT
       rw [if_neg (by omega)]
       simp only [Int.toNat_natCast]
       rw [if_pos hj]
      rw [e]
      refine (aQk sd m k _ rfl hk j hj w l1 l4 hI).mono ?_
      rintro e w' ⟨v, rfl, ⟨cv, pv, rfl, d1, d2⟩, hE, ⟨i', cv', pv', q, n1, n2⟩⟩
      cases q
      exact ⟨_, rfl, hE, nT (aDe d1 d2 (fun b hb => .inr (n1 b hb)) (fun b hb => .inr (n2 b hb)))⟩
     ·have e : sgnT sd (k : Int) (j : Int) m = (⟨0, [], []⟩, 17) := by
       unfold sgnT
       rw [if_neg (by omega)]
       simp only [Int.toNat_natCast]
       rw [if_neg hj]
      rw [e]
      refine (aQl sd m k _ rfl hk j w (by omega)).mono ?_
      rintro e w' ⟨rfl, hE⟩
      exact ⟨_, rfl, hE, nT lW⟩
   ·have e : sgnT sd h i m = (⟨0, [], []⟩, 1) := by
     unfold sgnT
     rw [if_pos (.inl ho)]
    rw [e]
    refine (aFd sd m h i w (.inl ho)).mono ?_
    rintro e w' ⟨rfl, hE⟩
    exact ⟨_, rfl, hE, nT lW⟩
 ·cases hg
end Go.Proofs.YtihghljfmlbfhaaGreatDoor.Pv
namespace Go.Proofs.YtihghljfmlbfhaaGreatDoor
open Go.RowKit
def Prg.sign (h : Nat) : Prg (Nat × Int) := (Prg.levelOf 2 16).bind fun n => if 2 ^ h ≤ n then .ret (n, 17) else (Prg.raiseTo 2 16 (n + 1)).bind fun p => .ret (n, p.2)
def Prg.signI (h : Int) : Prg (Nat × Int) := if 0 ≤ h ∧ h ≤ 4 then Prg.sign h.toNat else .ret (0, 1)
end Go.Proofs.YtihghljfmlbfhaaGreatDoor
namespace Go.Proofs.YtihghljfmlbfhaaGreatDoor.Pv
open Go.RowKit
def sgO (seed : List UInt8) (h : Int) (m : List UInt8) (p : Nat × Int) : Sig × Int := if p.2 = 0 then sgnT seed h p.1 m else (⟨0, [], []⟩, p.2)
def aBp (x : Sig × Int) : PV := .tup [.agg (qF x.1), .one (.lit (.int .i64 x.2))]
def sgOut (x : Sig × Int) : PV := .w (.agg (qF x.1 ++ [.lit (.int .i64 x.2)]))
def sgL : List (Nat × Spec) := (55, jL decRa) :: (56, bD true aNb) :: raL
theorem sg_ok : ∀ p ∈ sgL, SpecOk Tryz.prog ShaMem p.1 p.2 := by
 intro p hp
 simp only [sgL, List.mem_cons] at hp
 rcases hp with rfl | rfl | hp
 ·exact aGd fJ
 ·exact aMw
 ·exact ra_ok fJ p hp
theorem sgM : Mach Tryz.prog ShaMem (find sgL) := ⟨dD sg_ok, iE⟩
theorem vF (b : Int) : ∀ f n, Prg.All (fun p => p.2 = 0 ∨ p.2 = 12) (Prg.raiseFrom b f n)
 | 0, n => .inl rfl
 | f + 1, n => (Prg.All.triv (Prg.pulses b n)).bind fun _ _ => (Prg.All.triv (Prg.read b n)).bind fun x _ => by
  cases x with
  | true => exact vF b f (n + 1)
  | false => exact .inr rfl
theorem aJa (b : Int) (m t : Nat) : Prg.All (fun p => p.2 = 0 ∨ p.2 = 12) (Prg.raiseTo b m t) := (Prg.All.triv (Prg.levelOf b m)).bind fun _ _ => vF b _ _
theorem shl16 {h : Nat} (hh : h ≤ 4) : IntKind.i64.wrap (1 * 2 ^ (min ((h : Int).toNat) IntKind.i64.bits)) = ((2 ^ h : Nat) : Int) := by
 match h, hh with
 | 0, _ => rfl
 | 1, _ => rfl
 | 2, _ => rfl
 | 3, _ => rfl
 | 4, _ => rfl
def sgSt (O : List Acc → Option Res) (stp : List Acc → Prop) (seed m : List UInt8) (h : Nat) (s : List PC) (n : Nat) (e : Int) (lk : List Acc) : St :=
 ⟨[(0, none, .w (.one .dv)), (2, none, pvI h), (5, none, pv1 (.pt 0 0 0)), (7, none, pv1 (.pt 1 0 0)), (8, none, pv1 (.pt 2 0 0)), (9, none, pvI e), (10, none, pvI n)],
 [(dx, none, 0, .dev O stp lk), (0, none, 0, .box 23 [.bs 16 seed]), (1, none, 0, .box 23 [.bs 16 m]), (2, none, 0, .box 32 s)]⟩
def noSig : List PC := [.lit (.int .i64 0), .lit (.slice none 0 0), .lit (.slice none 0 0)]
theorem aFk (seed m : List UInt8) (h : Nat) (hh : h ≤ 4) : FunP Tryz.prog ShaMem 33 (Prg.sign h) [.w (.one .dv), .w (.agg [.bs 16 seed]), pvI h, .w (.agg [.bs 16 m])] (fun p => aBp (sgO seed h m p)) := by
 intro O l
 have M := sgM
 refine iF Tryz.func33 rfl rfl rfl (fun A hn hI => ?_)
 generalize hstp : (fun g => l <+: g ∧ g <+: (go O (Prg.sign h) l).2) = stp
 have hL0 : Left O (Prg.sign h) l ((Prg.levelOf 2 16).bind fun n => if 2 ^ h ≤ n then .ret (n, 17) else (Prg.raiseTo 2 16 (n + 1)).bind fun p => .ret (n, p.2)) l := Left.start _ _ _
 have hn0 : (go O (Prg.levelOf 2 16) l).1 ≤ 16 := aTv O (kE 2 16) l
 have hL := hL0.step
 have hsh := shl16 hh
 refine aB M hI hn (by rfl) (by kernel_rfl) ?_ ?_
 ·simp
 refine aFe ?_
 refine aI ?_
 refine aFf ?_
 change Tri _ _ _ _ _
 refine aI ?_
 refine aB M hI hn (by rfl) (by kernel_rfl) ?_ ?_
 ·simp
  refine fun g h1 h2 h3 => ?_
  rw [← hstp]
  exact hL0.stp g h1 h2 h3
 obtain ⟨n0, l0, hq⟩ : ∃ n0 l0, go O (Prg.levelOf 2 16) l = (n0, l0) := ⟨_, _, rfl⟩
 rw [hq] at hn0 hL
 dsimp only at hn0 hL
 refine aV (s' := sgSt O stp seed m h noSig n0 0 l0) (fun a w hg => (hg.reset (kT := [0, 2, 5, 7, 8, 9, 10]) (kO := [900000, 0, 1, 2]) (by rfl) (by simp)).same ?_ ?_) ?_
 ·exact .cons rfl (.cons rfl (.cons rfl (.cons rfl (.cons rfl (.cons rfl (.cons (by show pvI ((go O (Prg.levelOf 2 16) l).1 : Int) = _; rw [hq]) .nil))))))
 ·exact .cons (.dev (by show (go O (Prg.levelOf 2 16) l).2 = _; rw [hq])) (.cons (.box rfl) (.cons (.box rfl) (.cons (.box rfl) .nil)))
 refine bI ?_
 refine aB M hI hn (by rfl) (by kernel_rfl) ?_ ?_
 ·simp
 refine aJ (by rfl) (fun hc => ?_) (fun hc => ?_)
 ·have hge : 2 ^ h ≤ n0 := by
   have := of_decide_eq_true hc
   rw [hsh] at this
   omega
  rw [if_pos hge] at hL
  have hE : go O (Prg.sign h) l = ((n0, 17), l0) := hL.2
  refine aB M hI hn (by rfl) (by kernel_rfl) ?_ ?_
  ·simp
  refine dZ ?_
  change Tri _ _ _ _ _
  refine aB M hI hn (by rfl) (by kernel_rfl) ?_ ?_
  ·simp
  refine bC (fun a w hg => ⟨.inr rfl, _, ⟨?_, (fun o ho => by cases ho), fun p hp => ?_⟩, hg⟩)
  rotate_left 1
  ·cases hp
   rw [hE]
   rfl
  refine iL (by rfl) (by simp) (by rfl) ?_
  ·rw [hE]
   exact .tup (.cons (.agg (.cons (.cold rfl) (.cons .nil (.cons .nil .nil)))) (.cons (.one (.cold rfl)) .nil))
 ·have hge : ¬ 2 ^ h ≤ n0 := by
   have := of_decide_eq_false hc
   rw [hsh] at this
   omega
  rw [if_neg hge] at hL
  have hL2 := hL.step
  have hw : (IntKind.i64.wrap ((n0 : Int) + 1)).toNat = n0 + 1 := by rw [bZ n0 (by omega)]; exact Int.toNat_natCast _
  have hw2 : IntKind.i64.wrap ((n0 : Int) + 1) = ((n0 + 1 : Nat) : Int) := bZ n0 (by omega)
  refine aI ?_
  refine aB M hI hn (by rfl) (by kernel_rfl) ?_ ?_
  ·simp
   rw [hw2]
   refine ⟨by omega, fun g h1 h2 h3 => ?_⟩
   rw [← hstp]
   exact hL.stp g h1 h2 h3
  have he1 : (go O (Prg.raiseTo 2 16 (n0 + 1)) l0).1.2 = 0 ∨ (go O (Prg.raiseTo 2 16 (n0 + 1)) l0).1.2 = 12 := aTv O (aJa 2 16 (n0 + 1)) l0
  obtain ⟨m1, e1, l1, hq1⟩ : ∃ m1 e1 l1, go O (Prg.raiseTo 2 16 (n0 + 1)) l0 = ((m1, e1), l1) := ⟨_, _, _, rfl⟩
  rw [hq1] at hL2 he1
  dsimp only at hL2 he1
  have hE : go O (Prg.sign h) l = ((n0, e1), l1) := hL2.2
  refine aV (s' := sgSt O stp seed m h noSig n0 e1 l1) (fun a w hg => (hg.reset (kT := [0, 2, 5, 7, 8, 9, 10]) (kO := [900000, 0, 1, 2]) (by rfl) (by simp)).same ?_ ?_) ?_
  ·exact .cons rfl (.cons rfl (.cons rfl (.cons rfl (.cons rfl (.cons (by show pvI ((go O (Prg.raiseTo 2 16 (IntKind.i64.wrap ((n0 : Int) + 1)).toNat) l0).1.2) = _; rw [hw, hq1]) (.cons rfl .nil))))))
  ·exact .cons (.dev (by show (go O (Prg.raiseTo 2 16 (IntKind.i64.wrap ((n0 : Int) + 1)).toNat) l0).2 = _; rw [hw, hq1])) (.cons (.box rfl) (.cons (.box rfl) (.cons (.box rfl) .nil)))
  refine aB M hI hn (by rfl) (by kernel_rfl) ?_ ?_
  ·simp
  refine aJ (by rfl) (fun hc => ?_) (fun hc => ?_)
  ·have hne : ¬ e1 = 0 := by
    have h2 : (e1 != 0) = true := hc
    simpa using h2
   have hO : sgO seed h m (n0, e1) = (⟨0, [], []⟩, e1) := if_neg hne
   refine dZ ?_
   change Tri _ _ _ _ _
   refine aB M hI hn (by rfl) (by kernel_rfl) ?_ ?_
   ·simp
   refine bC (fun a w hg => ⟨.inr rfl, _, ⟨?_, (fun o ho => by cases ho), fun p hp => ?_⟩, hg⟩)
   rotate_left 1
   ·cases hp
    rw [hE]
    rfl
   refine iL (by rfl) (by simp) (by rfl) ?_
   ·rw [hE]
    show ExV _ _ _ (aBp (sgO seed h m (n0, e1))); rw [hO]; exact .tup (.cons (.agg (.cons (.cold rfl) (.cons .nil (.cons .nil .nil)))) (.cons (.one (.cold rfl)) .nil))
  ·have hz : e1 = 0 := by
    have h2 : (e1 != 0) = false := hc
    simpa using h2
   have hO : sgO seed h m (n0, e1) = sgnT seed h n0 m := if_pos hz
   refine aN ?_
   change Tri _ _ _ _ _
   refine aS M hI hn (by rfl) (by kernel_rfl) ?_ ?_
   ·simp
   change Tri _ _ _ _ _
   obtain ⟨x, hx⟩ : ∃ x, sgnT seed h n0 m = x := ⟨_, rfl⟩
   rw [hx] at hO
   refine aV (s' := sgSt O stp seed m h (qF x.1) n0 x.2 l1) (fun a w hg => (hg.reset (kT := [0, 2, 5, 7, 8, 9, 10]) (kO := [900000, 0, 1, 2]) (by rfl) (by simp)).same ?_ ?_) ?_
   ·exact .cons rfl (.cons rfl (.cons rfl (.cons rfl (.cons rfl (.cons (by rw [← hx]) (.cons rfl .nil))))))
   ·exact .cons (.dev rfl) (.cons (.box rfl) (.cons (.box rfl) (.cons (.box (by rw [← hx]; rfl)) .nil)))
   refine aB M hI hn (by rfl) (by kernel_rfl) ?_ ?_
   ·simp
   refine bC (fun a w hg => ⟨.inr rfl, _, ⟨?_, (fun o ho => by cases ho), fun p hp => ?_⟩, hg⟩)
   rotate_left 1
   ·cases hp
    rw [hE]
    rfl
   refine iL (by rfl) (by simp) (by rfl) ?_
   ·rw [hE]
    show ExV _ _ _ (aBp (sgO seed h m (n0, e1))); rw [hO]; exact .tup (.cons (.agg (.cons (.cold rfl) (.cons (.cold rfl) (.cons (.cold rfl) .nil)))) (.cons (.one (.cold rfl)) .nil))
def decSg : List PV → Option (Prop × Prg (Nat × Int) × (Nat × Int → PV))
 | [.w (.agg [.bs 16 seed]), .w (.one (.lit (.int .i64 h))), .w (.agg [.bs 16 m])] => some (0 ≤ h ∧ h ≤ 4, Prg.sign h.toNat, fun p => aBp (sgO seed h m p))
 | _ => none
theorem aDc : SpecOk Tryz.prog ShaMem 33 (jL decSg) :=
 jZ (aF Tryz.func33 (by kernel_rfl) rfl) (fun ys c p v h hc => by
  unfold decSg at h
  split at h
  ·rename_i seed b m
   cases h
   obtain ⟨k, rfl⟩ : ∃ k : Nat, b = (k : Int) := ⟨b.toNat, by omega⟩
   rw [Int.toNat_natCast]
   exact aFk seed m k (by omega)
  ·cases h)
def s1L : List (Nat × Spec) := [(33, jL decSg)]
theorem s1M : Mach Tryz.prog ShaMem (find s1L) := ⟨dD (fun p hp => by
 simp only [s1L, List.mem_cons, List.not_mem_nil, or_false] at hp
 subst hp
 exact aDc), iE⟩
def aAw (seed m : List UInt8) (h : Int) : List Ob := [⟨900001, 3, [.lit (.int .i64 h)], [.lit (.int .i64 h)]⟩, ⟨900002, 23, [.bs 16 seed], [.bs 16 seed]⟩, ⟨900003, 23, [.bs 16 m], [.bs 16 m]⟩]
theorem aFl (seed m : List UInt8) (h : Int) (O : List Acc → Option Res) (l : List Acc) : FunX Tryz.prog ShaMem 32 false (aAw seed m h) O (some (l, (go O (Prg.signI h) l).2)) (fun g => l <+: g ∧ g <+: (go O (Prg.signI h) l).2)
  [.w (.one .dv), pv1 (.pt 900001 0 0), pv1 (.pt 900002 0 0), pv1 (.pt 900003 0 0)] (sgOut (sgO seed h m (go O (Prg.signI h) l).1)) := by
 have M := s1M
 refine iF Tryz.func32 rfl rfl rfl (fun A hn hI => ?_)
 generalize hstp : (fun g => l <+: g ∧ g <+: (go O (Prg.signI h) l).2) = stp
 refine aB M hI hn (by rfl) (by kernel_rfl) ?_ ?_
 ·simp
 refine aI ?_
 refine aB M hI hn (by rfl) (by kernel_rfl) ?_ ?_
 ·simp
 refine aJ (by rfl) (fun hc => ?_) (fun hc => ?_)
 ·have hh : ¬ (0 ≤ h ∧ h ≤ 4) := by
   intro hh
   have hc' : (bif decide (h < 0) then true else decide (h > 4)) = true := hc
   rw [decide_eq_false (by omega), decide_eq_false (by omega)] at hc'
   cases hc'
  have hE : go O (Prg.signI h) l = ((0, 1), l) := by unfold Prg.signI; rw [if_neg hh]; rfl
  refine aB M hI hn (by rfl) (by kernel_rfl) ?_ ?_
  ·simp
  refine bC (fun a w hg => ⟨.inr rfl, _, ⟨?_, ?_, fun p hp => ?_⟩, hg⟩)
  rotate_left 1
  ·intro o ho
   simp only [aAw, List.mem_cons, List.not_mem_nil, or_false] at ho
   rcases ho with rfl | rfl | rfl <;> exact ⟨_, rfl, .cons (.cold rfl) .nil⟩
  ·cases hp
   rw [hE]; rfl
  refine iL (by rfl) (by simp) (by rfl) ?_
  rw [hE]
  exact .w (.agg (.cons (.cold rfl) (.cons .nil (.cons .nil (.cons (.cold rfl) .nil)))))
 ·have hh : 0 ≤ h ∧ h ≤ 4 := by
   have hc' : (bif decide (h < 0) then true else decide (h > 4)) = false := hc
   have h1 : ¬ h < 0 := fun hx => by rw [decide_eq_true hx] at hc'; cases hc'
   have h2 : ¬ h > 4 := fun hx => by rw [decide_eq_false h1, decide_eq_true hx] at hc'; cases hc'
   omega
  have hP : Prg.signI h = Prg.sign h.toNat := by unfold Prg.signI; rw [if_pos hh]
  rw [hP] at hstp ⊢
  refine aN ?_
  change Tri _ _ _ _ _
  refine aB M hI hn (by rfl) (by kernel_rfl) ?_ ?_
  ·simp
   refine ⟨hh, fun g h1 h2 _ => ?_⟩
   rw [← hstp]
   exact ⟨h1, h2⟩
  refine aB M hI hn (by rfl) (by kernel_rfl) ?_ ?_
  ·simp
  refine bC (fun a w hg => ⟨.inr rfl, _, ⟨?_, ?_, fun p hp => ?_⟩, hg⟩)
  rotate_left 1
  ·intro o ho
   simp only [aAw, List.mem_cons, List.not_mem_nil, or_false] at ho
   rcases ho with rfl | rfl | rfl <;> exact ⟨_, rfl, .cons (.cold rfl) .nil⟩
  ·cases hp
   rfl
  refine iL (by rfl) (by simp) (by rfl) ?_
  exact .w (.agg (.cons (.cold rfl) (.cons (.cold rfl) (.cons (.cold rfl) (.cons (.cold rfl) .nil)))))
end Go.Proofs.YtihghljfmlbfhaaGreatDoor.Pv
namespace Go.Proofs.YtihghljfmlbfhaaGreatDoor
open Go.RowKit
theorem aGe (t : Nat) (h : t ≤ 16) : Prg.In 48 (Prg.raiseTo 2 16 t) := aOa 16 t h
theorem sign_in (h : Nat) (hh : h ≤ 4) : Prg.In 48 (Prg.sign h) := by
 unfold Prg.sign
 refine (aCa 16).bind (kE 2 16) fun n hn => ?_
 have h16 : 2 ^ h ≤ 16 := rY h h (Nat.le_refl _) hh
 by_cases hg : 2 ^ h ≤ n
 ·rw [if_pos hg]; trivial
 ·rw [if_neg hg]
  exact (aGe (n + 1) (by omega)).bind' fun _ => trivial
theorem aDd (h : Int) : Prg.In 48 (Prg.signI h) := by
 unfold Prg.signI
 split
 ·exact sign_in _ (by omega)
 ·trivial
theorem mZ (h : Int) : (Prg.signI h).Within 399 := by
 unfold Prg.signI
 split
 ·unfold Prg.sign
  refine Within.mono (n := 96 + 300) (Within.bindR (m := 300) (sU 2 16) (kE 2 16) fun n hn => ?_) (by omega)
  split
  ·exact Within.mono (n := 0) trivial (by omega)
  ·exact Within.mono (Within.bind (m := 0) (aAu 2 16 (n + 1)) fun _ => trivial) (by omega)
 ·exact Within.mono (n := 0) trivial (by omega)
end Go.Proofs.YtihghljfmlbfhaaGreatDoor
namespace Go.Proofs.YtihghljfmlbfhaaGreatDoor.Pv
open Go.RowKit
def kT1 : Nat := 1
def kT2 : Nat := 0
def okL (K X : Nat → Prop) (gN gF gH : Nat) : Nat → Prop := fun b => K b ∧ ¬ X b ∧ b ≠ gN ∧ b ≠ gF ∧ b ≠ gH
structure LiveB (K : Nat → Prop) (gN gF gH : Nat) (F : List Flt) (h0 : HwS) (l : List Acc) (X : Nat → Prop) (w : World) : Prop where
 bn : Blk w gN 3 #[.int .i64 (l.length : Int)]
 bf : ∃ cs, Blk w gF 43 cs ∧ RL { w := w, ok := okL K X gN gF gH, env := fun _ => none } [mF F] cs.toList
 bh : ∃ cs, Blk w gH 54 cs ∧ RL { w := w, ok := okL K X gN gF gH, env := fun _ => none } (hwL (stL F h0 l 0)) cs.toList
 ne : gN ≠ gF ∧ gN ≠ gH ∧ gF ≠ gH
 good : ∀ c ∈ l, sQ c
 mine : ∀ b, X b → b < w.heap.size ∧ b ≠ gN ∧ b ≠ gF ∧ b ≠ gH
 mem : ShaMem w
 tab : ∀ b, b = kT1 ∨ b = kT2 → ¬ X b ∧ b ≠ gN ∧ b ≠ gF ∧ b ≠ gH
 up : ∀ b, w.heap.size ≤ b → K b
theorem sha_lt {w : World} (h : ShaMem w) {b : Nat} (hb : b = kT1 ∨ b = kT2) : b < w.heap.size := by
 rcases hb with rfl | rfl
 ·exact lt_of_cell (h.k 0 _ rfl)
 ·exact lt_of_cell (h.h 0 _ rfl)
theorem aId {S : Nat → Prop} {w w' : World} (h : ShaMem w) (hc : Chg S w w') (hS : ∀ b, b = kT1 ∨ b = kT2 → ¬ S b) : ShaMem w' := h.chg hc (hS _ (.inl rfl)) (hS _ (.inr rfl))
theorem LiveB.grow {K : Nat → Prop} {gN gF gH : Nat} {F : List Flt} {h0 : HwS} {l : List Acc} {X Y : Nat → Prop} {w w' : World} (h : LiveB K gN gF gH F h0 l X w) (hc : Chg X w w') (hy : ∀ b, Y b → X b ∨ (w.heap.size ≤ b ∧ b < w'.heap.size)) : LiveB K gN gF gH F h0 l Y w' := by
 have nX : ∀ g, (g = gN ∨ g = gF ∨ g = gH) → ¬ X g := fun g hg hx => by
  have := (h.mine g hx).2
  rcases hg with rfl | rfl | rfl
  ·exact this.1 rfl
  ·exact this.2.1 rfl
  ·exact this.2.2 rfl
 have hle : ∀ {p : List PC} {xs : List Value}, RL { w := w, ok := okL K X gN gF gH, env := fun _ => none } p xs → RL { w := w', ok := okL K Y gN gF gH, env := fun _ => none } p xs := fun hr =>
  hr.le ⟨hc.size, fun b hb hok => ⟨⟨hok.1, fun hyb => (hy b hyb).elim hok.2.1 (fun h1 => by have hb' : b < w.heap.size := hb; omega), hok.2.2⟩, hc.block b hb hok.2.1⟩, fun _ _ _ h => by cases h⟩
 obtain ⟨c1, k1, k2⟩ := h.bf
 obtain ⟨c2, k3, k4⟩ := h.bh
 have lN := h.bn.lt
 have lF := k1.lt
 have lH := k3.lt
 refine ⟨h.bn.chg hc (nX _ (.inl rfl)), ⟨c1, k1.chg hc (nX _ (.inr (.inl rfl))), hle k2⟩, ⟨c2, k3.chg hc (nX _ (.inr (.inr rfl))), hle k4⟩, h.ne, h.good, fun b hb => ?_, aId h.mem hc (fun b hb => (h.tab b hb).1), fun b hb => ⟨fun hyb => ?_, (h.tab b hb).2⟩, fun b hb => h.up b (Nat.le_trans hc.size hb)⟩
 ·rcases hy b hb with h1 | h1
  ·exact ⟨Nat.lt_of_lt_of_le (h.mine b h1).1 hc.size, (h.mine b h1).2⟩
  ·exact ⟨h1.2, by omega, by omega, by omega⟩
 ·rcases hy b hyb with h1 | h1
  ·exact (h.tab b hb).1 h1
  ·have := sha_lt h.mem hb
   omega
def xZ : List PanicEntry := [{ v := cutV, recovered := false }]
def aDu (K : Nat → Prop) (gN gF gH : Nat) (F : List Flt) (h0 : HwS) : Dv where
 hd := .func (.func 38) #[] #[.pointer (some ⟨gN, 0, none⟩), .pointer (some ⟨gF, 0, none⟩), .pointer (some ⟨gH, 0, none⟩)]
 O := mV F h0
 S := fun b => b = gN ∨ b = gF ∨ b = gH
 inv l X w := LiveB K gN gF gH F h0 l X w ∧ NoCut F l.length
 pan l X w chain := chain = xZ ∧ LiveB K gN gF gH F h0 l X w ∧ ∃ l' c, l = l' ++ [c] ∧ NoCut F l'.length ∧ (bV F l'.length).cut = true
 one := rfl
 noBlk := rfl
 notS := fun l X w b h hx hs => by
  have := (h.1.mine b hx).2
  rcases hs with rfl | rfl | rfl
  ·exact this.1 rfl
  ·exact this.2.1 rfl
  ·exact this.2.2 rfl
 grow := fun l X Y w w' h hc hy => ⟨h.1.grow hc hy, h.2⟩
theorem aTa (K : Nat → Prop) (gN gF gH : Nat) (F : List Flt) (h0 : HwS) : ∀ l X Y w w' chain, (aDu K gN gF gH F h0).pan l X w chain → Chg X w w' → (∀ b, Y b → X b) → (aDu K gN gF gH F h0).pan l Y w' chain :=
 fun _ _ _ _ _ _ h hc hy => ⟨h.1, h.2.1.grow hc (fun b hb => .inl (hy b hb)), h.2.2⟩
theorem aOp {α : Type} (K : Nat → Prop) (gN gF gH : Nat) (F : List Flt) (h0 : HwS) (hF : F.length ≤ 1000000) (hd : Dim h0) (p : Prg α) (hp : Prg.In 48 p) (hl : (go (mV F h0) p []).2.length ≤ 1000000) :
  oP Tryz.prog (aDu K gN gF gH F h0) (fun h => [] <+: h ∧ h <+: (go (mV F h0) p []).2) := by
 intro l X w ⟨hB, hN⟩
 refine ⟨_, _, rfl, (fun args w => by kernel_rfl), fun c hc => ?_⟩
 have hO := aBz F h0 l c
 have hgc : sQ c := by
  by_cases g : sQ c
  ·exact g
  ·have h1 : (aDu K gN gF gH F h0).O (l ++ [c]) = none := by
    show mV F h0 (l ++ [c]) = none
    rw [hO, if_pos (.inr (.inl g))]
   exact go_good (mV F h0) p hp [] (fun _ h => by cases h) c ((hc h1).2.subset (by simp))
 have hlen : l.length ≤ 1000000 := by
  rcases Nat.lt_or_ge 1000000 l.length with h2 | h2
  ·have h1 : (aDu K gN gF gH F h0).O (l ++ [c]) = none := by
    show mV F h0 (l ++ [c]) = none
    rw [hO, if_pos (.inr (.inr h2))]
   have h3 := (hc h1).2.length_le
   rw [List.length_append, List.length_singleton] at h3
   omega
  ·exact h2
 have hdim := aQo (F := F) l 0 hd hB.good
 have hg : GoodA (stL F h0 l 0) c := ⟨hgc.1, hgc.2.1, hgc.2.2.2.2, ⟨hdim.ok, hdim.ex hgc⟩⟩
 have hst := aKu F l c h0
 obtain ⟨bl, hb1, hb2, hb3⟩ : ∃ bl : Nat → Nat, bl 900001 = gN ∧ bl 900002 = gF ∧ bl 900003 = gH := ⟨fun x => if x = 900001 then gN else if x = 900002 then gF else gH, rfl, rfl, rfl⟩
 have hobs : ∀ {h' : HwS} {o : Ob}, o ∈ lZ F (stL F h0 l 0) h' l.length → (o.x = 900001 ∧ o.t = 3 ∧ o.l = [.lit (.int .i64 (l.length : Int))] ∧ o.l' = [.lit (.int .i64 ((l.length + 1 : Nat) : Int))]) ∨ (o.x = 900002 ∧ o.t = 43 ∧ o.l = [mF F] ∧ o.l' = [mF F]) ∨ (o.x = 900003 ∧ o.t = 54 ∧ o.l = hwL (stL F h0 l 0) ∧ o.l' = hwL h') := by
  intro h' o ho
  simp only [lZ, List.mem_cons, List.not_mem_nil, or_false] at ho
  rcases ho with rfl | rfl | rfl
  ·exact .inl ⟨rfl, rfl, rfl, rfl⟩
  ·exact .inr (.inl ⟨rfl, rfl, rfl, rfl⟩)
  ·exact .inr (.inr ⟨rfl, rfl, rfl, rfl⟩)
 have hSX : ∀ {h' : HwS} b, SX (lZ F (stL F h0 l 0) h' l.length) bl Dv.non b → b = gN ∨ b = gF ∨ b = gH := by
  rintro h' b (hb | ⟨o, ho, rfl⟩)
  ·exact hb.elim
  ·rcases hobs ho with ⟨e, _⟩ | ⟨e, _⟩ | ⟨e, _⟩ <;> rw [e] <;> simp [hb1, hb2, hb3]
 obtain ⟨n1, n2, n3⟩ := hB.ne
 obtain ⟨cF, f1, f2⟩ := hB.bf
 obtain ⟨cH, f3, f4⟩ := hB.bh
 have e1 : Value.pointer (some ⟨gN, 0, none⟩) = .pointer (some ⟨bl 900001, 0, none⟩) := by rw [hb1]
 have e2 : Value.pointer (some ⟨gF, 0, none⟩) = .pointer (some ⟨bl 900002, 0, none⟩) := by rw [hb2]
 have e3 : Value.pointer (some ⟨gH, 0, none⟩) = .pointer (some ⟨bl 900003, 0, none⟩) := by rw [hb3]
 refine (aOm F (stL F h0 l 0) l.length c hg hlen hF w (okL K X gN gF gH) [c.v, .pointer (some ⟨gN, 0, none⟩), .pointer (some ⟨gF, 0, none⟩), .pointer (some ⟨gH, 0, none⟩)] bl
  (fun w' hc => aId hB.mem hc (fun b hb hs => ?_)) (fun b hb => ?_) (fun o ho => ?_) (fun o ho o' ho' e => ?_) ⟨?_, ?_, ?_, ?_, trivial⟩).mono ?_
 ·have := (hB.tab b hb).2
  rcases hSX b hs with h | h | h
  ·exact this.1 h
  ·exact this.2.1 h
  ·exact this.2.2 h
 ·rcases hSX b hb with rfl | rfl | rfl
  ·exact ⟨hB.bn.lt, fun h => h.2.2.1 rfl⟩
  ·exact ⟨f1.lt, fun h => h.2.2.2.1 rfl⟩
  ·exact ⟨f3.lt, fun h => h.2.2.2.2 rfl⟩
 ·rcases hobs ho with ⟨k1, k2, k3, _⟩ | ⟨k1, k2, k3, _⟩ | ⟨k1, k2, k3, _⟩ <;> rw [k1, k2, k3]
  ·exact ⟨_, by rw [hb1]; exact hB.bn, .cons (xs := [_]) (.lit rfl) .nil⟩
  ·exact ⟨cF, by rw [hb2]; exact f1, f2⟩
  ·exact ⟨cH, by rw [hb3]; exact f3, f4⟩
 ·rcases hobs ho with ⟨k1, _⟩ | ⟨k1, _⟩ | ⟨k1, _⟩ <;> rcases hobs ho' with ⟨k2, _⟩ | ⟨k2, _⟩ | ⟨k2, _⟩ <;> rw [k1, k2] at e ⊢ <;> simp only [hb1, hb2, hb3] at e <;> first | (exact absurd e n1) | (exact absurd e n2) | (exact absurd e n3) | (exact absurd e.symm n1) | (exact absurd e.symm n2) | (exact absurd e.symm n3)
 ·exact .w (.agg (.cons (xs := [_]) (.lit rfl) (.cons (xs := [_]) (.lit rfl) (.cons (xs := [_]) (.lit rfl) (.cons (xs := [_]) (.lit rfl) .nil)))))
 ·exact .w (.one (.pt ⟨_, _, rfl⟩ ⟨0, _, rfl, Nat.le_refl _, fun _ => ⟨_, rfl, e1⟩⟩))
 ·exact .w (.one (.pt ⟨_, _, rfl⟩ ⟨0, _, rfl, Nat.le_refl _, fun _ => ⟨_, rfl, e2⟩⟩))
 ·exact .w (.one (.pt ⟨_, _, rfl⟩ ⟨0, _, rfl, Nat.le_refl _, fun _ => ⟨_, rfl, e3⟩⟩))
 rintro e w' ⟨hcw, hob, hres⟩
 refine ⟨hcw.mono fun b _ hb => hSX b hb, ?_⟩
 have hB' : LiveB K gN gF gH F h0 (l ++ [c]) X w' := by
  have hle : ∀ {p : List PC} {xs : List Value}, RL { w := w', ok := qG w (okL K X gN gF gH) false, env := fun _ => none } p xs → RL { w := w', ok := okL K X gN gF gH, env := fun _ => none } p xs := fun hr =>
   hr.le ⟨Nat.le_refl _, fun b hb hok => ⟨hok.elim (fun h => h.2) (fun h => by have h' : w.heap.size ≤ b := h; exact ⟨hB.up b h', fun hx => by have := (hB.mine b hx).1; omega, by have := hB.bn.lt; omega, by have := f1.lt; omega, by have := f3.lt; omega⟩), rfl⟩, fun _ _ _ h => by cases h⟩
  have o1 := hob ⟨900001, 3, [.lit (.int .i64 (l.length : Int))], [.lit (.int .i64 ((l.length + 1 : Nat) : Int))]⟩ (by simp [lZ])
  have o2 := hob ⟨900002, 43, [mF F], [mF F]⟩ (by simp [lZ])
  have o3 := hob ⟨900003, 54, hwL (stL F h0 l 0), hwL (dF (stL F h0 l 0) c (bV F l.length)).1⟩ (by simp [lZ])
  dsimp only at o1 o2 o3
  rw [hb1] at o1
  rw [hb2] at o2
  rw [hb3] at o3
  obtain ⟨c1, p1, p2⟩ := o1
  obtain ⟨c2, p3, p4⟩ := o2
  obtain ⟨c3, p5, p6⟩ := o3
  refine ⟨?_, ⟨c2, p3, hle p4⟩, ⟨c3, p5, ?_⟩, hB.ne, fun x hx => ?_, fun b hb => ⟨Nat.lt_of_lt_of_le (hB.mine b hb).1 hcw.size, (hB.mine b hb).2⟩, aId hB.mem hcw (fun b hb hs => ?_), hB.tab, fun b hb => hB.up b (Nat.le_trans hcw.size hb)⟩
  ·have hcs : c1 = #[.int .i64 ((l.length + 1 : Nat) : Int)] := by
    apply Array.ext'
    generalize c1.toList = z at p2
    cases p2 with
    | cons q1 q2 => cases q2; cases q1; rfl
   rw [hcs] at p1
   rw [List.length_append, List.length_singleton]
   exact p1
  ·rw [hst]
   exact hle p6
  ·rcases List.mem_append.1 hx with hx | hx
   ·exact hB.good x hx
   ·obtain rfl := List.mem_singleton.1 hx
    exact hgc
  ·have := (hB.tab b hb).2
   rcases hSX b hs with h | h | h
   ·exact this.1 h
   ·exact this.2.1 h
   ·exact this.2.2 h
 by_cases hcut : (bV F l.length).cut = true
 ·right
  unfold aJz at hres
  rw [if_pos hcut] at hres
  refine ⟨xZ, ?_, hres, rfl, hB', l, c, rfl, hN, hcut⟩
  show mV F h0 (l ++ [c]) = none
  rw [hO, if_pos (.inl hcut)]
 ·left
  unfold aJz at hres
  rw [if_neg hcut] at hres
  obtain ⟨val, rfl, hv⟩ := hres
  refine ⟨(dF (stL F h0 l 0) c (bV F l.length)).2.1, ?_, ?_, hB', fun k hk => ?_⟩
  ·show mV F h0 (l ++ [c]) = some _
   rw [hO, if_neg (fun h => h.elim hcut fun h => h.elim (fun h => h hgc) (fun h => by omega))]
  ·congr 1
   generalize (dF (stL F h0 l 0) c (bV F l.length)).2.1 = r at hv
   cases hv with
   | w hv => cases hv with
    | @agg _ cs hv =>
     obtain ⟨cs⟩ := cs
     dsimp only at hv
     cases hv with
     | cons q1 hv => cases hv with
      | cons q2 hv => cases hv; cases q1; cases q2; rfl
  ·rw [List.length_append, List.length_singleton] at hk
   rcases Nat.lt_or_ge k l.length with h | h
   ·exact hN k h
   ·obtain rfl : k = l.length := by omega
    simpa using hcut
structure Loc (P : Program) (T : TypeId) (b : Nat) (t : TypeId) (cs : Array Value) (v : Value) : Prop where
 ld : ∀ w, Blk w b t cs → (Instr.loadAt T (.pointer (some ⟨b, 0, none⟩))).run P w = .ok v w
 st : ∀ w old, old.size = cs.size → Blk w b t old → ∃ w', (Instr.storeAt T (.pointer (some ⟨b, 0, none⟩)) v).run P w = .ok () w' ∧ Blk w' b t cs ∧ Chg (fun k => k = b) w w' ∧ w'.heap.size = w.heap.size
theorem Loc.wide {P : Program} {T : TypeId} {n : Nat} (W : Wide P T n) (b : Nat) (t : TypeId) (cs : Array Value) (hn : cs.size = n) (h1 : cs.all (·.oneCell') = true) : Loc P T b t cs (.agg cs) := by
 refine ⟨fun w hB => ?_, fun w old ho hB => ⟨_, run_storeAt_mid w b 0 T cs (by rw [← ho]; exact hB.there_) (by rw [hn]; exact W.info) h1, yM hB ho, (dW b cs.toList 0 w).1, (dW b cs.toList 0 w).2⟩⟩
 obtain ⟨d, hu, hd⟩ := W.und
 have := run_loadAt_mid (P := P) w b 0 T cs.toList d hB.range hu hd (by rw [Array.length_toList, hn]; exact W.info)
 rw [Array.toArray_toList] at this
 exact this
def lvO0 (T : TypeId) (p : String) : Oper := ⟨some 17, .load T (.tmp 6), T, p, #[], none⟩
def lvO1 (T : TypeId) (p : String) : Oper := ⟨some 18, .load T (.tmp 7), T, p, #[], none⟩
def lvO2 (T : TypeId) (p : String) : Oper := ⟨some 19, .load T (.tmp 8), T, p, #[], none⟩
def lvO3 (T : TypeId) (p : String) : Oper := ⟨none, .store T (.tmp 6) (.tmp 17), 0, p, #[⟨0, .data⟩, ⟨0, .phase⟩, ⟨1, .textOnly .lateStoresUnsure⟩, ⟨2, .textOnly .lateStoresUnsure⟩], none⟩
def lvO4 (T : TypeId) (p : String) : Oper := ⟨none, .store T (.tmp 7) (.tmp 18), 0, p, #[⟨1, .data⟩, ⟨3, .chain⟩, ⟨0, .phase⟩, ⟨1, .phase⟩, ⟨2, .textOnly .lateStoresUnsure⟩, ⟨3, .phase⟩], none⟩
def lvO5 (T : TypeId) (p : String) : Oper := ⟨none, .store T (.tmp 8) (.tmp 19), 0, p, #[⟨2, .data⟩, ⟨4, .chain⟩, ⟨0, .phase⟩, ⟨1, .phase⟩, ⟨2, .phase⟩, ⟨3, .phase⟩, ⟨4, .phase⟩], none⟩
def lvO6 (T : TypeId) (p : String) : Oper := ⟨none, .store T (.tmp 9) (.const (.bool true)), 0, p, #[⟨5, .chain⟩, ⟨0, .phase⟩, ⟨1, .phase⟩, ⟨2, .phase⟩, ⟨3, .phase⟩, ⟨4, .phase⟩, ⟨5, .phase⟩], none⟩
def kZ (T1 T2 T3 T4 : TypeId) (p : String) : Array Oper := #[lvO0 T1 p, lvO1 T2 p, lvO2 T3 p, lvO3 T1 p, lvO4 T2 p, lvO5 T3 p, lvO6 T4 p]
structure LvV where
 a0 : Act
 w0 : World
 b1 : Nat
 b2 : Nat
 b3 : Nat
 b4 : Nat
 t1 : TypeId
 t2 : TypeId
 t3 : TypeId
 t4 : TypeId
 c1 : Array Value
 c2 : Array Value
 c3 : Array Value
 v1 : Value
 v2 : Value
 v3 : Value
structure LvI (V : LvV) (x y z f : Bool) (a : Act) (w : World) : Prop where
 ds : a.defers = V.a0.defers
 sz : a.tmps.size = V.a0.tmps.size
 tm : ∀ t, t < 17 → a.tmps.getD t undef = V.a0.tmps.getD t undef
 l1 : x = true → a.tmps.getD 17 undef = V.v1
 l2 : y = true → a.tmps.getD 18 undef = V.v2
 l3 : z = true → a.tmps.getD 19 undef = V.v3
 k1 : Blk w V.b1 V.t1 V.c1
 k2 : Blk w V.b2 V.t2 V.c2
 k3 : Blk w V.b3 V.t3 V.c3
 k4 : ∃ v, Blk w V.b4 V.t4 #[v] ∧ (f = true → v = .bool true)
 chg : Chg (fun k => k = V.b1 ∨ k = V.b2 ∨ k = V.b3 ∨ k = V.b4) V.w0 w
 size : w.heap.size = V.w0.heap.size
theorem pY {a : Array Value} {i : Nat} (h : i < a.size) (v : Value) : (a.setIfInBounds i v).getD i undef = v := by
 simp [Array.getD_eq_getD_getElem?, h]
theorem getD_set_ne {a : Array Value} {i j : Nat} (h : i ≠ j) (v : Value) : (a.setIfInBounds i v).getD j undef = a.getD j undef := by
 simp [Array.getD_eq_getD_getElem?, h]
theorem live_ret {P : Program} (hm : P.follows .mixedOrders = true) (V : LvV) {T1 T2 T3 T4 : TypeId} {id : Nat} {p : String} {Q : Exit → Act → World → Prop}
  (L1 : Loc P T1 V.b1 V.t1 V.c1 V.v1) (L2 : Loc P T2 V.b2 V.t2 V.c2 V.v2) (L3 : Loc P T3 V.b3 V.t3 V.c3 V.v3) (L4 : Loc P T4 V.b4 V.t4 #[.bool true] (.bool true))
  (e1 : V.a0.tmps.getD 6 undef = .pointer (some ⟨V.b1, 0, none⟩)) (e2 : V.a0.tmps.getD 7 undef = .pointer (some ⟨V.b2, 0, none⟩)) (e3 : V.a0.tmps.getD 8 undef = .pointer (some ⟨V.b3, 0, none⟩)) (e4 : V.a0.tmps.getD 9 undef = .pointer (some ⟨V.b4, 0, none⟩))
  (hz : V.a0.tmps.size = 20) (n12 : V.b1 ≠ V.b2) (n13 : V.b1 ≠ V.b3) (n14 : V.b1 ≠ V.b4) (n23 : V.b2 ≠ V.b3) (n24 : V.b2 ≠ V.b4) (n34 : V.b3 ≠ V.b4)
  (K1 : Blk V.w0 V.b1 V.t1 V.c1) (K2 : Blk V.w0 V.b2 V.t2 V.c2) (K3 : Blk V.w0 V.b3 V.t3 V.c3) (K4 : ∃ v, Blk V.w0 V.b4 V.t4 #[v])
  (hQ : ∀ a w, LvI V true true true true a w → Q .normal a w) : (Code.region id (kZ T1 T2 T3 T4 p) true).wp P Q V.a0 V.w0 := by
 have d0 : ∀ {x y z f : Bool} (J : Act → World → Prop) (a : Act) (w : World), LvI V x y z f a w → (∀ a' w', LvI V true y z f a' w' → J a' w') → if Region.wanted (lvO0 T1 p) (yielded (kZ T1 T2 T3 T4 p) a.tmps) = true then Oper.wp P (lvO0 T1 p) a w J Q else J (a.put (lvO0 T1 p).dst undef) w := by
  intro x y z f J a w h hJ
  rw [if_pos (by rfl)]
  have hs := h.sz.trans hz
  refine aCx (o := lvO0 T1 p) rfl (val := V.v1) (by rw [show a.eval (.tmp 6) = .pointer (some ⟨V.b1, 0, none⟩) from (h.tm 6 (by omega)).trans e1]; exact L1.ld w h.k1) (hJ _ _ ?_)
  exact ⟨h.ds, by show (a.tmps.setIfInBounds 17 _).size = _; rw [Array.size_setIfInBounds]; exact h.sz, fun t ht => (getD_set_ne (by omega) _).trans (h.tm t ht), fun _ => pY (by omega) _, fun hy => (getD_set_ne (by omega) _).trans (h.l2 hy), fun hz' => (getD_set_ne (by omega) _).trans (h.l3 hz'), h.k1, h.k2, h.k3, h.k4, h.chg, h.size⟩
 have d1 : ∀ {x y z f : Bool} (J : Act → World → Prop) (a : Act) (w : World), LvI V x y z f a w → (∀ a' w', LvI V x true z f a' w' → J a' w') → if Region.wanted (lvO1 T2 p) (yielded (kZ T1 T2 T3 T4 p) a.tmps) = true then Oper.wp P (lvO1 T2 p) a w J Q else J (a.put (lvO1 T2 p).dst undef) w := by
  intro x y z f J a w h hJ
  rw [if_pos (by rfl)]
  have hs := h.sz.trans hz
  refine aCx (o := lvO1 T2 p) rfl (val := V.v2) (by rw [show a.eval (.tmp 7) = .pointer (some ⟨V.b2, 0, none⟩) from (h.tm 7 (by omega)).trans e2]; exact L2.ld w h.k2) (hJ _ _ ?_)
  exact ⟨h.ds, by show (a.tmps.setIfInBounds 18 _).size = _; rw [Array.size_setIfInBounds]; exact h.sz, fun t ht => (getD_set_ne (by omega) _).trans (h.tm t ht), fun hx => (getD_set_ne (by omega) _).trans (h.l1 hx), fun _ => pY (by omega) _, fun hz' => (getD_set_ne (by omega) _).trans (h.l3 hz'), h.k1, h.k2, h.k3, h.k4, h.chg, h.size⟩
 have d2 : ∀ {x y z f : Bool} (J : Act → World → Prop) (a : Act) (w : World), LvI V x y z f a w → (∀ a' w', LvI V x y true f a' w' → J a' w') → if Region.wanted (lvO2 T3 p) (yielded (kZ T1 T2 T3 T4 p) a.tmps) = true then Oper.wp P (lvO2 T3 p) a w J Q else J (a.put (lvO2 T3 p).dst undef) w := by
  intro x y z f J a w h hJ
  rw [if_pos (by rfl)]
  have hs := h.sz.trans hz
  refine aCx (o := lvO2 T3 p) rfl (val := V.v3) (by rw [show a.eval (.tmp 8) = .pointer (some ⟨V.b3, 0, none⟩) from (h.tm 8 (by omega)).trans e3]; exact L3.ld w h.k3) (hJ _ _ ?_)
  exact ⟨h.ds, by show (a.tmps.setIfInBounds 19 _).size = _; rw [Array.size_setIfInBounds]; exact h.sz, fun t ht => (getD_set_ne (by omega) _).trans (h.tm t ht), fun hx => (getD_set_ne (by omega) _).trans (h.l1 hx), fun hy => (getD_set_ne (by omega) _).trans (h.l2 hy), fun _ => pY (by omega) _, h.k1, h.k2, h.k3, h.k4, h.chg, h.size⟩
 have d3 : ∀ {y z f : Bool} (J : Act → World → Prop) (a : Act) (w : World), LvI V true y z f a w → (∀ a' w', LvI V true y z f a' w' → J a' w') → if Region.wanted (lvO3 T1 p) (yielded (kZ T1 T2 T3 T4 p) a.tmps) = true then Oper.wp P (lvO3 T1 p) a w J Q else J (a.put (lvO3 T1 p).dst undef) w := by
  intro y z f J a w h hJ
  rw [if_pos (by rfl)]
  obtain ⟨w', hr, hb, hc, hsz⟩ := L1.st w V.c1 rfl h.k1
  obtain ⟨v4, h4, h4'⟩ := h.k4
  refine jG (o := lvO3 T1 p) rfl (w' := w') (by rw [show a.eval (.tmp 6) = .pointer (some ⟨V.b1, 0, none⟩) from (h.tm 6 (by omega)).trans e1, show a.eval (.tmp 17) = V.v1 from h.l1 rfl]; exact hr) (hJ _ _ ?_)
  exact ⟨h.ds, h.sz, h.tm, h.l1, h.l2, h.l3, hb, h.k2.chg hc (fun e => n12 e.symm), h.k3.chg hc (fun e => n13 e.symm), ⟨v4, h4.chg hc (fun e => n14 e.symm), h4'⟩, h.chg.trans (hc.mono fun k _ hk => .inl hk), hsz.trans h.size⟩
 have d4 : ∀ {x z f : Bool} (J : Act → World → Prop) (a : Act) (w : World), LvI V x true z f a w → (∀ a' w', LvI V x true z f a' w' → J a' w') → if Region.wanted (lvO4 T2 p) (yielded (kZ T1 T2 T3 T4 p) a.tmps) = true then Oper.wp P (lvO4 T2 p) a w J Q else J (a.put (lvO4 T2 p).dst undef) w := by
  intro x z f J a w h hJ
  rw [if_pos (by rfl)]
  obtain ⟨w', hr, hb, hc, hsz⟩ := L2.st w V.c2 rfl h.k2
  obtain ⟨v4, h4, h4'⟩ := h.k4
  refine jG (o := lvO4 T2 p) rfl (w' := w') (by rw [show a.eval (.tmp 7) = .pointer (some ⟨V.b2, 0, none⟩) from (h.tm 7 (by omega)).trans e2, show a.eval (.tmp 18) = V.v2 from h.l2 rfl]; exact hr) (hJ _ _ ?_)
  exact ⟨h.ds, h.sz, h.tm, h.l1, h.l2, h.l3, h.k1.chg hc n12, hb, h.k3.chg hc (fun e => n23 e.symm), ⟨v4, h4.chg hc (fun e => n24 e.symm), h4'⟩, h.chg.trans (hc.mono fun k _ hk => .inr (.inl hk)), hsz.trans h.size⟩
 have d5 : ∀ {x y f : Bool} (J : Act → World → Prop) (a : Act) (w : World), LvI V x y true f a w → (∀ a' w', LvI V x y true f a' w' → J a' w') → if Region.wanted (lvO5 T3 p) (yielded (kZ T1 T2 T3 T4 p) a.tmps) = true then Oper.wp P (lvO5 T3 p) a w J Q else J (a.put (lvO5 T3 p).dst undef) w := by
  intro x y f J a w h hJ
  rw [if_pos (by rfl)]
  obtain ⟨w', hr, hb, hc, hsz⟩ := L3.st w V.c3 rfl h.k3
  obtain ⟨v4, h4, h4'⟩ := h.k4
  refine jG (o := lvO5 T3 p) rfl (w' := w') (by rw [show a.eval (.tmp 8) = .pointer (some ⟨V.b3, 0, none⟩) from (h.tm 8 (by omega)).trans e3, show a.eval (.tmp 19) = V.v3 from h.l3 rfl]; exact hr) (hJ _ _ ?_)
  exact ⟨h.ds, h.sz, h.tm, h.l1, h.l2, h.l3, h.k1.chg hc n13, h.k2.chg hc n23, hb, ⟨v4, h4.chg hc (fun e => n34 e.symm), h4'⟩, h.chg.trans (hc.mono fun k _ hk => .inr (.inr (.inl hk))), hsz.trans h.size⟩
 have d6 : ∀ {x y z f : Bool} (J : Act → World → Prop) (a : Act) (w : World), LvI V x y z f a w → (∀ a' w', LvI V x y z true a' w' → J a' w') → if Region.wanted (lvO6 T4 p) (yielded (kZ T1 T2 T3 T4 p) a.tmps) = true then Oper.wp P (lvO6 T4 p) a w J Q else J (a.put (lvO6 T4 p).dst undef) w := by
  intro x y z f J a w h hJ
  rw [if_pos (by rfl)]
  obtain ⟨v4, h4, h4'⟩ := h.k4
  obtain ⟨w', hr, hb, hc, hsz⟩ := L4.st w #[v4] rfl h4
  refine jG (o := lvO6 T4 p) rfl (w' := w') (by rw [show a.eval (.tmp 9) = .pointer (some ⟨V.b4, 0, none⟩) from (h.tm 9 (by omega)).trans e4]; exact hr) (hJ _ _ ?_)
  exact ⟨h.ds, h.sz, h.tm, h.l1, h.l2, h.l3, h.k1.chg hc n14, h.k2.chg hc n24, h.k3.chg hc n34, ⟨_, hb, fun _ => rfl⟩, h.chg.trans (hc.mono fun k _ hk => .inr (.inr (.inr hk))), hsz.trans h.size⟩
 have s1111111 : ∀ a w, LvI V true true true true a w → wpAny P .any (kZ T1 T2 T3 T4 p) Q 0 #[true, true, true, true, true, true, true] a w := fun a w h => by
  exact wpAny_done (by kernel_rfl) (hQ a w h) _
 have s1111110 : ∀ a w, LvI V true true true false a w → wpAny P .any (kZ T1 T2 T3 T4 p) Q 1 #[true, true, true, true, true, true, false] a w := fun a w h => by
  exact wpAny_ready (rs := [6]) (by kernel_rfl) (by simp) (AllReady.cons (o := lvO6 T4 p) rfl (fun J hJ => d6 J a w h fun a1 w1 h1 => hJ _ _ (s1111111 a1 w1 h1)) AllReady.nil)
 have s1111100 : ∀ a w, LvI V true true true false a w → wpAny P .any (kZ T1 T2 T3 T4 p) Q 2 #[true, true, true, true, true, false, false] a w := fun a w h => by
  exact wpAny_ready (rs := [5]) (by kernel_rfl) (by simp) (AllReady.cons (o := lvO5 T3 p) rfl (fun J hJ => d5 J a w h fun a1 w1 h1 => hJ _ _ (s1111110 a1 w1 h1)) AllReady.nil)
 have s1111000 : ∀ a w, LvI V true true true false a w → wpAny P .any (kZ T1 T2 T3 T4 p) Q 3 #[true, true, true, true, false, false, false] a w := fun a w h => by
  exact wpAny_ready (rs := [4]) (by kernel_rfl) (by simp) (AllReady.cons (o := lvO4 T2 p) rfl (fun J hJ => d4 J a w h fun a1 w1 h1 => hJ _ _ (s1111100 a1 w1 h1)) AllReady.nil)
 have s1110000 : ∀ a w, LvI V true true true false a w → wpAny P .any (kZ T1 T2 T3 T4 p) Q 4 #[true, true, true, false, false, false, false] a w := fun a w h => by
  exact wpAny_ready (rs := [3]) (by kernel_rfl) (by simp) (AllReady.cons (o := lvO3 T1 p) rfl (fun J hJ => d3 J a w h fun a1 w1 h1 => hJ _ _ (s1111000 a1 w1 h1)) AllReady.nil)
 have s1101100 : ∀ a w, LvI V true true false false a w → wpAny P .any (kZ T1 T2 T3 T4 p) Q 3 #[true, true, false, true, true, false, false] a w := fun a w h => by
  exact wpAny_ready (rs := [2]) (by kernel_rfl) (by simp) (AllReady.cons (o := lvO2 T3 p) rfl (fun J hJ => d2 J a w h fun a1 w1 h1 => hJ _ _ (s1111100 a1 w1 h1)) AllReady.nil)
 have s1101000 : ∀ a w, LvI V true true false false a w → wpAny P .any (kZ T1 T2 T3 T4 p) Q 4 #[true, true, false, true, false, false, false] a w := fun a w h => by
  exact wpAny_ready (rs := [2, 4]) (by kernel_rfl) (by simp) (AllReady.cons (o := lvO2 T3 p) rfl (fun J hJ => d2 J a w h fun a1 w1 h1 => hJ _ _ (s1111000 a1 w1 h1)) (AllReady.cons (o := lvO4 T2 p) rfl (fun J hJ => d4 J a w h fun a1 w1 h1 => hJ _ _ (s1101100 a1 w1 h1)) AllReady.nil))
 have s1100000 : ∀ a w, LvI V true true false false a w → wpAny P .any (kZ T1 T2 T3 T4 p) Q 5 #[true, true, false, false, false, false, false] a w := fun a w h => by
  exact wpAny_ready (rs := [2, 3]) (by kernel_rfl) (by simp) (AllReady.cons (o := lvO2 T3 p) rfl (fun J hJ => d2 J a w h fun a1 w1 h1 => hJ _ _ (s1110000 a1 w1 h1)) (AllReady.cons (o := lvO3 T1 p) rfl (fun J hJ => d3 J a w h fun a1 w1 h1 => hJ _ _ (s1101000 a1 w1 h1)) AllReady.nil))
 have s1011000 : ∀ a w, LvI V true false true false a w → wpAny P .any (kZ T1 T2 T3 T4 p) Q 4 #[true, false, true, true, false, false, false] a w := fun a w h => by
  exact wpAny_ready (rs := [1]) (by kernel_rfl) (by simp) (AllReady.cons (o := lvO1 T2 p) rfl (fun J hJ => d1 J a w h fun a1 w1 h1 => hJ _ _ (s1111000 a1 w1 h1)) AllReady.nil)
 have s1010000 : ∀ a w, LvI V true false true false a w → wpAny P .any (kZ T1 T2 T3 T4 p) Q 5 #[true, false, true, false, false, false, false] a w := fun a w h => by
  exact wpAny_ready (rs := [1, 3]) (by kernel_rfl) (by simp) (AllReady.cons (o := lvO1 T2 p) rfl (fun J hJ => d1 J a w h fun a1 w1 h1 => hJ _ _ (s1110000 a1 w1 h1)) (AllReady.cons (o := lvO3 T1 p) rfl (fun J hJ => d3 J a w h fun a1 w1 h1 => hJ _ _ (s1011000 a1 w1 h1)) AllReady.nil))
 have s1001000 : ∀ a w, LvI V true false false false a w → wpAny P .any (kZ T1 T2 T3 T4 p) Q 5 #[true, false, false, true, false, false, false] a w := fun a w h => by
  exact wpAny_ready (rs := [1, 2]) (by kernel_rfl) (by simp) (AllReady.cons (o := lvO1 T2 p) rfl (fun J hJ => d1 J a w h fun a1 w1 h1 => hJ _ _ (s1101000 a1 w1 h1)) (AllReady.cons (o := lvO2 T3 p) rfl (fun J hJ => d2 J a w h fun a1 w1 h1 => hJ _ _ (s1011000 a1 w1 h1)) AllReady.nil))
 have s1000000 : ∀ a w, LvI V true false false false a w → wpAny P .any (kZ T1 T2 T3 T4 p) Q 6 #[true, false, false, false, false, false, false] a w := fun a w h => by
  exact wpAny_ready (rs := [1, 2, 3]) (by kernel_rfl) (by simp) (AllReady.cons (o := lvO1 T2 p) rfl (fun J hJ => d1 J a w h fun a1 w1 h1 => hJ _ _ (s1100000 a1 w1 h1)) (AllReady.cons (o := lvO2 T3 p) rfl (fun J hJ => d2 J a w h fun a1 w1 h1 => hJ _ _ (s1010000 a1 w1 h1)) (AllReady.cons (o := lvO3 T1 p) rfl (fun J hJ => d3 J a w h fun a1 w1 h1 => hJ _ _ (s1001000 a1 w1 h1)) AllReady.nil)))
 have s0110000 : ∀ a w, LvI V false true true false a w → wpAny P .any (kZ T1 T2 T3 T4 p) Q 5 #[false, true, true, false, false, false, false] a w := fun a w h => by
  exact wpAny_ready (rs := [0]) (by kernel_rfl) (by simp) (AllReady.cons (o := lvO0 T1 p) rfl (fun J hJ => d0 J a w h fun a1 w1 h1 => hJ _ _ (s1110000 a1 w1 h1)) AllReady.nil)
 have s0100000 : ∀ a w, LvI V false true false false a w → wpAny P .any (kZ T1 T2 T3 T4 p) Q 6 #[false, true, false, false, false, false, false] a w := fun a w h => by
  exact wpAny_ready (rs := [0, 2]) (by kernel_rfl) (by simp) (AllReady.cons (o := lvO0 T1 p) rfl (fun J hJ => d0 J a w h fun a1 w1 h1 => hJ _ _ (s1100000 a1 w1 h1)) (AllReady.cons (o := lvO2 T3 p) rfl (fun J hJ => d2 J a w h fun a1 w1 h1 => hJ _ _ (s0110000 a1 w1 h1)) AllReady.nil))
 have s0010000 : ∀ a w, LvI V false false true false a w → wpAny P .any (kZ T1 T2 T3 T4 p) Q 6 #[false, false, true, false, false, false, false] a w := fun a w h => by
  exact wpAny_ready (rs := [0, 1]) (by kernel_rfl) (by simp) (AllReady.cons (o := lvO0 T1 p) rfl (fun J hJ => d0 J a w h fun a1 w1 h1 => hJ _ _ (s1010000 a1 w1 h1)) (AllReady.cons (o := lvO1 T2 p) rfl (fun J hJ => d1 J a w h fun a1 w1 h1 => hJ _ _ (s0110000 a1 w1 h1)) AllReady.nil))
 have s0000000 : ∀ a w, LvI V false false false false a w → wpAny P .any (kZ T1 T2 T3 T4 p) Q 7 #[false, false, false, false, false, false, false] a w := fun a w h => by
  exact wpAny_ready (rs := [0, 1, 2]) (by kernel_rfl) (by simp) (AllReady.cons (o := lvO0 T1 p) rfl (fun J hJ => d0 J a w h fun a1 w1 h1 => hJ _ _ (s1000000 a1 w1 h1)) (AllReady.cons (o := lvO1 T2 p) rfl (fun J hJ => d1 J a w h fun a1 w1 h1 => hJ _ _ (s0100000 a1 w1 h1)) (AllReady.cons (o := lvO2 T3 p) rfl (fun J hJ => d2 J a w h fun a1 w1 h1 => hJ _ _ (s0010000 a1 w1 h1)) AllReady.nil)))
 obtain ⟨v4, K4⟩ := K4
 refine wp_region_any hm ?_
 exact s0000000 _ _ ⟨rfl, rfl, fun _ _ => rfl, fun h => (by cases h), fun h => (by cases h), fun h => (by cases h), K1.drew, K2.drew, K3.drew, ⟨v4, K4.drew, fun h => by cases h⟩, Chg.drew (Chg.refl _ _), rfl⟩
end Go.Proofs.YtihghljfmlbfhaaGreatDoor.Pv
namespace Go.Proofs.YtihghljfmlbfhaaGreatDoor
open Go.RowKit
theorem aPx (w : World) : (Instr.typeAssert (.iface 98 (.agg #[])) 20 98 true).run Tryz.prog w = .ok (.tuple #[.agg #[], .bool true]) w := by kernel_rfl
attribute [local go_sem] aPx
theorem aOo (Ob Db : Nat) (y0 y1 y2 y3 z0 : Value) (older : List PanicEntry) (w : World)
  (hO : Blk w Ob 35 #[y0, y1, y2, y3]) (hD : Blk w Db 4 #[z0]) (hOD : ¬ Ob = Db) :
  CallsD Tryz.prog 40 #[.pointer (some ⟨Ob, 0, none⟩), .pointer (some ⟨Db, 0, none⟩)] (.panicking ({ v := Pv.cutV, recovered := false } :: older)) w fun e u' w' =>
   e = .returned (.tuple #[]) ∧ u' = .panicking ({ v := Pv.cutV, recovered := true } :: older) ∧ Chg (fun k => k = Ob ∨ k = Db) w w' ∧
   Blk w' Ob 35 #[.int .i64 0, .slice none 0 0, .slice none 0 0, .int .i64 0] ∧ Blk w' Db 4 #[.bool false] := by
 have hO0 := hO.cell 0
 have hO1 := hO.cell 1
 have hO2 := hO.cell 2
 have hO3 := hO.cell 3
 have hD0 := hD.cell 0
 have fO := hO.frozen
 have fD := hD.frozen
 have lO := hO.lt
 have lD := hD.lt
 simp only [List.getElem?_toArray, List.getElem?_cons_zero, List.getElem?_cons_succ] at hO0 hO1 hO2 hO3 hD0
 have HO := hide hO
 have HD := hide hD
 clear hO hD
 have hOD' : ¬ Db = Ob := fun e => hOD e.symm
 simp only [Pv.cutV]
 refine callsD_of_wpS Tryz.func40 rfl fun c₀ cs hu => ?_
 simp only [Tryz.ntmps40, List.size_toArray, List.length_cons, List.length_nil, Nat.reduceAdd, Nat.reduceSub, Array.replicate_succ, Array.replicate_zero, List.push_toArray, List.append_toArray, List.nil_append, List.cons_append]
 apply wpS_seq
 apply wpS_region
 simp [wpOpsS, go_sem, recoverD, hu, Exit.thenS]
 refine wpS_of_wp ?_
 go_wp2
 refine ⟨rfl, _, rfl, .tuple #[], results_none rfl _ _ _, rfl, rfl, ?_, ?_, ?_⟩
 ·repeat' (first | (with_reducible exact Chg.refl _ _) | (with_reducible exact Ext.refl _) | (with_reducible assumption) | (with_reducible refine Chg.alloc ?_ _) | (with_reducible refine Chg.drew ?_) | (with_reducible refine Chg.drewN ?_ _) | (with_reducible refine Chg.setCell ?_ ?_ _) | (with_reducible refine Ext.alloc ?_ _) | (with_reducible refine Ext.drew ?_) | (with_reducible refine Ext.drewN ?_ _) | (with_reducible refine Ext.setCell ?_ ?_ _) | (simp; done) | (simp; omega) | omega)
 ·exact (((((((aA HO).set_ 0 _).set_ 1 _).set_ 2 _).set_ 3 _).far (p := ⟨Db, 0, none⟩) hOD _).alloc _).alloc _
 ·exact (((((((aA HD).far (p := ⟨Ob, 0, none⟩) hOD' _).far (p := ⟨Ob, 1, none⟩) hOD' _).far (p := ⟨Ob, 2, none⟩) hOD' _).far (p := ⟨Ob, 3, none⟩) hOD' _).set_ 0 _).alloc _).alloc _
theorem aSy (x y : Value) (w : World) :
  CallsD Tryz.prog 40 #[x, y] .returning w fun e u' w' => e = .returned (.tuple #[]) ∧ u' = .returning ∧ w = w' := by
 refine callsD_of_wpS Tryz.func40 rfl fun c₀ cs hu => ?_
 simp only [Tryz.ntmps40, List.size_toArray, List.length_cons, List.length_nil, Nat.reduceAdd, Nat.reduceSub, Array.replicate_succ, Array.replicate_zero, List.push_toArray, List.append_toArray, List.nil_append, List.cons_append]
 apply wpS_seq
 apply wpS_region
 simp [wpOpsS, go_sem, recoverD, hu, Exit.thenS]
 refine wpS_of_wp ?_
 go_wp2
 exact ⟨rfl, .returning, by cases c₀; simp_all, .tuple #[], results_none rfl _ _ _, rfl, rfl, rfl⟩
end Go.Proofs.YtihghljfmlbfhaaGreatDoor
