/-
  Several texts in one file: each has its own heading below.
-/
import Derived.Test.YtplkplegjoabgaaGreatDoorHzE
import Derived.Test.YtplkplegjoabgaaGreatDoorProg
import Derived.WalkMore
import Derived.Test.YtplkplegjoabgaaGreatDoorHzL
import Derived.Test.YtplkplegjoabgaaGreatDoorHzJ
import Derived.Test.YtplkplegjoabgaaGreatDoorHzK
import Derived.Deep.RegionLaw
import Derived.Test.YtplkplegjoabgaaGreatDoorHzA
import Derived.BigFrame


namespace Go.Proofs.YtplkplegjoabgaaGreatDoor
open Go.RowKit
theorem nonzero_snoc (l : List Int) (x : Int) : nonzero (l ++ [x]) = nonzero l + if x = 0 then 0 else 1 := by
  unfold nonzero
  rw [List.filter_append, List.length_append]
  by_cases h : x = 0 <;> simp [h]
theorem nonzero_le (l : List Int) : nonzero l ≤ l.length := List.length_filter_le _ _
theorem field_res0 (x y : Value) (w : World) : (Instr.field 106 (.agg #[x, y]) 0).run Tryz.prog w = .ok x w := by kernel_rfl
theorem field_res1 (x y : Value) (w : World) : (Instr.field 106 (.agg #[x, y]) 1).run Tryz.prog w = .ok y w := by kernel_rfl
attribute [local go_sem] field_res0 field_res1
structure CurSt where
  i : Nat
  ask : Acc
  stop : Bool
def zeroAcc : Acc := ⟨0, 0, 0, noBytes⟩
def curCells (lv : Value) (s : CurSt) : Array Value :=
  #[lv, .int .i64 (s.i : Int), .int .i64 s.ask.kind, .int .i64 s.ask.bank, .int .i64 s.ask.cell, .string s.ask.bytes, .bool s.stop, .bool false, .slice none 0 0, .slice none 0 0,
    .int .u8 0, .int .u8 0, .int .u8 0, .int .u8 0, .int .u8 0, .int .u8 0, .int .u8 0, .int .u8 0, .int .u8 0, .int .u8 0, .int .u8 0, .int .u8 0, .int .u8 0, .int .u8 0, .int .u8 0, .int .u8 0, .slice none 0 0, .bool false]
structure CurInv (c : Nat) (lv : Value) (log : List Res) (s : CurSt) (w : World) : Prop where
  blk : Blk w c 99 (curCells lv s)
  reads : Reads w 2 lv log.length (logCells log)
  own : 0 < log.length → lv.ownBlock ≠ some c
  le : s.i ≤ log.length
theorem CurInv.ext {c : Nat} {lv : Value} {log : List Res} {s : CurSt} {w w' : World} (h : CurInv c lv log s w) (hc : Ext w w') : CurInv c lv log s w' := ⟨h.blk.ext hc, h.reads.ext hc, h.own, h.le⟩
theorem CurInv.chg {c : Nat} {lv : Value} {log : List Res} {s s' : CurSt} {w w' : World} (h : CurInv c lv log s w) (hc : Chg (fun k => k = c) w w') (hb : Blk w' c 99 (curCells lv s')) (hi : s'.i ≤ log.length) : CurInv c lv log s' w' :=
  ⟨hb, h.reads.chg hc (fun _ hn hk e => h.own hn (e ▸ hk)), h.own, hi⟩
def curRun {α : Type} (log : List Res) (p : Prg α) (s : CurSt) : Option α × CurSt :=
  if s.stop then (none, s) else match p.run (replay log) s.i with
    | .ok a i => (some a, { s with i := i })
    | .error a i => (none, { s with i := i, stop := true, ask := a })
structure CurPost {α : Type} (c : Nat) (lv : Value) (log : List Res) (val : α → Value) (p : Prg α) (s : CurSt) (w : World) (e : Ending) (w' : World) : Prop where
  ex : ∃ a : α, e = .returned (val a) ∧ ∀ a', (curRun log p s).1 = some a' → a = a'
  inv : CurInv c lv log (curRun log p s).2 w'
  chg : Chg (fun k => k = c) w w'
end Go.Proofs.YtplkplegjoabgaaGreatDoor


namespace Go.Proofs.YtplkplegjoabgaaGreatDoor
open Go.RowKit
theorem CurInv.stop {c : Nat} {lv : Value} {log : List Res} {s : CurSt} {w : World} (h : CurInv c lv log s w) : w.cell? ⟨c, 6, none⟩ = some (.bool s.stop) := h.blk.cell 6
def st0 : CurSt := ⟨0, zeroAcc, false⟩
end Go.Proofs.YtplkplegjoabgaaGreatDoor


namespace Go.Proofs.YtplkplegjoabgaaGreatDoor
open Go.RowKit
theorem CurInv.far {c : Nat} {lv : Value} {log : List Res} {s : CurSt} {w w' : World} {S : Nat → Prop} (h : CurInv c lv log s w) (hc : Chg S w w') (h1 : ¬ S c) (h2 : ∀ k, 0 < log.length → lv.ownBlock = some k → ¬ S k) : CurInv c lv log s w' :=
  ⟨h.blk.chg hc h1, h.reads.chg hc h2, h.own, h.le⟩
end Go.Proofs.YtplkplegjoabgaaGreatDoor


namespace Go.Proofs.YtplkplegjoabgaaGreatDoor
open Go.RowKit
end Go.Proofs.YtplkplegjoabgaaGreatDoor


namespace Go.Proofs.YtplkplegjoabgaaGreatDoor
open Go.RowKit
structure BanksIn (w : World) (bvs : List Value) (banks : List (List Int)) : Prop where
  len : bvs.length = banks.length
  each : ∀ (k : Nat) (bv : Value) (l : List Int), bvs[k]? = some bv → banks[k]? = some l → Reads w 1 bv l.length (l.map (Value.int .u8))
structure FusesIn (w : World) (fv : Value) (banks : List (List Int)) : Prop where
  ex : ∃ bvs, Reads w 1 fv banks.length bvs ∧ BanksIn w bvs banks
theorem BanksIn.ext {w w' : World} {bvs : List Value} {banks : List (List Int)} (h : BanksIn w bvs banks) (hc : Ext w w') : BanksIn w' bvs banks := ⟨h.len, fun k bv l h1 h2 => (h.each k bv l h1 h2).ext hc⟩
theorem FusesIn.ext {w w' : World} {fv : Value} {banks : List (List Int)} (h : FusesIn w fv banks) (hc : Ext w w') : FusesIn w' fv banks := by
  obtain ⟨bvs, h1, h2⟩ := h.ex
  exact ⟨bvs, h1.ext hc, h2.ext hc⟩
theorem FusesIn.at_ {w : World} {fv : Value} {banks : List (List Int)} (h : FusesIn w fv banks) {k : Nat} (hk : k < banks.length) :
    ∃ b o c bv, fv = .slice (some ⟨b, o, none⟩) banks.length c ∧ b < w.heap.size ∧ w.cell? ⟨b, o + k, none⟩ = some bv ∧ Reads w 1 bv banks[k].length (banks[k].map (Value.int .u8)) := by
  obtain ⟨bvs, h1, h2⟩ := h.ex
  obtain ⟨b, o, c, u, e1, _, _, e4, e5, e6⟩ := h1.at1 hk
  exact ⟨b, o, c, u, e1, e4, e6, h2.each k u banks[k] e5 (List.getElem?_eq_getElem hk)⟩
set_option maxHeartbeats 400000 in
theorem exists_yes (fv : Value) (banks : List (List Int)) (bank cell : Nat) (w : World) (h : FusesIn w fv banks) (hb : bank < banks.length) (hc : cell < banks[bank].length) :
    Calls Tryz.prog 113 #[.agg #[fv], .int .i64 (bank : Int), .int .i64 (cell : Int)] w fun e w' => e = .returned (.bool true) ∧ Ext w w' := by
  obtain ⟨b, o, c, bv, rfl, hbw, hcell, hr⟩ := h.at_ hb
  have hm1 : banks.length ≤ maxLen := by
    obtain ⟨bvs, h1, _⟩ := h.ex
    exact h1.len_le
  have hm2 := hr.len_le
  obtain ⟨_, A, c2, rfl, _⟩ := hr
  unfold maxLen at hm1 hm2
  generalize banks[bank].length = m at *
  clear h
  go_enter Tryz.func113, Tryz.ntmps113
  go_wp2
  go_ret
  refine ⟨rfl, ?_⟩
  repeat' (first | (with_reducible exact Chg.refl _ _) | (with_reducible exact Ext.refl _) | (with_reducible assumption) | (with_reducible refine Chg.alloc ?_ _) | (with_reducible refine Chg.drew ?_) | (with_reducible refine Chg.drewN ?_ _) | (with_reducible refine Chg.setCell ?_ ?_ _) | (with_reducible refine Ext.alloc ?_ _) | (with_reducible refine Ext.drew ?_) | (with_reducible refine Ext.drewN ?_ _) | (with_reducible refine Ext.setCell ?_ ?_ _) | (simp; done) | (simp; omega) | omega)
set_option maxHeartbeats 400000 in
theorem fuse_read (fv : Value) (banks : List (List Int)) (bank cell : Nat) (noise : Bool) (w : World) (h : FusesIn w fv banks) (hb : bank < banks.length) (hc : cell < banks[bank].length) :
    Calls Tryz.prog 77 #[.agg #[fv], .int .i64 (bank : Int), .int .i64 (cell : Int), .bool noise] w fun e w' => e = .returned (.tuple #[.int .i64 (fuseBit banks[bank][cell] noise), .int .i64 0]) ∧ Ext w w' := by
  have HF := hide h
  obtain ⟨b, o, c, bv, rfl, hbw, hcell, hr⟩ := h.at_ hb
  have hm1 : banks.length ≤ maxLen := by
    obtain ⟨bvs, h1, _⟩ := h.ex
    exact h1.len_le
  have hm2 := hr.len_le
  obtain ⟨b2, o2, c2, u, rfl, _, _, hb2, hu, hcell2⟩ := hr.at1 hc
  rw [List.getElem?_map, List.getElem?_eq_getElem hc] at hu
  cases hu
  unfold maxLen at hm1 hm2
  clear h
  have hq : ∀ x : Int, fuseBit x noise = if x = 2 then 1 else if x = 1 then (if noise = true then 1 else 0) else 0 := by
    intro x; unfold fuseBit; by_cases h1 : x = 2 <;> by_cases h2 : x = 1 <;> cases noise <;> simp_all
  have HQ := hide (hq banks[bank][cell])
  have HE := hide (exists_yes _ banks bank cell (w.alloc (.cells #[.slice (some ⟨b, o, none⟩) banks.length c] 48)) ((unhide HF).ext (Chg.alloc (Ext.refl _) _)) hb hc)
  clear hq hr
  generalize banks[bank][cell] = x at *
  have hlt : cell < banks[bank].length := hc
  clear hc
  generalize banks[bank].length = m at *
  go_enter Tryz.func77, Tryz.ntmps77
  go_wp2_with fail
  refine (unhide HE).mono ?_
  rintro e w1 ⟨rfl, hE⟩
  have hcr := hE.rules
  simp only [World.size_alloc] at hcr
  have hsz := hE.size'
  simp only [World.size_alloc] at hsz
  have HEE := hide hE
  clear hE
  have hfin : Hid (Ext w w1) := hide ((Chg.alloc (Ext.refl _) _).trans (unhide HEE))
  by_cases h2 : x = 2
  · have e1 : (x == 2) = true := by simp [h2]
    have HX := hide h2
    clear h2
    go_wp2
    go_ret2
    exact ⟨ret_pair (by rw [unhide HQ, if_pos (unhide HX)]), unhide hfin⟩
  · by_cases h1 : x = 1
    · have e1 : (x == 2) = false := by simp [h2]
      have e2 : (x == 1) = true := by simp [h1]
      have HX := hide h2
      have HY := hide h1
      clear h2 h1
      cases noise with
      | true =>
        go_wp2
        go_ret2
        exact ⟨ret_pair (by rw [unhide HQ, if_neg (unhide HX), if_pos (unhide HY)]; rfl), unhide hfin⟩
      | false =>
        go_wp2
        go_ret2
        exact ⟨ret_pair (by rw [unhide HQ, if_neg (unhide HX), if_pos (unhide HY)]; rfl), unhide hfin⟩
    · have e1 : (x == 2) = false := by simp [h2]
      have e2 : (x == 1) = false := by simp [h1]
      have HX := hide h2
      have HY := hide h1
      clear h2 h1
      go_wp2
      go_ret2
      exact ⟨ret_pair (by rw [unhide HQ, if_neg (unhide HX), if_neg (unhide HY)]), unhide hfin⟩
theorem u8_rowE : SlTy Tryz.prog 40 5 1 1 := SlTy.mk' (z := .int .u8 0) (by kernel_rfl) (by kernel_rfl) rfl (by omega) (by omega)
theorem bank_row : SlTy Tryz.prog 41 40 1 24 := SlTy.mk' (z := .slice none 0 0) (by kernel_rfl) (by kernel_rfl) rfl (by omega) (by omega)
structure OwnBanks (w : World) (B : Nat) (bvs : List Value) (banks : List (List Int)) : Prop where
  len : bvs.length = banks.length
  each : ∀ (k : Nat) (bv : Value) (l : List Int), bvs[k]? = some bv → banks[k]? = some l → w.ownsRow B 5 1 bv l.length (l.map (Value.int .u8))
  apart : ∀ (i j : Nat) (bi bj : Value) (g : Nat), bvs[i]? = some bi → bvs[j]? = some bj → i ≠ j → bi.ownBlock = some g → bj.ownBlock ≠ some g
theorem OwnBanks.nil (w : World) (B : Nat) : OwnBanks w B [] [] := ⟨rfl, fun k bv l h => by simp at h, fun i j bi bj g h => by simp at h⟩
theorem OwnBanks.chg {w w' : World} {B : Nat} {bvs : List Value} {banks : List (List Int)} {S : Nat → Prop} (h : OwnBanks w B bvs banks) (hc : Chg S w w') (hS : ∀ (k : Nat) (bv : Value) (g : Nat), bvs[k]? = some bv → bv.ownBlock = some g → ¬ S g) : OwnBanks w' B bvs banks :=
  ⟨h.len, fun k bv l h1 h2 => ownsRow_chg (h.each k bv l h1 h2) hc (fun g hg => hS k bv g h1 hg), h.apart⟩
theorem OwnBanks.snoc {w : World} {B : Nat} {bvs : List Value} {banks : List (List Int)} (h : OwnBanks w B bvs banks) {bv : Value} {l : List Int} (ho : w.ownsRow B 5 1 bv l.length (l.map (Value.int .u8)))
    (hn : ∀ (k : Nat) (b : Value) (g : Nat), bvs[k]? = some b → b.ownBlock = some g → bv.ownBlock ≠ some g) : OwnBanks w B (bvs ++ [bv]) (banks ++ [l]) := by
  have hlen := h.len
  refine ⟨by simp [hlen], fun k b x h1 h2 => ?_, fun i j bi bj g h1 h2 hij hg => ?_⟩
  · rw [List.getElem?_append] at h1 h2
    by_cases hk : k < bvs.length
    · rw [if_pos hk] at h1
      rw [if_pos (by omega)] at h2
      exact h.each k b x h1 h2
    · rw [if_neg hk] at h1
      rw [if_neg (by omega)] at h2
      have e1 : k - bvs.length = 0 := by
        rcases Nat.eq_zero_or_pos (k - bvs.length) with e | e
        · exact e
        · rw [List.getElem?_eq_none (by simp; omega)] at h1; cases h1
      rw [e1] at h1
      rw [← hlen, e1] at h2
      cases h1
      cases h2
      exact ho
  · rw [List.getElem?_append] at h1 h2
    have z : ∀ (i : Nat) (b : Value), ¬ i < bvs.length → ([bv] : List Value)[i - bvs.length]? = some b → i = bvs.length ∧ b = bv := by
      intro i b hi hb
      rcases Nat.eq_zero_or_pos (i - bvs.length) with e | e
      · rw [e] at hb; cases hb; exact ⟨by omega, rfl⟩
      · rw [List.getElem?_eq_none (by simp; omega)] at hb; cases hb
    by_cases hi : i < bvs.length
    · rw [if_pos hi] at h1
      by_cases hj : j < bvs.length
      · rw [if_pos hj] at h2
        exact h.apart i j bi bj g h1 h2 hij hg
      · rw [if_neg hj] at h2
        obtain ⟨_, rfl⟩ := z j bj hj h2
        exact hn i bi g h1 hg
    · rw [if_neg hi] at h1
      obtain ⟨hi', rfl⟩ := z i bi hi h1
      by_cases hj : j < bvs.length
      · rw [if_pos hj] at h2
        exact fun h' => hn j bj g h2 h' hg
      · rw [if_neg hj] at h2
        obtain ⟨hj', _⟩ := z j bj hj h2
        omega
theorem OwnBanks.reads {w : World} {B : Nat} {bvs : List Value} {banks : List (List Int)} (h : OwnBanks w B bvs banks) : BanksIn w bvs banks :=
  ⟨h.len, fun k bv l h1 h2 => Reads.of_own (h.each k bv l h1 h2)⟩
theorem pulse_round {w1 wr w8 w10 : World} {k : Nat} {bvs : List Value} {banks : List (List Int)} {l : List Int} {v : Value} {A8 A10 : Option Addr} {c8 c10 : Nat}
    (hbo : Blk wr w1.heap.size 48 #[v]) (hown : wr.ownsRow w1.heap.size 40 1 v k bvs) (hob : OwnBanks wr w1.heap.size bvs banks) (hext : Ext w1 wr)
    (ho8 : w8.ownsRow w1.heap.size 5 1 (.slice A8 l.length c8) l.length (l.map (Value.int .u8))) (hc8 : Chg (fun j => (Value.slice (some ⟨wr.heap.size, 0, none⟩) 0 0).ownBlock = some j) (wr.alloc (.cells #[] 5)).drew w8)
    (hv8 : (Value.slice A8 l.length c8).ownBlock = (Value.slice (some ⟨wr.heap.size, 0, none⟩) 0 0).ownBlock ∨ ∃ g, (Value.slice A8 l.length c8).ownBlock = some g ∧ (wr.alloc (.cells #[] 5)).drew.heap.size ≤ g ∧ g < w8.heap.size)
    (ho10 : w10.ownsRow w1.heap.size 40 1 (.slice A10 (k + 1) c10) (k + 1) (bvs ++ [.slice A8 l.length c8])) (hc10 : Chg (fun j => v.ownBlock = some j) (w8.alloc (.cells #[.slice A8 l.length c8] 40)) w10) :
    Blk (w10.setCell ⟨w1.heap.size, 0, none⟩ (.slice A10 (k + 1) c10)) w1.heap.size 48 #[.slice A10 (k + 1) c10] ∧
    (w10.setCell ⟨w1.heap.size, 0, none⟩ (.slice A10 (k + 1) c10)).ownsRow w1.heap.size 40 1 (.slice A10 (k + 1) c10) (k + 1) (bvs ++ [.slice A8 l.length c8]) ∧
    OwnBanks (w10.setCell ⟨w1.heap.size, 0, none⟩ (.slice A10 (k + 1) c10)) w1.heap.size (bvs ++ [.slice A8 l.length c8]) (banks ++ [l]) ∧
    Ext w1 (w10.setCell ⟨w1.heap.size, 0, none⟩ (.slice A10 (k + 1) c10)) := by
  have hB := hext.size'
  have hlo := hbo.lt
  have hvlt := hown.lt
  have e0 : Ext wr (wr.alloc (.cells #[] 5)).drew := Chg.drew (Chg.alloc (Ext.refl _) _)
  have e1 : Ext w8 (w8.alloc (.cells #[.slice A8 l.length c8] 40)) := Chg.alloc (Ext.refl _) _
  have b8 : Blk w8 w1.heap.size 48 #[v] := (hbo.ext e0).chg hc8 (lit_own (by omega))
  have hvb : v.ownBlock ≠ some w1.heap.size := own_blk_ne hown hbo (by decide)
  have b10 : Blk w10 w1.heap.size 48 #[v] := (b8.ext e1).chg hc10 hvb
  have o8 : w8.ownsRow w1.heap.size 40 1 v k bvs := ownsRow_chg (ownsRow_ext hown e0) hc8 (fun g hg => lit_own (by have := (hvlt g hg).2; omega))
  have cs : Chg (fun j => j = w1.heap.size) w10 (w10.setCell ⟨w1.heap.size, 0, none⟩ (.slice A10 (k + 1) c10)) := Chg.setCell (S := fun j => j = w1.heap.size) (p := ⟨w1.heap.size, 0, none⟩) (Chg.refl _ _) (.inl rfl) _
  have n10 : (Value.slice A10 (k + 1) c10).ownBlock ≠ some w1.heap.size := own_blk_ne ho10 b10 (by decide)
  have ob8 : OwnBanks w8 w1.heap.size bvs banks := (hob.chg e0 (fun _ _ _ _ _ h => h)).chg hc8 (fun j bv g h1 h2 => by
    have hj : j < banks.length := by
      have := hob.len
      rcases Nat.lt_or_ge j bvs.length with hh | hh
      · omega
      · rw [List.getElem?_eq_none hh] at h1; cases h1
    have := ((hob.each j bv banks[j] h1 (List.getElem?_eq_getElem hj)).lt g h2).2
    exact lit_own (by omega))
  have ob10 : OwnBanks w10 w1.heap.size bvs banks := (ob8.chg e1 (fun _ _ _ _ _ h => h)).chg hc10 (fun j bv g h1 h2 => by
    have hj : j < banks.length := by
      have := hob.len
      rcases Nat.lt_or_ge j bvs.length with hh | hh
      · omega
      · rw [List.getElem?_eq_none hh] at h1; cases h1
    exact own_ne (ob8.each j bv banks[j] h1 (List.getElem?_eq_getElem hj)) o8 (by decide) h2)
  have l10 : w10.ownsRow w1.heap.size 5 1 (.slice A8 l.length c8) l.length (l.map (Value.int .u8)) := ownsRow_chg (ownsRow_ext ho8 e1) hc10 (fun g hg => own_ne ho8 o8 (by decide) hg)
  have s10 : OwnBanks w10 w1.heap.size (bvs ++ [.slice A8 l.length c8]) (banks ++ [l]) := ob10.snoc l10 (fun j bv g h1 h2 => by
    have hj : j < banks.length := by
      have := hob.len
      rcases Nat.lt_or_ge j bvs.length with hh | hh
      · omega
      · rw [List.getElem?_eq_none hh] at h1; cases h1
    have hg := ((hob.each j bv banks[j] h1 (List.getElem?_eq_getElem hj)).lt g h2).2
    rcases hv8 with e | ⟨g', e, hg', _⟩
    · rw [e]; exact lit_own (by omega)
    · rw [e]
      intro e2
      injection e2 with e2
      simp at hg'
      omega)
  refine ⟨b10.set_ 0 _, ownsRow_chg ho10 cs (fun g hg e => n10 (by rw [hg, e])), s10.chg cs (fun j bv g h1 h2 e => ?_), ?_⟩
  · have hj : j < (banks ++ [l]).length := by
      have := s10.len
      rcases Nat.lt_or_ge j (bvs ++ [Value.slice A8 l.length c8]).length with hh | hh
      · omega
      · rw [List.getElem?_eq_none hh] at h1; cases h1
    exact own_blk_ne (s10.each j bv (banks ++ [l])[j] h1 (List.getElem?_eq_getElem hj)) b10 (by decide) (by rw [h2, e])
  · refine Chg.trans' (S := Non) (T := fun j => j = w1.heap.size) (b := w10) ?_ cs (fun _ _ h => h) (fun i hi e => by omega)
    refine Chg.trans' (S := Non) (T := fun j => v.ownBlock = some j) (b := w8.alloc (.cells #[.slice A8 l.length c8] 40)) ?_ hc10 (fun _ _ h => h) (fun i hi e => by have := (hvlt i e).1; omega)
    refine Chg.alloc ?_ _
    exact Chg.trans' (S := Non) (hext.trans e0) hc8 (fun _ _ h => h) (fun i hi e => by
      simp only [Value.ownBlock, Option.some.injEq] at e
      omega)
theorem OwnBanks.set_ {w : World} {B : Nat} {bvs : List Value} {banks : List (List Int)} (h : OwnBanks w B bvs banks) {bank cell : Nat} {g cap : Nat} {l : List Int} (hv : bvs[bank]? = some (.slice (some ⟨g, 0, none⟩) l.length cap)) (hl : banks[bank]? = some l) (hc : cell < l.length) (y : Int) :
    OwnBanks (w.setCell ⟨g, cell, none⟩ (.int .u8 y)) B bvs (banks.set bank (l.set cell y)) := by
  refine ⟨by rw [List.length_set]; exact h.len, fun k bv x h1 h2 => ?_, h.apart⟩
  by_cases hk : k = bank
  · subst hk
    rw [hv] at h1
    cases h1
    have hb : k < banks.length := (List.getElem?_eq_some_iff.1 hl).1
    rw [List.getElem?_set_self hb] at h2
    cases h2
    have := own_set (h.each k _ l hv hl) cell hc (.int .u8 y)
    rw [List.length_set, List.map_set]
    exact this
  · rw [List.getElem?_set_ne (fun e => hk e.symm)] at h2
    exact ownsRow_chg (S := fun j => j = g) (h.each k bv x h1 h2) (Chg.setCell (S := fun j => j = g) (p := ⟨g, cell, none⟩) (Chg.refl _ _) (.inl rfl) _) (fun j hj e => h.apart k bank bv _ j h1 hv hk hj (by rw [e]; rfl))
def FusesNew (B : Nat) (w : World) (fv : Value) (banks : List (List Int)) : Prop :=
  ∃ B' bvs, B ≤ B' ∧ w.ownsRow B' 40 1 fv banks.length bvs ∧ OwnBanks w B' bvs banks
theorem FusesNew.fuses {B : Nat} {w : World} {fv : Value} {banks : List (List Int)} (h : FusesNew B w fv banks) : FusesIn w fv banks := by
  obtain ⟨B', bvs, _, h1, h2⟩ := h
  exact ⟨bvs, Reads.of_own h1, OwnBanks.reads h2⟩
theorem FusesNew.chg {B : Nat} {w w' : World} {fv : Value} {banks : List (List Int)} (h : FusesNew B w fv banks) {S : Nat → Prop} (hc : Chg S w w') (hS : ∀ k, B ≤ k → ¬ S k) : FusesNew B w' fv banks := by
  obtain ⟨B', bvs, hB, h1, h2⟩ := h
  refine ⟨B', bvs, hB, ownsRow_chg h1 hc (fun j hj => hS j (Nat.le_trans hB (h1.lt j hj).1)), h2.chg hc (fun k bv j e1 e2 => ?_)⟩
  have hk : k < banks.length := by
    have := h2.len
    rcases Nat.lt_or_ge k bvs.length with hh | hh
    · omega
    · rw [List.getElem?_eq_none hh] at e1; cases e1
  exact hS j (Nat.le_trans hB ((h2.each k bv banks[k] e1 (List.getElem?_eq_getElem hk)).lt j e2).1)
theorem fuses_done {w wr : World} {B r : Nat} {bvs : List Value} {banks : List (List Int)} {g cap : Nat} {V : Value} (hown : wr.ownsRow B 40 1 (.slice (some ⟨g, 0, none⟩) banks.length cap) banks.length bvs) (hob : OwnBanks wr B bvs banks) (hr : r < B) (hw : w.heap.size ≤ r) (he : Ext w wr) :
    FusesNew w.heap.size (wr.setCell ⟨r, 0, none⟩ V) (.slice (some ⟨g, 0, none⟩) banks.length cap) banks ∧ Ext w (wr.setCell ⟨r, 0, none⟩ V) := by
  have hc : Chg (fun j => j = r) wr (wr.setCell ⟨r, 0, none⟩ V) := Chg.setCell (S := fun j => j = r) (p := ⟨r, 0, none⟩) (Chg.refl _ _) (.inl rfl) _
  have h0 : FusesNew B wr (.slice (some ⟨g, 0, none⟩) banks.length cap) banks := ⟨B, bvs, Nat.le_refl _, hown, hob⟩
  obtain ⟨B', bvs', hB, h1, h2⟩ := h0.chg hc (fun k hk e => by omega)
  exact ⟨⟨B', bvs', by omega, h1, h2⟩, Chg.setCell (p := ⟨r, 0, none⟩) he (.inr hw) _⟩
theorem take_stepE {α : Type} (l : List α) (k : Nat) (h : k < l.length) : l.take (k + 1) = l.take k ++ [l[k]] := by rw [List.take_add_one, List.getElem?_eq_getElem h]; rfl
set_option maxRecDepth 100000 in
set_option maxHeartbeats 2000000 in
theorem fuse_pulse (fv : Value) (banks : List (List Int)) (bank cell : Nat) (cut : Bool) (w : World) (h : FusesIn w fv banks) (hb : bank < banks.length) (hc : cell < banks[bank].length) (hn : banks.length ≤ 1000) (hn2 : ∀ l ∈ banks, l.length ≤ 100000) :
    Calls Tryz.prog 78 #[.agg #[fv], .int .i64 (bank : Int), .int .i64 (cell : Int), .bool cut] w fun e w' =>
      ∃ fv', e = .returned (.tuple #[.agg #[fv'], .int .i64 0]) ∧ FusesNew w.heap.size w' fv' (banks.set bank (banks[bank].set cell (pulsed banks[bank][cell] cut))) ∧ Ext w w' := by
  have HF := hide h
  obtain ⟨_, ⟨_, A, c, rfl, _⟩, _⟩ := h.ex
  have HE := hide (exists_yes _ banks bank cell ((w.alloc (.cells #[.slice A banks.length c] 48)).alloc (.cells #[.slice none 0 0] 48)) ((unhide HF).ext (Chg.alloc (Chg.alloc (Ext.refl _) _) _)) hb hc)
  clear h
  go_enter Tryz.func78, Tryz.ntmps78
  go_wp2_with fail
  refine (unhide HE).mono ?_
  rintro e w1 ⟨rfl, hE⟩
  have hBf := ((Blk.new w 48 #[.slice A banks.length c]).alloc (.cells #[.slice none 0 0] 48)).ext hE
  have hBr := (Blk.new' (w.alloc (.cells #[.slice A banks.length c] 48)) 48 #[.slice none 0 0] (g := w.heap.size + 1) (by simp)).ext hE
  have hsz := hE.size'
  simp only [World.size_alloc] at hsz
  have HX : Hid (Ext w w1) := hide ((Chg.alloc (Chg.alloc (Ext.refl _) _) _).trans hE)
  clear hE HE
  obtain ⟨f0, ff, fl⟩ := hBf.cells1
  obtain ⟨r0, rf, rl⟩ := hBr.cells1
  have HB := hide (And.intro hBf hBr)
  clear hBf hBr
  go_wp2
  have HS : Hid (w.heap.size + 1 < w1.heap.size) := hide (by omega)
  go_loopw [11] (fun i wr => ∃ (k : Nat) (bvs : List Value) (v : Value), k ≤ banks.length ∧ i = .int .i64 k ∧ Blk wr w1.heap.size 48 #[v] ∧ wr.ownsRow w1.heap.size 40 1 v k bvs ∧ OwnBanks wr w1.heap.size bvs (banks.take k) ∧ Ext w1 wr) (fun i _ => banks.length - (intOf i).toNat)
  case atStart => exact ⟨0, [], .slice none 0 0, by omega, rfl, Blk.new _ _ _, World.ownsRow_nil _ _ _ _, OwnBanks.nil _ _, Chg.alloc (Ext.refl _) _⟩
  case round =>
    obtain ⟨k, bvs, v, hk, rfl, hbo, hown, hob, hext⟩ := hrel
    have hf1 := (unhide HB).1.ext hext
    obtain ⟨g0, gf, gl⟩ := hf1.cells1
    obtain ⟨o0, of, ol⟩ := hbo.cells1
    by_cases hlt : k < banks.length
    · obtain ⟨b, o, c', bv, hv, hbw, hcell, hr⟩ := (unhide HF).at_ hlt
      cases hv
      have hE2 : Ext w wr := (unhide HX).trans hext
      have hcell := hE2.cellv hcell
      have hr := hr.ext hE2
      have hlen : banks[k].length ≤ 100000 := hn2 _ (List.getElem_mem hlt)
      have hk0 : (0 : Int) ≤ (k : Int) := by omega
      have hk1 : (k : Int) < (banks.length : Int) := by omega
      have HO := hide (And.intro hbo (And.intro hown (And.intro hob hext)))
      have HR := hide hr
      clear hbo hown hob hr hf1 f0 ff r0 rf hext hE2
      have hB : w1.heap.size ≤ wr.heap.size := (unhide HO).2.2.2.size'
      go_wp2
      have hvB : ∀ g, v.ownBlock = some g → w1.heap.size ≤ g ∧ g < wr.heap.size ∧ ¬ g = w1.heap.size := fun g hg => ⟨((unhide HO).2.1.lt g hg).1, ((unhide HO).2.1.lt g hg).2, fun e => own_blk_ne (unhide HO).2.1 (unhide HO).1 (by decide) (e ▸ hg)⟩
      have hbwr : b < wr.heap.size := by omega
      go_region_law (first
          | (refine step_app (s := .tmp 28) (x := .tmp 33) rfl rfl u8_rowE (v := .slice (some ⟨wr.heap.size, 0, none⟩) 0 0) rfl (B := w1.heap.size) (n := 0) (xs := []) (by exact own_empty wr _ _ _ hB) rfl (by exact ((unhide HR).ext (Chg.alloc (Ext.refl _) _)).ext (Chg.drew (Ext.refl _))) (AllOne.map (fun _ => rfl) _) (by omega) (by exact Nat.le_trans hB (by simp)) ?_; intro A8 c8 w8 ho8 hc8 hv8; simp only [Nat.zero_add, List.nil_append] at ho8 hv8
             have hl8 : w1.heap.size < w8.heap.size := Nat.lt_of_lt_of_le (by simp; omega) hc8.size
             have hs8' : w8.cell? ⟨w1.heap.size, 0, none⟩ = some v ∧ w8.cell? ⟨w.heap.size, 0, none⟩ = some (.slice (some ⟨b, o, none⟩) banks.length c) ∧ w8.cell? ⟨b, o + k, none⟩ = some bv := ⟨hc8.cellv (Ext.cellv (Chg.drew (Chg.alloc (Ext.refl _) _)) o0) (lit_own (by simp only; omega)), hc8.cellv (Ext.cellv (Chg.drew (Chg.alloc (Ext.refl _) _)) g0) (lit_own (by simp only; omega)), hc8.cellv (Ext.cellv (Chg.drew (Chg.alloc (Ext.refl _) _)) hcell) (lit_own (by simp only; omega))⟩)
          | (refine step_app (s := .tmp 27) (x := .tmp 35) rfl rfl bank_row (v := v) rfl (B := w1.heap.size) (n := k) (xs := bvs) (by exact ownsRow_ext (ownsRow_chg (ownsRow_ext (unhide HO).2.1 (Chg.drew (Chg.alloc (Ext.refl _) _))) hc8 (fun g hg => lit_own (by have := (hvB g hg).2.1; omega))) (Chg.alloc (Ext.refl _) _)) rfl (by exact Reads.new1 _ _ _) (AllOne.one rfl) (by omega) (by exact Nat.le_trans hB (Nat.le_trans (by simp) (Nat.le_trans hc8.size (by simp)))) ?_; intro A10 c10 w10 ho10 hc10 hv10
             have hs10 : w10.cell? ⟨w1.heap.size, 0, none⟩ = some v ∧ w10.cell? ⟨w.heap.size, 0, none⟩ = some (.slice (some ⟨b, o, none⟩) banks.length c) ∧ w10.cell? ⟨b, o + k, none⟩ = some bv := ⟨hc10.cellv (Ext.cellv (Chg.alloc (Ext.refl _) _) hs8'.1) (fun e => (hvB _ e).2.2 rfl), hc10.cellv (Ext.cellv (Chg.alloc (Ext.refl _) _) hs8'.2.1) (fun e => by have := (hvB _ e).1; simp only at this; omega), hc10.cellv (Ext.cellv (Chg.alloc (Ext.refl _) _) hs8'.2.2) (fun e => by have := (hvB _ e).1; simp only at this; omega)⟩
             have hf10 : w10.frozen? ⟨w1.heap.size, 0, none⟩ = false := hc10.frozenv (Ext.frozenv (Chg.alloc (Ext.refl _) _) (hc8.frozenv (Ext.frozenv (Chg.drew (Chg.alloc (Ext.refl _) _)) (of 0) ol) (by simp; omega) (lit_own (by simp only; omega))) (Nat.lt_of_lt_of_le (by simp; omega) hc8.size)) (Nat.lt_of_lt_of_le (Nat.lt_of_lt_of_le (by simp; omega) hc8.size) (by simp)) (fun e => (hvB _ e).2.2 rfl)))
      all_goals
        have HH := hide (pulse_round (unhide HO).1 (unhide HO).2.1 (unhide HO).2.2.1 (unhide HO).2.2.2 ho8 hc8 hv8 ho10 hc10)
        clear hs8' hs10 hf10 hl8 ho8 hc8 hv8 ho10 hc10 hv10 HO
        go_wp2
        go_roundw
        case rel => exact ⟨k + 1, _, _, by omega, by go_num, (unhide HH).1, (unhide HH).2.1, by rw [take_stepE banks k hlt]; exact (unhide HH).2.2.1, (unhide HH).2.2.2⟩
        case measure => simp [intOf]; omega
    · obtain rfl : k = banks.length := by omega
      rw [List.take_length] at hob
      obtain ⟨g, cap, u, rfl, hg1, hg2, hu, hcu, hgf⟩ := own_at hown hb
      obtain ⟨gb, cb, x, hub, hb1, hb2, hx, hcx, hbf⟩ := own_at (hob.each bank u banks[bank] hu (List.getElem?_eq_getElem hb)) hc
      subst hub
      rw [List.getElem?_map, List.getElem?_eq_getElem hc] at hx
      cases hx
      have hgg : ¬ gb = g := fun e => own_ne (hob.each bank _ banks[bank] hu (List.getElem?_eq_getElem hb)) hown (by decide) (g := gb) rfl (by rw [e]; rfl)
      have hbr := (unhide HB).2.ext hext
      obtain ⟨r0', rf', rl'⟩ := hbr.cells1
      have hgr : ¬ gb = w.heap.size + 1 := by have := unhide HS; omega
      have hgr2 : ¬ g = w.heap.size + 1 := by have := unhide HS; omega
      have hgo : ¬ gb = w1.heap.size := fun e => own_blk_ne (hob.each bank _ banks[bank] hu (List.getElem?_eq_getElem hb)) hbo (by decide) (by rw [← e]; rfl)
      have hwo : ¬ w.heap.size + 1 = w1.heap.size := by have := unhide HS; omega
      have HH := hide (And.intro hown (And.intro hob (And.intro hext hu)))
      have hb0 : (bank : Int) < (banks.length : Int) := by omega
      have hc0 : (cell : Int) < (banks[bank].length : Int) := by omega
      have hlen : banks[bank].length ≤ 100000 := hn2 _ (List.getElem_mem hb)
      clear hown hob hext hu hf1 hbr r0 rf f0 ff
      generalize hX : banks[bank][cell] = x at *
      have HXX := hide hX
      clear hX
      have HP := hide (show pulsed x cut = if x ≤ 1 then (if cut then 1 else 2) else x from rfl)
      by_cases hle : x ≤ 1
      · have HL := hide hle
        cases cut with
        | true =>
          have HY : Hid (pulsed banks[bank][cell] true = 1) := hide (by rw [unhide HXX, unhide HP, if_pos hle]; rfl)
          go_wp2
          refine bodyPost_ret (v := .tuple #[.agg #[.slice (some ⟨g, 0, none⟩) banks.length cap], .int .i64 0]) (by simp [results, Tryz.results78, go_sem, r0']) rfl ⟨_, rfl, ?_⟩
          rw [unhide HY]
          have h0 := ownsRow_chg (S := fun j => j = gb) (unhide HH).1 (Chg.setCell (S := fun j => j = gb) (p := ⟨gb, cell, none⟩) (Chg.refl _ _) (.inl rfl) (.int .u8 1)) (fun j hj e => by cases hj; exact hgg e.symm)
          have h1 := (unhide HH).2.1.set_ (unhide HH).2.2.2 (List.getElem?_eq_getElem hb) hc 1
          have hl : (banks.set bank (banks[bank].set cell 1)).length = banks.length := List.length_set
          rw [← hl] at h0 ⊢
          exact fuses_done h0 h1 (unhide HS) (by omega) (Chg.setCell (p := ⟨gb, cell, none⟩) ((unhide HX).trans (unhide HH).2.2.1) (.inr (by simp only; omega)) _)
        | false =>
          have HY : Hid (pulsed banks[bank][cell] false = 2) := hide (by rw [unhide HXX, unhide HP, if_pos hle]; rfl)
          go_wp2
          refine bodyPost_ret (v := .tuple #[.agg #[.slice (some ⟨g, 0, none⟩) banks.length cap], .int .i64 0]) (by simp [results, Tryz.results78, go_sem, r0']) rfl ⟨_, rfl, ?_⟩
          rw [unhide HY]
          have h0 := ownsRow_chg (S := fun j => j = gb) (unhide HH).1 (Chg.setCell (S := fun j => j = gb) (p := ⟨gb, cell, none⟩) (Chg.refl _ _) (.inl rfl) (.int .u8 2)) (fun j hj e => by cases hj; exact hgg e.symm)
          have h1 := (unhide HH).2.1.set_ (unhide HH).2.2.2 (List.getElem?_eq_getElem hb) hc 2
          have hl : (banks.set bank (banks[bank].set cell 2)).length = banks.length := List.length_set
          rw [← hl] at h0 ⊢
          exact fuses_done h0 h1 (unhide HS) (by omega) (Chg.setCell (p := ⟨gb, cell, none⟩) ((unhide HX).trans (unhide HH).2.2.1) (.inr (by simp only; omega)) _)
      · have hx2 : ¬ x ≤ 1 := hle
        have HY : Hid (pulsed banks[bank][cell] cut = banks[bank][cell]) := hide (by rw [unhide HXX, unhide HP, if_neg hle])
        go_wp2
        refine bodyPost_ret (v := .tuple #[.agg #[.slice (some ⟨g, 0, none⟩) banks.length cap], .int .i64 0]) (by simp [results, Tryz.results78, go_sem, r0']) rfl ⟨_, rfl, ?_⟩
        rw [unhide HY, List.set_getElem_self, List.set_getElem_self]
        exact fuses_done (unhide HH).1 (unhide HH).2.1 (unhide HS) (by omega) ((unhide HX).trans (unhide HH).2.2.1)
end Go.Proofs.YtplkplegjoabgaaGreatDoor


namespace Go.Proofs.YtplkplegjoabgaaGreatDoor
open Go.RowKit
theorem Blk.loadVar_ {P : Program} {w : World} {b : Nat} {t : TypeId} {cs : Array Value} (hB : Blk w b t cs) {T : TypeId} {n : Nat} (W : Wide P T n) (hn : cs.size = n) : (loadVar T ⟨b, 0, none⟩).run P w = .ok (.agg cs) w := by
  obtain ⟨d, hu, hd⟩ := W.und
  have := run_loadVar_mid (P := P) w b 0 T cs.toList d hB.range hu hd (by rw [Array.length_toList, hn]; exact W.info)
  rw [Array.toArray_toList] at this
  exact this
theorem results_twoR {P : Program} {fn : Func} {i j k : Tmp} {T1 T2 : TypeId} {n1 n2 : Nat} (W1 : Wide P T1 n1) (W2 : Wide P T2 n2) (hf : fn.results = #[.cell i T1, .cell j T2, .tmp k]) {tmps : Array Value} {w : World} {b1 b2 : Nat} {t1 t2 : TypeId} {c1 c2 : Array Value}
    (hB1 : Blk w b1 t1 c1) (hB2 : Blk w b2 t2 c2) (k1 : c1.size = n1) (k2 : c2.size = n2) (ei : tmps.getD i undef = .pointer (some ⟨b1, 0, none⟩)) (ej : tmps.getD j undef = .pointer (some ⟨b2, 0, none⟩)) :
    (results fn tmps).run P w = .ok (.tuple #[.agg c1, .agg c2, tmps.getD k undef]) w := by
  have h1 := hB1.loadVar_ W1 k1
  have h2 := hB2.loadVar_ W2 k2
  simp only [Array.getD_eq_getD_getElem?] at ei ej
  simp [results, hf, ei, ej, asAddr, h1, h2]
theorem ret_two {P : Program} (hm : P.follows .mixedOrders = true) {T1 T2 T3 : TypeId} {n1 n2 : Nat} (W1 : Wide P T1 n1) (W2 : Wide P T2 n2) {id : Nat} {s1 s2 d1 d2 c : Operand} {x y z : Tmp} {p : String}
    {a : Act} {w : World} {K : Exit → Act → World → Prop} {t1 t2 t3 t4 : TypeId} {b1 b2 b3 b4 : Nat} {c1 c2 o1 o2 : Array Value}
    (hB1 : Blk w b1 t1 c1) (hB2 : Blk w b2 t2 c2) (hB3 : Blk w b3 t3 o1) (hB4 : Blk w b4 t4 o2)
    (k1 : c1.size = n1) (k2 : c2.size = n2) (k3 : o1.size = n1) (k4 : o2.size = n2) (l1 : c1.all (·.oneCell') = true) (l2 : c2.all (·.oneCell') = true)
    (f1 : ¬ b1 = b3 ∧ ¬ b1 = b4 ∧ ¬ b2 = b3 ∧ ¬ b2 = b4 ∧ ¬ b3 = b4)
    (e1 : a.eval s1 = .pointer (some ⟨b1, 0, none⟩)) (e2 : a.eval s2 = .pointer (some ⟨b2, 0, none⟩)) (e3 : a.eval d1 = .pointer (some ⟨b3, 0, none⟩)) (e4 : a.eval d2 = .pointer (some ⟨b4, 0, none⟩))
    (hx : x < a.tmps.size) (hy : y < a.tmps.size) (hxy : x ≠ y)
    (g1 : s1 ≠ .tmp y) (g2 : s2 ≠ .tmp x) (g3 : d1 ≠ .tmp x ∧ d1 ≠ .tmp y) (g4 : d2 ≠ .tmp x ∧ d2 ≠ .tmp y) (g5 : c ≠ .tmp x ∧ c ≠ .tmp y)
    (h : ∀ w', Chg (fun k => k = b3 ∨ k = b4) w w' → w'.heap.size = w.heap.size → Blk w' b3 t3 c1 → Blk w' b4 t4 c2 → K .normal (((a.put (some x) (.agg c1)).put (some y) (.agg c2)).put (some z) (a.eval c)) w') :
    (Code.region id #[⟨some x, .load T1 s1, T1, p, #[], none⟩,
      ⟨some y, .load T2 s2, T2, p, #[⟨2, .gcOnly .lateStores⟩], none⟩,
      ⟨none, .store T1 d1 (.tmp x), 0, p, #[⟨0, .data⟩, ⟨0, .phase⟩, ⟨1, .textOnly .lateStores⟩], none⟩,
      ⟨none, .store T2 d2 (.tmp y), 0, p, #[⟨1, .data⟩, ⟨2, .chain⟩, ⟨0, .phase⟩, ⟨1, .phase⟩, ⟨2, .phase⟩], none⟩,
      ⟨some z, .assign c, T3, p, #[⟨3, .chain⟩, ⟨0, .phase⟩, ⟨1, .phase⟩, ⟨2, .phase⟩, ⟨3, .phase⟩], none⟩] true).wp P K a w := by
  have vx : ∀ (b : Act) v, x < b.tmps.size → (b.put (some x) v).eval (.tmp x) = v := fun b v hb => by simp [Act.eval, Act.put, hb]
  have vy : ∀ (b : Act) v, y < b.tmps.size → (b.put (some y) v).eval (.tmp y) = v := fun b v hb => by simp [Act.eval, Act.put, hb]
  have sz : ∀ (b : Act) o v, (b.put o v).tmps.size = b.tmps.size := fun b o v => by cases o <;> simp [Act.put]
  have ne : ∀ (b : Act) (q : Operand) (i : Tmp) v, q ≠ .tmp i → (b.put (some i) v).eval q = b.eval q := fun b q i v hq => Act.eval_put fun d hd => by cases hd; exact hq
  have tne : ∀ (i j : Tmp), i ≠ j → (Operand.tmp i ≠ .tmp j) := fun i j h e => h (by cases e; rfl)
  have comm := Act.put_comm a (x := some x) (y := some y) (.agg c1) (.agg c2) (fun d hd e => hxy (by cases hd; cases e; rfl))
  obtain ⟨f13, f14, f23, f24, f34⟩ := f1
  have leaf : ∀ w1, Chg (fun k => k = b3) w w1 → w1.heap.size = w.heap.size → Blk w1 b3 t3 c1 → Blk w1 b4 t4 o2 →
      wpAny P .any #[⟨some x, .load T1 s1, T1, p, #[], none⟩,
      ⟨some y, .load T2 s2, T2, p, #[⟨2, .gcOnly .lateStores⟩], none⟩,
      ⟨none, .store T1 d1 (.tmp x), 0, p, #[⟨0, .data⟩, ⟨0, .phase⟩, ⟨1, .textOnly .lateStores⟩], none⟩,
      ⟨none, .store T2 d2 (.tmp y), 0, p, #[⟨1, .data⟩, ⟨2, .chain⟩, ⟨0, .phase⟩, ⟨1, .phase⟩, ⟨2, .phase⟩], none⟩,
      ⟨some z, .assign c, T3, p, #[⟨3, .chain⟩, ⟨0, .phase⟩, ⟨1, .phase⟩, ⟨2, .phase⟩, ⟨3, .phase⟩], none⟩] K 2 #[true, true, true, false, false] ((a.put (some x) (.agg c1)).put (some y) (.agg c2)) w1 := by
    intro w1 hc1 hz1 hb3 hb4
    refine wpAny_ready (rs := [3]) (by kernel_rfl) (by simp) (AllReady.cons rfl (fun J hJ => ?_) AllReady.nil)
    refine step_storeB (t := t4) (old := o2) rfl rfl W2 ?_ ?_ hb4 k4 k2 l2 fun w2 hb4' hc2 hz2 => hJ _ _ ?_
    · rw [ne _ _ _ _ g4.2, ne _ _ _ _ g4.1]; exact e4
    · exact vy _ _ (by rw [sz]; exact hy)
    refine wpAny_ready (rs := [4]) (by kernel_rfl) (by simp) (AllReady.cons rfl (fun J hJ => ?_) AllReady.nil)
    rw [if_pos (by rfl)]
    refine BigFrame.wp_assign c rfl (hJ _ _ ?_)
    refine wpAny_done (by kernel_rfl) ?_ _
    have ec : (((a.put (some x) (.agg c1)).put (some y) (.agg c2)).put none undef).eval c = a.eval c :=
      (ne (a.put (some x) (.agg c1)) c y _ g5.2).trans (ne a c x _ g5.1)
    show K .normal ((((a.put (some x) (.agg c1)).put (some y) (.agg c2)).put none undef).put (some z) ((((a.put (some x) (.agg c1)).put (some y) (.agg c2)).put none undef).eval c)) w2
    rw [ec]
    refine h w2 ?_ (by rw [hz2, hz1]) (hb3.chg hc2 f34) hb4'
    exact (hc1.mono fun k _ hk => .inl hk).trans (hc2.mono fun k _ hk => .inr hk)
  have s3 : ∀ (fuel : Nat) (l : Array Bool) (J : Act → World → Prop) (b : Act), b.eval d1 = a.eval d1 → b.eval (.tmp x) = .agg c1 →
      (∀ w1, Chg (fun k => k = b3) w w1 → w1.heap.size = w.heap.size → Blk w1 b3 t3 c1 → Blk w1 b4 t4 o2 → Blk w1 b2 t2 c2 → J (b.put none undef) w1) →
      if Region.wanted ⟨none, .store T1 d1 (.tmp x), 0, p, #[⟨0, .data⟩, ⟨0, .phase⟩, ⟨1, .textOnly .lateStores⟩], none⟩ (yielded #[⟨some x, .load T1 s1, T1, p, #[], none⟩,
      ⟨some y, .load T2 s2, T2, p, #[⟨2, .gcOnly .lateStores⟩], none⟩,
      ⟨none, .store T1 d1 (.tmp x), 0, p, #[⟨0, .data⟩, ⟨0, .phase⟩, ⟨1, .textOnly .lateStores⟩], none⟩,
      ⟨none, .store T2 d2 (.tmp y), 0, p, #[⟨1, .data⟩, ⟨2, .chain⟩, ⟨0, .phase⟩, ⟨1, .phase⟩, ⟨2, .phase⟩], none⟩,
      ⟨some z, .assign c, T3, p, #[⟨3, .chain⟩, ⟨0, .phase⟩, ⟨1, .phase⟩, ⟨2, .phase⟩, ⟨3, .phase⟩], none⟩] b.tmps) = true
        then Oper.wp P ⟨none, .store T1 d1 (.tmp x), 0, p, #[⟨0, .data⟩, ⟨0, .phase⟩, ⟨1, .textOnly .lateStores⟩], none⟩ b w.drew J K else J (b.put none undef) w.drew := by
    intro fuel l J b hd hx' hK
    refine step_storeB (t := t3) (old := o1) rfl rfl W1 (by rw [hd]; exact e3) hx' hB3.drew k3 k1 l1 fun w1 hb hc hz => ?_
    have hc' : Chg (fun k => k = b3) w w1 := (Chg.drew (Chg.refl _ _)).trans hc
    exact hK w1 hc' (hz.trans rfl) hb (hB4.chg hc' fun e => f34 e.symm) (hB2.chg hc' f23)
  refine wp_region_any hm ?_
  show wpAny P .any _ K 5 #[false, false, false, false, false] a w.drew
  refine wpAny_ready (rs := [0, 1]) (by kernel_rfl) (by simp) (AllReady.cons rfl (fun J hJ => ?_) (AllReady.cons rfl (fun J hJ => ?_) AllReady.nil))
  · refine step_loadB (t := t1) rfl rfl W1 e1 hB1.drew k1 (hJ _ _ ?_)
    refine wpAny_ready (rs := [1, 2]) (by kernel_rfl) (by simp) (AllReady.cons rfl (fun J hJ => ?_) (AllReady.cons rfl (fun J hJ => ?_) AllReady.nil))
    · refine step_loadB (t := t2) rfl rfl W2 ((ne _ _ _ _ g2).trans e2) hB2.drew k2 (hJ _ _ ?_)
      refine wpAny_ready (rs := [2]) (by kernel_rfl) (by simp) (AllReady.cons rfl (fun J hJ => ?_) AllReady.nil)
      refine s3 2 #[] J _ ?_ ?_ fun w1 h1 h2 h3 h4 _ => hJ _ _ (leaf w1 h1 h2 h3 h4)
      · exact (ne (a.put (some x) (.agg c1)) d1 y _ g3.2).trans (ne a d1 x _ g3.1)
      · exact (ne (a.put (some x) (.agg c1)) (.tmp x) y _ (tne _ _ hxy)).trans (vx _ _ hx)
    · refine s3 2 #[] J _ (ne _ _ _ _ g3.1) (vx _ _ hx) fun w1 h1 h2 h3 h4 h5 => hJ _ _ ?_
      refine wpAny_ready (rs := [1]) (by kernel_rfl) (by simp) (AllReady.cons rfl (fun J hJ => ?_) AllReady.nil)
      refine step_loadB (t := t2) rfl rfl W2 ((ne _ _ _ _ g2).trans e2) h5 k2 (hJ _ _ (leaf w1 h1 h2 h3 h4))
  · refine step_loadB (t := t2) rfl rfl W2 e2 hB2.drew k2 (hJ _ _ ?_)
    refine wpAny_ready (rs := [0]) (by kernel_rfl) (by simp) (AllReady.cons rfl (fun J hJ => ?_) AllReady.nil)
    refine step_loadB (t := t1) rfl rfl W1 ((ne _ _ _ _ g1).trans e1) hB1.drew k1 (hJ _ _ ?_)
    have comm' : (a.put (some y) (.agg c2)).put (some x) (.agg c1) = (a.put (some x) (.agg c1)).put (some y) (.agg c2) := comm.symm
    show wpAny _ _ _ _ _ _ ((a.put (some y) (.agg c2)).put (some x) (.agg c1)) _
    rw [comm']
    refine wpAny_ready (rs := [2]) (by kernel_rfl) (by simp) (AllReady.cons rfl (fun J hJ => ?_) AllReady.nil)
    refine s3 2 #[] J _ ?_ ?_ fun w1 h1 h2 h3 h4 _ => hJ _ _ (leaf w1 h1 h2 h3 h4)
    · exact (ne (a.put (some x) (.agg c1)) d1 y _ g3.2).trans (ne a d1 x _ g3.1)
    · exact (ne (a.put (some x) (.agg c1)) (.tmp x) y _ (tne _ _ hxy)).trans (vx _ _ hx)
end Go.Proofs.YtplkplegjoabgaaGreatDoor


namespace Go.Proofs.YtplkplegjoabgaaGreatDoor
open Go.RowKit
theorem hw_wide : Wide Tryz.prog 53 18 := ⟨⟨_, Tryz.underlying53, rfl⟩, by kernel_rfl⟩
theorem result_wide : Wide Tryz.prog 106 2 := ⟨⟨_, Tryz.underlying106, rfl⟩, by kernel_rfl⟩
def hw0 : Array Value := #[.slice none 0 0, .slice none 0 0, .int .u8 0, .int .u8 0, .int .u8 0, .int .u8 0, .int .u8 0, .int .u8 0, .int .u8 0, .int .u8 0, .int .u8 0, .int .u8 0, .int .u8 0, .int .u8 0, .int .u8 0, .int .u8 0, .int .u8 0, .int .u8 0]
structure DoVars (h : Nat) (H : Array Value) (kd bk cl : Int) (bs : ByteArray) (cut : Bool) (fb : Int) (noise : Bool) (w : World) : Prop where
  b3 : Blk w h 53 H
  b4 : Blk w (h + 1) 29 #[.int .i64 kd, .int .i64 bk, .int .i64 cl, .string bs]
  b5 : Blk w (h + 1 + 1) 89 #[.bool cut, .int .i64 fb, .bool noise]
  b6 : ∃ old, Blk w (h + 1 + 1 + 1) 53 old ∧ old.size = 18
  b7 : Blk w (h + 1 + 1 + 1 + 1) 106 #[.int .i64 0, .string { data := #[] }]
  b9 : Blk w (h + 1 + 1 + 1 + 1 + 1) 53 H
theorem DoVars.ext {h : Nat} {H : Array Value} {kd bk cl : Int} {bs : ByteArray} {cut : Bool} {fb : Int} {noise : Bool} {w w' : World} (d : DoVars h H kd bk cl bs cut fb noise w) (e : Ext w w') : DoVars h H kd bk cl bs cut fb noise w' := by
  obtain ⟨old, h6, hs⟩ := d.b6
  exact ⟨d.b3.ext e, d.b4.ext e, d.b5.ext e, ⟨old, h6.ext e, hs⟩, d.b7.ext e, d.b9.ext e⟩
theorem do_start (w : World) (H : Array Value) (kd bk cl : Int) (bs : ByteArray) (cut : Bool) (fb : Int) (noise : Bool) (wa : World) (hb9 : Blk wa (w.heap.size + 1 + 1 + 1 + 1 + 1) 53 H)
    (hc : Chg (fun k => k = w.heap.size + 1 + 1 + 1 + 1 + 1) ((((((w.alloc (.cells H 53)).alloc (.cells #[.int .i64 kd, .int .i64 bk, .int .i64 cl, .string bs] 29)).alloc (.cells #[.bool cut, .int .i64 fb, .bool noise] 89)).alloc (.cells hw0 53)).alloc (.cells #[.int .i64 0, .string { data := #[] }] 106)).alloc (.cells hw0 53)) wa) :
    Ext w wa ∧ DoVars w.heap.size H kd bk cl bs cut fb noise wa := by
  refine ⟨Chg.trans' (S := Non) (T := fun k => k = w.heap.size + 1 + 1 + 1 + 1 + 1) ?_ hc (fun _ _ h => h) (fun i hi e => by omega), ?_⟩
  · repeat' (first | (with_reducible exact Chg.refl _ _) | (with_reducible exact Ext.refl _) | (with_reducible assumption) | (with_reducible refine Chg.alloc ?_ _) | (with_reducible refine Chg.drew ?_) | (with_reducible refine Chg.drewN ?_ _) | (with_reducible refine Chg.setCell ?_ ?_ _) | (with_reducible refine Ext.alloc ?_ _) | (with_reducible refine Ext.drew ?_) | (with_reducible refine Ext.drewN ?_ _) | (with_reducible refine Ext.setCell ?_ ?_ _) | (simp; done) | (simp; omega) | omega)
  · refine ⟨?_, ?_, ?_, ⟨hw0, ?_, rfl⟩, ?_, hb9⟩
    · exact ((((((Blk.new w _ _).alloc _).alloc _).alloc _).alloc _).alloc _).chg hc (by omega)
    · exact (((((Blk.new' _ _ _ (by simp)).alloc _).alloc _).alloc _).alloc _).chg hc (by omega)
    · exact ((((Blk.new' _ _ _ (by simp)).alloc _).alloc _).alloc _).chg hc (by omega)
    · exact (((Blk.new' _ _ _ (by simp)).alloc _).alloc _).chg hc (by omega)
    · exact ((Blk.new' _ _ _ (by simp)).alloc _).chg hc (by omega)
set_option maxRecDepth 100000 in
set_option maxHeartbeats 400000 in
theorem dev_read (H : Array Value) (fv : Value) (hH : H.size = 18) (hH1 : H.all (·.oneCell') = true) (hH0 : H[0]? = some fv) (banks : List (List Int)) (bank cell : Nat) (cut noise : Bool) (fb : Int) (w : World) (h : FusesIn w fv banks) (hb : bank < banks.length) (hc : cell < banks[bank].length) :
    Calls Tryz.prog 40 #[.agg H, .agg #[.int .i64 1, .int .i64 (bank : Int), .int .i64 (cell : Int), .string { data := #[] }], .agg #[.bool cut, .int .i64 fb, .bool noise]] w fun e w' =>
      e = .returned (.tuple #[.agg H, .agg #[.int .i64 (if cut then 0 else fuseBit banks[bank][cell] noise), .string { data := #[] }], .int .i64 0]) ∧ Ext w w' := by
  have HF := hide h
  obtain ⟨_, ⟨_, A, c, rfl, _⟩, _⟩ := h.ex
  clear h
  have HH := hide (And.intro hH hH1)
  clear hH hH1
  go_enter Tryz.func40, Tryz.ntmps40
  go_wp2_with (first
    | ((with_reducible show wpList _ _ _ (_ :: _) _ _)
       (refine wpList_loadB (ty := 53) (t := 53) (x := .tmp 3) rfl rfl hw_wide rfl ?_ (unhide HH).1 ?_)
       · exact ((((Blk.new w _ _).alloc _).alloc _).alloc _).alloc _)
    | ((with_reducible show wpList _ _ _ (_ :: _) _ _)
       refine wpList_storeB (ty := 53) (t := 53) (old := hw0) (x := .tmp 9) (y := .tmp 20) rfl rfl hw_wide rfl rfl ?_ ?_ (unhide HH).1 (unhide HH).2 ?_
       · exact Blk.new' _ _ _ (by simp)
       · rfl
       intro wa hb9 hca hsa
       have hD := hide (do_start w H 1 bank cell { data := #[] } cut fb noise wa hb9 hca)
       have a0 := (unhide hD).2.b4.cells4
       have b0 := (unhide hD).2.b5.cells3
       have c0 := ((unhide hD).2.b3.cell 0).trans hH0
       have hsz : wa.heap.size = w.heap.size + 6 := by rw [hsa]; simp
       clear hb9 hca hsa)
    | (go_at_call 113; fail))
  refine (fuse_read _ banks bank cell noise _ ((unhide HF).ext ?_) hb hc).mono ?_
  · have := (unhide hD).1
    repeat' (first | (with_reducible exact Chg.refl _ _) | (with_reducible exact Ext.refl _) | (with_reducible assumption) | (with_reducible refine Chg.alloc ?_ _) | (with_reducible refine Chg.drew ?_) | (with_reducible refine Chg.drewN ?_ _) | (with_reducible refine Chg.setCell ?_ ?_ _) | (with_reducible refine Ext.alloc ?_ _) | (with_reducible refine Ext.drew ?_) | (with_reducible refine Ext.drewN ?_ _) | (with_reducible refine Ext.setCell ?_ ?_ _) | (simp; done) | (simp; omega) | omega)
  rintro e w2 ⟨rfl, hE⟩
  generalize hxx : fuseBit banks[bank][cell] noise = x at *
  have HX := hide hxx
  clear hxx
  have hD2 := hide (And.intro ((unhide hD).1.trans ((Chg.alloc (Ext.refl _) _ : Ext wa (wa.alloc (.cells #[.int .i64 0, .string { data := #[] }] 106))).trans hE)) ((unhide hD).2.ext ((Chg.alloc (Ext.refl _) _ : Ext wa (wa.alloc (.cells #[.int .i64 0, .string { data := #[] }] 106))).trans hE)))
  have hR := (Blk.new' wa 106 #[.int .i64 0, .string { data := #[] }] (g := w.heap.size + 1 + 1 + 1 + 1 + 1 + 1) (by omega)).ext hE
  have r0 := hR.cells2
  have HR := hide hR
  have b1 := (unhide hD2).2.b5.cells3
  clear hE a0 b0 c0 hD hR HF
  cases cut with
  | true =>
    go_wp2
    generalize hW : World.setCell _ _ _ = wz
    have zb : Blk wz (w.heap.size + 6) 106 #[.int .i64 0, .string { data := #[] }] := by
      subst hW
      exact (((unhide HR).set_ 0 _).set_ 0 _).set_ 1 _
    have ze : Ext w wz := by
      have := (unhide hD2).1
      subst hW
      repeat' (first | (with_reducible exact Chg.refl _ _) | (with_reducible exact Ext.refl _) | (with_reducible assumption) | (with_reducible refine Chg.alloc ?_ _) | (with_reducible refine Chg.drew ?_) | (with_reducible refine Chg.drewN ?_ _) | (with_reducible refine Chg.setCell ?_ ?_ _) | (with_reducible refine Ext.alloc ?_ _) | (with_reducible refine Ext.drew ?_) | (with_reducible refine Ext.drewN ?_ _) | (with_reducible refine Ext.setCell ?_ ?_ _) | (simp; done) | (simp; omega) | omega)
    have z9 : Blk wz (w.heap.size + 1 + 1 + 1 + 1 + 1) 53 H := by
      subst hW
      exact (((unhide hD2).2.b9.far (by simp) _).far (by simp) _).far (by simp) _
    have zt : Blk wz (w.heap.size + 1 + 1 + 1 + 1) 106 #[.int .i64 0, .string { data := #[] }] := by
      subst hW
      exact (((unhide hD2).2.b7.far (by simp) _).far (by simp) _).far (by simp) _
    obtain ⟨zold, zo, zs⟩ := (unhide hD2).2.b6
    have zo : Blk wz (w.heap.size + 1 + 1 + 1) 53 zold := by
      subst hW
      exact ((zo.far (by simp) _).far (by simp) _).far (by simp) _
    clear hW r0 b1 HR hD2
    obtain ⟨hN, hA⟩ := unhide HH
    clear HH
    refine ret_two (by kernel_rfl) hw_wide result_wide z9 zb zo zt hN rfl zs rfl hA (by simp; exact ⟨rfl, rfl⟩) ⟨by omega, by omega, by omega, by omega, by omega⟩ rfl rfl rfl rfl (by simp) (by simp) (by simp) (by simp) (by simp) (by simp) (by simp) (by simp) fun w' hc hz z3 z4 => ?_
    clear z9 zb zo zt
    obtain ⟨m0, m1, mf, ml⟩ := z4.cells2
    have hE : Ext w w' := ze.trans' hc (fun _ _ h => h) (fun i hi e => by omega)
    have HE := hide hE
    have HN := hide (And.intro hN hA)
    have Z3 := hide z3
    clear hN hA z3 hE hc hz ze
    dsimp only [Exit.then]
    dsimp only [Act.put, Act.eval]
    go_wp2
    have hx := unhide HX
    subst hx
    exact bodyPost_ret (results_twoR hw_wide result_wide rfl (unhide Z3) z4 (unhide HN).1 rfl rfl rfl) rfl ⟨rfl, unhide HE⟩
  | false =>
    go_wp2
    generalize hW : World.setCell _ _ _ = wz
    have zb : Blk wz (w.heap.size + 6) 106 #[.int .i64 x, .string { data := #[] }] := by
      subst hW
      exact (unhide HR).set_ 0 _
    have ze : Ext w wz := by
      have := (unhide hD2).1
      subst hW
      repeat' (first | (with_reducible exact Chg.refl _ _) | (with_reducible exact Ext.refl _) | (with_reducible assumption) | (with_reducible refine Chg.alloc ?_ _) | (with_reducible refine Chg.drew ?_) | (with_reducible refine Chg.drewN ?_ _) | (with_reducible refine Chg.setCell ?_ ?_ _) | (with_reducible refine Ext.alloc ?_ _) | (with_reducible refine Ext.drew ?_) | (with_reducible refine Ext.drewN ?_ _) | (with_reducible refine Ext.setCell ?_ ?_ _) | (simp; done) | (simp; omega) | omega)
    have z9 : Blk wz (w.heap.size + 1 + 1 + 1 + 1 + 1) 53 H := by
      subst hW
      exact (unhide hD2).2.b9.far (by simp) _
    have zt : Blk wz (w.heap.size + 1 + 1 + 1 + 1) 106 #[.int .i64 0, .string { data := #[] }] := by
      subst hW
      exact (unhide hD2).2.b7.far (by simp) _
    obtain ⟨zold, zo, zs⟩ := (unhide hD2).2.b6
    have zo : Blk wz (w.heap.size + 1 + 1 + 1) 53 zold := by
      subst hW
      exact zo.far (by simp) _
    clear hW r0 b1 HR hD2
    obtain ⟨hN, hA⟩ := unhide HH
    clear HH
    refine ret_two (by kernel_rfl) hw_wide result_wide z9 zb zo zt hN rfl zs rfl hA (by simp; exact ⟨rfl, rfl⟩) ⟨by omega, by omega, by omega, by omega, by omega⟩ rfl rfl rfl rfl (by simp) (by simp) (by simp) (by simp) (by simp) (by simp) (by simp) (by simp) fun w' hc hz z3 z4 => ?_
    clear z9 zb zo zt
    obtain ⟨m0, m1, mf, ml⟩ := z4.cells2
    have hE : Ext w w' := ze.trans' hc (fun _ _ h => h) (fun i hi e => by omega)
    have HE := hide hE
    have HN := hide (And.intro hN hA)
    have Z3 := hide z3
    clear hN hA z3 hE hc hz ze
    dsimp only [Exit.then]
    dsimp only [Act.put, Act.eval]
    go_wp2
    have hx := unhide HX
    subst hx
    exact bodyPost_ret (results_twoR hw_wide result_wide rfl (unhide Z3) z4 (unhide HN).1 rfl rfl rfl) rfl ⟨rfl, unhide HE⟩
end Go.Proofs.YtplkplegjoabgaaGreatDoor


namespace Go.Proofs.YtplkplegjoabgaaGreatDoor
open Go.RowKit
set_option maxRecDepth 100000 in
set_option maxHeartbeats 2000000 in
theorem dev_pulse (H : Array Value) (fv : Value) (hH : H.size = 18) (hH1 : H.all (·.oneCell') = true) (hH0 : H[0]? = some fv) (banks : List (List Int)) (bank cell : Nat) (cut noise : Bool) (fb : Int) (w : World) (h : FusesIn w fv banks) (hb : bank < banks.length) (hc : cell < banks[bank].length)
    (hn : banks.length ≤ 1000) (hn2 : ∀ l ∈ banks, l.length ≤ 100000) :
    Calls Tryz.prog 40 #[.agg H, .agg #[.int .i64 2, .int .i64 (bank : Int), .int .i64 (cell : Int), .string { data := #[] }], .agg #[.bool cut, .int .i64 fb, .bool noise]] w fun e w' =>
      ∃ fv', e = .returned (.tuple #[.agg (H.setIfInBounds 0 fv'), .agg #[.int .i64 0, .string { data := #[] }], .int .i64 0]) ∧ FusesNew w.heap.size w' fv' (banks.set bank (banks[bank].set cell (pulsed banks[bank][cell] cut))) ∧ Ext w w' := by
  have HF := hide h
  obtain ⟨_, ⟨_, A, c, rfl, _⟩, _⟩ := h.ex
  clear h
  have HH := hide (And.intro hH hH1)
  clear hH hH1
  go_enter Tryz.func40, Tryz.ntmps40
  go_wp2_with (first
    | ((with_reducible show wpList _ _ _ (_ :: _) _ _)
       (refine wpList_loadB (ty := 53) (t := 53) (x := .tmp 3) rfl rfl hw_wide rfl ?_ (unhide HH).1 ?_)
       · exact ((((Blk.new w _ _).alloc _).alloc _).alloc _).alloc _)
    | ((with_reducible show wpList _ _ _ (_ :: _) _ _)
       refine wpList_storeB (ty := 53) (t := 53) (old := hw0) (x := .tmp 9) (y := .tmp 20) rfl rfl hw_wide rfl rfl ?_ ?_ (unhide HH).1 (unhide HH).2 ?_
       · exact Blk.new' _ _ _ (by simp)
       · rfl
       intro wa hb9 hca hsa
       have hD := hide (do_start w H 2 bank cell { data := #[] } cut fb noise wa hb9 hca)
       have a0 := (unhide hD).2.b4.cells4
       have b0 := (unhide hD).2.b5.cells3
       have c0 := ((unhide hD).2.b3.cell 0).trans hH0
       have hsz : wa.heap.size = w.heap.size + 6 := by rw [hsa]; simp
       clear hb9 hca hsa)
    | (go_at_call 113; fail))
  refine (fuse_pulse _ banks bank cell cut _ ((unhide HF).ext ?_) hb hc hn hn2).mono ?_
  · have := (unhide hD).1
    repeat' (first | (with_reducible exact Chg.refl _ _) | (with_reducible exact Ext.refl _) | (with_reducible assumption) | (with_reducible refine Chg.alloc ?_ _) | (with_reducible refine Chg.drew ?_) | (with_reducible refine Chg.drewN ?_ _) | (with_reducible refine Chg.setCell ?_ ?_ _) | (with_reducible refine Ext.alloc ?_ _) | (with_reducible refine Ext.drew ?_) | (with_reducible refine Ext.drewN ?_ _) | (with_reducible refine Ext.setCell ?_ ?_ _) | (simp; done) | (simp; omega) | omega)
  rintro e w2 ⟨fv', rfl, hF', hE⟩
  have hF' : FusesNew (w.heap.size + 6 + 1) w2 fv' (banks.set bank (banks[bank].set cell (pulsed banks[bank][cell] cut))) := by
    rw [show w.heap.size + 6 + 1 = (wa.alloc (.cells #[.int .i64 0, .string { data := #[] }] 106)).heap.size from by simp [hsz]]
    exact hF'
  obtain ⟨_, ⟨_, A', c', rfl, _⟩, _⟩ := hF'.fuses.ex
  rw [List.length_set] at hF'
  have HF' := hide hF'
  clear hF'
  have hD2 := hide (And.intro ((unhide hD).1.trans ((Chg.alloc (Ext.refl _) _ : Ext wa (wa.alloc (.cells #[.int .i64 0, .string { data := #[] }] 106))).trans hE)) ((unhide hD).2.ext ((Chg.alloc (Ext.refl _) _ : Ext wa (wa.alloc (.cells #[.int .i64 0, .string { data := #[] }] 106))).trans hE)))
  have hR := (Blk.new' wa 106 #[.int .i64 0, .string { data := #[] }] (g := w.heap.size + 1 + 1 + 1 + 1 + 1 + 1) (by omega)).ext hE
  have r0 := hR.cells2
  have HR := hide hR
  have b1 := (unhide hD2).2.b5.cells3
  have hsz2 : w.heap.size + 6 < w2.heap.size := (unhide HR).lt
  clear hE a0 b0 c0 hD hR HF
  have k9 := ((unhide hD2).2.b9.cell 0).trans hH0
  have f9 : w2.frozen? ⟨w.heap.size + 1 + 1 + 1 + 1 + 1, 0, none⟩ = false := by
    rw [(unhide hD2).2.b9.frozen]
  have hs5 : w.heap.size + 1 + 1 + 1 + 1 + 1 < w2.heap.size := by omega
  cases cut with
  | true =>
    go_wp2
    generalize hW : World.alloc _ _ = wz
    have zb : Blk wz (w.heap.size + 6) 106 #[.int .i64 0, .string { data := #[] }] := by
      subst hW
      exact (((unhide HR).far (by simp) _).set_ 0 _ |>.set_ 1 _).alloc _
    have ze : Ext w wz := by
      have := (unhide hD2).1
      subst hW
      repeat' (first | (with_reducible exact Chg.refl _ _) | (with_reducible exact Ext.refl _) | (with_reducible assumption) | (with_reducible refine Chg.alloc ?_ _) | (with_reducible refine Chg.drew ?_) | (with_reducible refine Chg.drewN ?_ _) | (with_reducible refine Chg.setCell ?_ ?_ _) | (with_reducible refine Ext.alloc ?_ _) | (with_reducible refine Ext.drew ?_) | (with_reducible refine Ext.drewN ?_ _) | (with_reducible refine Ext.setCell ?_ ?_ _) | (simp; done) | (simp; omega) | omega)
    have z9 : Blk wz (w.heap.size + 1 + 1 + 1 + 1 + 1) 53 (H.setIfInBounds 0 (.slice A' banks.length c')) := by
      subst hW
      have z9a := (unhide hD2).2.b9.set_ 0 (.slice A' banks.length c')
      repeat' (first | (with_reducible exact z9a) | (with_reducible refine Blk.alloc ?_ _) | (with_reducible refine Blk.far ?_ (by simp) _))
    have zf : FusesNew (w.heap.size + 6 + 1) wz (.slice A' banks.length c') (banks.set bank (banks[bank].set cell (pulsed banks[bank][cell] true))) := (unhide HF').chg (S := fun k => w.heap.size ≤ k ∧ k < w.heap.size + 7) (by
      subst hW
      repeat' (first | (with_reducible exact Chg.refl _ _) | (with_reducible exact Ext.refl _) | (with_reducible assumption) | (with_reducible refine Chg.alloc ?_ _) | (with_reducible refine Chg.drew ?_) | (with_reducible refine Chg.drewN ?_ _) | (with_reducible refine Chg.setCell ?_ ?_ _) | (with_reducible refine Ext.alloc ?_ _) | (with_reducible refine Ext.drew ?_) | (with_reducible refine Ext.drewN ?_ _) | (with_reducible refine Ext.setCell ?_ ?_ _) | (simp; done) | (simp; omega) | omega)
      ) (fun k h1 h2 => by omega)
    have zt : Blk wz (w.heap.size + 1 + 1 + 1 + 1) 106 #[.int .i64 0, .string { data := #[] }] := by
      subst hW
      have z9a := (unhide hD2).2.b7
      repeat' (first | (with_reducible exact z9a) | (with_reducible refine Blk.alloc ?_ _) | (with_reducible refine Blk.far ?_ (by simp) _))
    obtain ⟨zold, zo, zs⟩ := (unhide hD2).2.b6
    have zo : Blk wz (w.heap.size + 1 + 1 + 1) 53 zold := by
      subst hW
      repeat' (first | (with_reducible exact zo) | (with_reducible refine Blk.alloc ?_ _) | (with_reducible refine Blk.far ?_ (by simp) _))
    clear hW b1 HR hD2
    obtain ⟨hN0, hA0⟩ := unhide HH
    have hN : (H.setIfInBounds 0 (.slice A' banks.length c')).size = 18 := by simpa using hN0
    have hA : (H.setIfInBounds 0 (.slice A' banks.length c')).all (·.oneCell') = true := by
      rw [Array.all_eq_true'] at hA0 ⊢
      intro v hv
      rcases Array.mem_or_eq_of_mem_setIfInBounds hv with h1 | rfl
      · exact hA0 _ h1
      · rfl
    clear HH hN0 hA0 HF'
    refine ret_two (by kernel_rfl) hw_wide result_wide z9 zb zo zt hN rfl zs rfl hA (by simp; exact ⟨rfl, rfl⟩) ⟨by omega, by omega, by omega, by omega, by omega⟩ rfl rfl rfl rfl (by simp) (by simp) (by simp) (by simp) (by simp) (by simp) (by simp) (by simp) fun w' hc hz z3 z4 => ?_
    clear z9 zb zo zt
    obtain ⟨m0, m1, mf, ml⟩ := z4.cells2
    have hE : Ext w w' := ze.trans' hc (fun _ _ h => h) (fun i hi e => by omega)
    have hF3 : FusesNew w.heap.size w' (.slice A' banks.length c') (banks.set bank (banks[bank].set cell (pulsed banks[bank][cell] true))) := by
      obtain ⟨B', bvs, h1, h2, h3⟩ := zf.chg hc (fun k h1 h2 => by omega)
      exact ⟨B', bvs, by omega, h2, h3⟩
    have HE := hide (And.intro hF3 hE)
    have HN := hide (And.intro hN hA)
    have Z3 := hide z3
    clear hN hA z3 hE hc hz ze hF3 zf
    dsimp only [Exit.then]
    dsimp only [Act.put, Act.eval]
    go_wp2
    exact bodyPost_ret (results_twoR hw_wide result_wide rfl (unhide Z3) z4 (unhide HN).1 rfl rfl rfl) rfl ⟨_, rfl, unhide HE⟩
  | false =>
    go_wp2
    generalize hW : World.alloc _ _ = wz
    have zb : Blk wz (w.heap.size + 6) 106 #[.int .i64 0, .string { data := #[] }] := by
      subst hW
      exact ((unhide HR).far (by simp) _).alloc _
    have ze : Ext w wz := by
      have := (unhide hD2).1
      subst hW
      repeat' (first | (with_reducible exact Chg.refl _ _) | (with_reducible exact Ext.refl _) | (with_reducible assumption) | (with_reducible refine Chg.alloc ?_ _) | (with_reducible refine Chg.drew ?_) | (with_reducible refine Chg.drewN ?_ _) | (with_reducible refine Chg.setCell ?_ ?_ _) | (with_reducible refine Ext.alloc ?_ _) | (with_reducible refine Ext.drew ?_) | (with_reducible refine Ext.drewN ?_ _) | (with_reducible refine Ext.setCell ?_ ?_ _) | (simp; done) | (simp; omega) | omega)
    have z9 : Blk wz (w.heap.size + 1 + 1 + 1 + 1 + 1) 53 (H.setIfInBounds 0 (.slice A' banks.length c')) := by
      subst hW
      have z9a := (unhide hD2).2.b9.set_ 0 (.slice A' banks.length c')
      repeat' (first | (with_reducible exact z9a) | (with_reducible refine Blk.alloc ?_ _) | (with_reducible refine Blk.far ?_ (by simp) _))
    have zf : FusesNew (w.heap.size + 6 + 1) wz (.slice A' banks.length c') (banks.set bank (banks[bank].set cell (pulsed banks[bank][cell] false))) := (unhide HF').chg (S := fun k => w.heap.size ≤ k ∧ k < w.heap.size + 7) (by
      subst hW
      repeat' (first | (with_reducible exact Chg.refl _ _) | (with_reducible exact Ext.refl _) | (with_reducible assumption) | (with_reducible refine Chg.alloc ?_ _) | (with_reducible refine Chg.drew ?_) | (with_reducible refine Chg.drewN ?_ _) | (with_reducible refine Chg.setCell ?_ ?_ _) | (with_reducible refine Ext.alloc ?_ _) | (with_reducible refine Ext.drew ?_) | (with_reducible refine Ext.drewN ?_ _) | (with_reducible refine Ext.setCell ?_ ?_ _) | (simp; done) | (simp; omega) | omega)
      ) (fun k h1 h2 => by omega)
    have zt : Blk wz (w.heap.size + 1 + 1 + 1 + 1) 106 #[.int .i64 0, .string { data := #[] }] := by
      subst hW
      have z9a := (unhide hD2).2.b7
      repeat' (first | (with_reducible exact z9a) | (with_reducible refine Blk.alloc ?_ _) | (with_reducible refine Blk.far ?_ (by simp) _))
    obtain ⟨zold, zo, zs⟩ := (unhide hD2).2.b6
    have zo : Blk wz (w.heap.size + 1 + 1 + 1) 53 zold := by
      subst hW
      repeat' (first | (with_reducible exact zo) | (with_reducible refine Blk.alloc ?_ _) | (with_reducible refine Blk.far ?_ (by simp) _))
    clear hW b1 HR hD2
    obtain ⟨hN0, hA0⟩ := unhide HH
    have hN : (H.setIfInBounds 0 (.slice A' banks.length c')).size = 18 := by simpa using hN0
    have hA : (H.setIfInBounds 0 (.slice A' banks.length c')).all (·.oneCell') = true := by
      rw [Array.all_eq_true'] at hA0 ⊢
      intro v hv
      rcases Array.mem_or_eq_of_mem_setIfInBounds hv with h1 | rfl
      · exact hA0 _ h1
      · rfl
    clear HH hN0 hA0 HF'
    refine ret_two (by kernel_rfl) hw_wide result_wide z9 zb zo zt hN rfl zs rfl hA (by simp; exact ⟨rfl, rfl⟩) ⟨by omega, by omega, by omega, by omega, by omega⟩ rfl rfl rfl rfl (by simp) (by simp) (by simp) (by simp) (by simp) (by simp) (by simp) (by simp) fun w' hc hz z3 z4 => ?_
    clear z9 zb zo zt
    obtain ⟨m0, m1, mf, ml⟩ := z4.cells2
    have hE : Ext w w' := ze.trans' hc (fun _ _ h => h) (fun i hi e => by omega)
    have hF3 : FusesNew w.heap.size w' (.slice A' banks.length c') (banks.set bank (banks[bank].set cell (pulsed banks[bank][cell] false))) := by
      obtain ⟨B', bvs, h1, h2, h3⟩ := zf.chg hc (fun k h1 h2 => by omega)
      exact ⟨B', bvs, by omega, h2, h3⟩
    have HE := hide (And.intro hF3 hE)
    have HN := hide (And.intro hN hA)
    have Z3 := hide z3
    clear hN hA z3 hE hc hz ze hF3 zf
    dsimp only [Exit.then]
    dsimp only [Act.put, Act.eval]
    go_wp2
    exact bodyPost_ret (results_twoR hw_wide result_wide rfl (unhide Z3) z4 (unhide HN).1 rfl rfl rfl) rfl ⟨_, rfl, unhide HE⟩
end Go.Proofs.YtplkplegjoabgaaGreatDoor


namespace Go.Proofs.YtplkplegjoabgaaGreatDoor
open Go.RowKit
def TriC {α : Type} (F : List Int) (pre : List Int → Prop) (p : Prg α) (post : α → List Int → Prop) (cut : List Int → Prop) : Prop :=
  ∀ c i, pre c → match exec F p c i with | (some a, c', _) => post a c' | (none, c', _) => cut c'
section
variable {α β : Type} {F : List Int} {pre : List Int → Prop} {cut : List Int → Prop}
theorem TriC.ret {a : α} {post : α → List Int → Prop} (h : ∀ c, pre c → post a c) : TriC F pre (.ret a) post cut := fun c _ hc => h c hc
theorem TriC.bind {p : Prg α} {f : α → Prg β} {mid : α → List Int → Prop} {post : β → List Int → Prop} (h : TriC F pre p mid cut) (hf : ∀ a, TriC F (mid a) (f a) post cut) : TriC F pre (p.bind f) post cut := fun c i hc => by
  rw [exec_bind]
  have h1 := h c i hc
  split at h1 <;> rename_i hx <;> rw [hx]
  · exact hf _ _ _ h1
  · exact h1
theorem TriC.mono {p : Prg α} {pre' : List Int → Prop} {post post' : α → List Int → Prop} {cut' : List Int → Prop} (h : TriC F pre p post cut) (h1 : ∀ c, pre' c → pre c) (h2 : ∀ a c, post a c → post' a c) (h3 : ∀ c, cut c → cut' c) : TriC F pre' p post' cut' := fun c i hc => by
  have := h c i (h1 c hc)
  generalize exec F p c i = r at this ⊢
  obtain ⟨a, c', i'⟩ := r
  cases a with
  | some a => exact h2 _ _ this
  | none => exact h3 _ this
theorem TriC.fuse {post : Int → List Int → Prop} (j : Nat) (x : Int) (hx : x = (j : Int)) (h : ∀ c nz, pre c → post (fuseBit (cell c j) nz) c) (hcut : ∀ c, pre c → cut c) : TriC F pre (Prg.fuse 2 x) post cut := fun c i hc => by
  subst hx
  unfold Prg.fuse exec
  by_cases hf : (faultAt F i).1 = true
  · rw [if_pos hf]
    exact hcut c hc
  · rw [if_neg hf]
    exact h c (faultAt F i).2 hc
theorem TriC.pulse {post : Unit → List Int → Prop} (j : Nat) (x : Int) (hx : x = (j : Int)) (h : ∀ c, pre c → post () (c.set j (pulsed (cell c j) false))) (hcut : ∀ c, pre c → cut (c.set j (pulsed (cell c j) true))) : TriC F pre (Prg.pulse 2 x) post cut := fun c i hc => by
  subst hx
  unfold Prg.pulse exec
  by_cases hf : (faultAt F i).1 = true
  · rw [if_pos hf]
    show cut (c.set j (pulsed (c.getD j 0) (faultAt F i).1))
    rw [hf]
    exact hcut c hc
  · rw [if_neg hf]
    show post () (c.set j (pulsed (c.getD j 0) (faultAt F i).1))
    rw [Bool.eq_false_iff.2 hf]
    exact h c hc
end
theorem majority3 (a b c : Int) (ha : 0 ≤ a ∧ a ≤ 1) (hb : 0 ≤ b ∧ b ≤ 1) (hc : 0 ≤ c ∧ c ≤ 1) : majorityB [a, b, c] = decide (2 ≤ a + b + c) := by
  obtain ⟨a1, a2⟩ := ha
  obtain ⟨b1, b2⟩ := hb
  obtain ⟨c1, c2⟩ := hc
  have hA : a = 0 ∨ a = 1 := by omega
  have hB : b = 0 ∨ b = 1 := by omega
  have hC : c = 0 ∨ c = 1 := by omega
  rcases hA with rfl | rfl <;> rcases hB with rfl | rfl <;> rcases hC with rfl | rfl <;> decide
theorem fuseBit_between (x : Int) (nz : Bool) : fuseBit x false ≤ fuseBit x nz ∧ fuseBit x nz ≤ fuseBit x true := by
  unfold fuseBit
  cases nz <;> by_cases h1 : x = 1 <;> by_cases h2 : x = 2 <;> simp [h1, h2]
theorem tri_read (F : List Int) (c0 : List Int) (b : Nat) : TriC F (fun c => c = c0) (Prg.read 2 b) (fun v c => c = c0 ∧ (v = true → bitOne c0 true b = true) ∧ (v = false → bitOne c0 false b = false)) (fun c => c = c0) := by
  unfold Prg.read
  refine TriC.bind (mid := fun x c => c = c0 ∧ ∃ nz, x = fuseBit (cell c0 (3 * b)) nz) (TriC.fuse (3 * b) _ (by omega) (fun c nz h => ⟨h, nz, by rw [h]⟩) (fun c h => h)) fun x => ?_
  refine TriC.bind (mid := fun y c => c = c0 ∧ (∃ nz, x = fuseBit (cell c0 (3 * b)) nz) ∧ ∃ nz, y = fuseBit (cell c0 (3 * b + 1)) nz) (TriC.fuse (3 * b + 1) _ (by omega) (fun c nz h => ⟨h.1, h.2, nz, by rw [h.1]⟩) (fun c h => h.1)) fun y => ?_
  refine TriC.bind (mid := fun z c => c = c0 ∧ (∃ nz, x = fuseBit (cell c0 (3 * b)) nz) ∧ (∃ nz, y = fuseBit (cell c0 (3 * b + 1)) nz) ∧ ∃ nz, z = fuseBit (cell c0 (3 * b + 2)) nz) (TriC.fuse (3 * b + 2) _ (by omega) (fun c nz h => ⟨h.1, h.2.1, h.2.2, nz, by rw [h.1]⟩) (fun c h => h.1)) fun z => ?_
  refine TriC.ret ?_
  rintro c ⟨rfl, ⟨n1, rfl⟩, ⟨n2, rfl⟩, ⟨n3, rfl⟩⟩
  rw [majority3 _ _ _ (fuseBit_01 _ _) (fuseBit_01 _ _) (fuseBit_01 _ _)]
  have h1 := fuseBit_between (cell c (3 * b)) n1
  have h2 := fuseBit_between (cell c (3 * b + 1)) n2
  have h3 := fuseBit_between (cell c (3 * b + 2)) n3
  refine ⟨rfl, fun h => ?_, fun h => ?_⟩
  · unfold bitOne
    unfold cell at h h1 h2 h3
    simp only [decide_eq_true_eq] at h ⊢
    omega
  · unfold bitOne
    unfold cell at h h1 h2 h3
    simp only [decide_eq_false_iff_not] at h ⊢
    omega
structure Blown (c0 : List Int) (lo hi d : Nat) (c : List Int) : Prop where
  evo : Evo c0 c
  out : ∀ j, (j < 3 * lo ∨ 3 * hi ≤ j) → cell c j = cell c0 j
  done : ∀ j, 3 * lo ≤ j → j < 3 * d → j < c0.length → cell c0 j ≤ 1 → cell c j = 2
theorem pulsed_no (x : Int) : pulsed x false = if x ≤ 1 then 2 else x := rfl
structure Pul (c0 : List Int) (b k : Nat) (c : List Int) : Prop where
  evo : Evo c0 c
  out : ∀ j, (j < 3 * b ∨ 3 * b + k ≤ j) → cell c j = cell c0 j
  done : ∀ j, 3 * b ≤ j → j < 3 * b + k → j < c0.length → cell c0 j ≤ 1 → cell c j = 2
theorem Pul.step {c0 c : List Int} {b k : Nat} (h : Pul c0 b k c) : Pul c0 b (k + 1) (c.set (3 * b + k) (pulsed (cell c (3 * b + k)) false)) := by
  have hc := h.out (3 * b + k) (.inr (Nat.le_refl _))
  refine ⟨h.evo.trans (Evo.set _ _ _), fun j hj => ?_, fun j h1 h2 h3 h4 => ?_⟩
  · rw [cell_set, if_neg (by omega)]
    exact h.out j (by omega)
  · rw [cell_set]
    by_cases e : 3 * b + k = j
    · subst e
      rw [if_pos ⟨rfl, by rw [h.evo.len]; exact h3⟩, hc, pulsed_no, if_pos h4]
    · rw [if_neg (by omega)]
      exact h.done j h1 (by omega) h3 h4
theorem Pul.cut {c0 c : List Int} {b k : Nat} (h : Pul c0 b k c) (hk : k < 3) : Blown c0 b (b + 1) b (c.set (3 * b + k) (pulsed (cell c (3 * b + k)) true)) :=
  ⟨h.evo.trans (Evo.set _ _ _), fun j hj => by rw [cell_set, if_neg (by omega)]; exact h.out j (by omega), fun j h1 h2 => by omega⟩
theorem tri_pulses (F : List Int) (c0 : List Int) (b : Nat) : TriC F (fun c => c = c0) (Prg.pulses 2 b) (fun _ c => Blown c0 b (b + 1) (b + 1) c) (fun c => Blown c0 b (b + 1) b c) := by
  unfold Prg.pulses
  have h0 : Pul c0 b 0 c0 := ⟨Evo.refl _, fun j _ => rfl, fun j h1 h2 => by omega⟩
  refine TriC.bind (mid := fun _ c => Pul c0 b 1 c) (TriC.pulse (3 * b + 0) _ (by omega) (fun c h => by subst h; exact h0.step) (fun c h => by subst h; exact h0.cut (by omega))) fun _ => ?_
  refine TriC.bind (mid := fun _ c => Pul c0 b 2 c) (TriC.pulse (3 * b + 1) _ (by omega) (fun c h => h.step) (fun c h => h.cut (by omega))) fun _ => ?_
  refine TriC.bind (mid := fun _ c => Pul c0 b 3 c) (TriC.pulse (3 * b + 2) _ (by omega) (fun c h => h.step) (fun c h => h.cut (by omega))) fun _ => ?_
  exact TriC.ret fun c h => ⟨h.evo, fun j hj => h.out j (by omega), fun j h1 h2 => h.done j h1 (by omega)⟩
theorem tri_up (F : List Int) (c0 : List Int) : ∀ f n, TriC F (fun c => c = c0) (Prg.up 2 f n) (fun m c => c = c0 ∧ n ≤ m ∧ m ≤ n + f ∧ (∀ b, n ≤ b → b < m → bitOne c0 true b = true) ∧ (m < n + f → bitOne c0 false m = false)) (fun c => c = c0)
  | 0, n => TriC.ret fun c h => ⟨h, Nat.le_refl _, Nat.le_refl _, fun b h1 h2 => by omega, fun h => by omega⟩
  | f + 1, n => by
    unfold Prg.up
    refine TriC.bind (tri_read F c0 n) fun v => ?_
    cases v with
    | true =>
      refine fun c i ⟨hc, hv, _⟩ => (TriC.mono (tri_up F c0 f (n + 1)) (fun c h => h) ?_ (fun c h => h)) c i hc
      rintro m c ⟨h1, h2, h3, h4, h5⟩
      refine ⟨h1, by omega, by omega, fun b hb1 hb2 => ?_, fun h => h5 (by omega)⟩
      by_cases e : b = n
      · rw [e]; exact hv rfl
      · exact h4 b (by omega) hb2
    | false => exact TriC.ret fun c ⟨hc, _, hv⟩ => ⟨hc, Nat.le_refl _, by omega, fun b h1 h2 => by omega, fun _ => hv rfl⟩
theorem Blown.start (c : List Int) (n m : Nat) (_h : n ≤ m) : Blown c n m n c := ⟨Evo.refl _, fun _ _ => rfl, fun j h1 h2 => by omega⟩
theorem Blown.step {c0 c c' : List Int} {lo hi b d : Nat} (h : Blown c0 lo hi b c) (k : Blown c b (b + 1) d c') (_hd : d ≤ b + 1) (hlo : lo ≤ b) (hhi : b < hi) (_hbd : b ≤ d) : Blown c0 lo hi d c' := by
  refine ⟨h.evo.trans k.evo, fun j hj => ?_, fun j h1 h2 h3 h4 => ?_⟩
  · rw [k.out j (by omega)]; exact h.out j hj
  · by_cases e : j < 3 * b
    · rw [k.out j (.inl e)]
      exact h.done j h1 e h3 h4
    · by_cases e2 : cell c j ≤ 1
      · exact k.done j (by omega) h2 (by rw [h.evo.len]; exact h3) e2
      · rcases h.evo.at_ j with e3 | ⟨_, e3 | e3⟩
        · omega
        · omega
        · rcases k.evo.at_ j with e4 | e4 <;> omega
theorem tri_down (F : List Int) (c0 : List Int) (hi : Nat) : ∀ r b, b + r = hi → TriC F (fun c => Blown c0 0 hi b c) (Prg.down 2 r b) (fun _ c => Blown c0 0 hi hi c) (fun c => Blown c0 0 hi 0 c)
  | 0, b, hb => TriC.ret fun c h => by rw [← hb]; rw [← hb] at h; exact h
  | r + 1, b, hb => by
    unfold Prg.down
    refine TriC.bind (mid := fun _ c => Blown c0 0 hi (b + 1) c) (fun c i hc => ?_) fun _ => tri_down F c0 hi r (b + 1) (by omega)
    refine TriC.mono (tri_pulses F c b) (fun c h => h) (fun _ c' h => hc.step h (Nat.le_refl _) (Nat.zero_le _) (by omega) (by omega)) (fun c' h => ?_) c i rfl
    have := hc.step h (by omega) (Nat.zero_le _) (by omega) (Nat.le_refl _)
    exact ⟨this.evo, this.out, fun j h1 h2 => by omega⟩
structure LevP (c0 : List Int) (bits m d : Nat) (c : List Int) : Prop where
  le : m ≤ bits
  high : ∀ b, b < m → bitOne c0 true b = true
  low : m < bits → bitOne c0 false m = false
  blown : Blown c0 0 m d c
theorem tri_levelOf (F : List Int) (c0 : List Int) (bits : Nat) : TriC F (fun c => c = c0) (Prg.levelOf 2 bits) (fun m c => LevP c0 bits m m c) (fun c => ∃ m, LevP c0 bits m 0 c ∨ (c = c0 ∧ m = 0)) := by
  unfold Prg.levelOf
  refine TriC.bind (TriC.mono (tri_up F c0 bits 0) (fun c h => h) (fun m c h => h) (fun c h => ⟨0, .inr ⟨h, rfl⟩⟩)) fun m => ?_
  intro c i ⟨h1, _, h3, h4, h5⟩
  have hb : m ≤ bits := by omega
  have hT : TriC F (fun c => Blown c0 0 m 0 c) ((Prg.down 2 m 0).bind fun _ => Prg.ret m) (fun m' c => LevP c0 bits m' m' c) (fun c => ∃ m, LevP c0 bits m 0 c ∨ (c = c0 ∧ m = 0)) := by
    refine TriC.bind (mid := fun _ c => Blown c0 0 m m c) (TriC.mono (tri_down F c0 m m 0 (by omega)) (fun c h => h) (fun _ c h => h) (fun c h => ⟨m, .inl ⟨hb, fun b hb => h4 b (Nat.zero_le _) hb, fun h => h5 (by omega), h⟩⟩)) fun _ => ?_
    exact TriC.ret fun c h => ⟨hb, fun b hb => h4 b (Nat.zero_le _) hb, fun h => h5 (by omega), h⟩
  exact hT c i (by rw [h1]; exact Blown.start c0 0 m (Nat.zero_le _))
theorem val_bit {x : Int} (h : 0 ≤ x ∧ x ≤ 3) : x = 0 ∨ x = 1 ∨ x = 2 ∨ x = 3 := by omega
theorem blown_low {c0 c : List Int} {lo hi d b : Nat} (h : Blown c0 lo hi d c) (hv : Val c0) (hb : lo ≤ b) (hd : b < d) (hl : 3 * b + 2 < c0.length) (hs : bitOne c0 true b = true ∨ stuckC c0 b ≤ 1) : bitOne c false b = true := by
  have e0 := h.done (3 * b) (by omega) (by omega) (by omega)
  have e1 := h.done (3 * b + 1) (by omega) (by omega) (by omega)
  have e2 := h.done (3 * b + 2) (by omega) (by omega) (by omega)
  have k0 := h.evo.at_ (3 * b)
  have k1 := h.evo.at_ (3 * b + 1)
  have k2 := h.evo.at_ (3 * b + 2)
  have v0 := val_bit (hv (3 * b))
  have v1 := val_bit (hv (3 * b + 1))
  have v2 := val_bit (hv (3 * b + 2))
  unfold bitOne stuckC at hs
  unfold bitOne
  unfold cell at *
  simp only [decide_eq_true_eq] at hs ⊢
  generalize c0.getD (3 * b) 0 = x0 at *
  generalize c0.getD (3 * b + 1) 0 = x1 at *
  generalize c0.getD (3 * b + 2) 0 = x2 at *
  generalize c.getD (3 * b) 0 = y0 at *
  generalize c.getD (3 * b + 1) 0 = y1 at *
  generalize c.getD (3 * b + 2) 0 = y2 at *
  have f0 : y0 = if x0 = 3 then 3 else 2 := by split <;> omega
  have f1 : y1 = if x1 = 3 then 3 else 2 := by split <;> omega
  have f2 : y2 = if x2 = 3 then 3 else 2 := by split <;> omega
  clear e0 e1 e2 k0 k1 k2
  subst f0 f1 f2
  rcases v0 with rfl | rfl | rfl | rfl <;> rcases v1 with rfl | rfl | rfl | rfl <;> rcases v2 with rfl | rfl | rfl | rfl <;> revert hs <;> decide
theorem blown_stuck {c0 c : List Int} {lo hi d b : Nat} (h : Blown c0 lo hi d c) (hv : Val c0) (hb : lo ≤ b) (hd : b < d) (hl : 3 * b + 2 < c0.length) (hs : bitOne c false b = false) : 2 ≤ stuckC c0 b := by
  rcases Nat.lt_or_ge (stuckC c0 b) 2 with h1 | h1
  · rw [blown_low h hv hb hd hl (.inr (by omega))] at hs
    cases hs
  · exact h1
theorem blown_high {c0 c : List Int} {lo hi d b : Nat} (h : Blown c0 lo hi d c) (hv : Val c0) (hb : lo ≤ b) (hd : b < d) (hl : 3 * b + 2 < c0.length) (hs : bitOne c true b = true) : bitOne c false b = true := by
  by_cases hq : stuckC c0 b ≤ 1
  · exact blown_low h hv hb hd hl (.inr hq)
  · have hq' : 2 ≤ stuckC c b := by rw [h.evo.stuck]; omega
    have hv' := hv.evo h.evo
    have v0 := val_bit (hv' (3 * b))
    have v1 := val_bit (hv' (3 * b + 1))
    have v2 := val_bit (hv' (3 * b + 2))
    unfold bitOne at hs
    unfold stuckC at hq'
    unfold cell at *
    simp only [decide_eq_true_eq] at hs
    generalize c.getD (3 * b) 0 = x0 at *
    generalize c.getD (3 * b + 1) 0 = x1 at *
    generalize c.getD (3 * b + 2) 0 = x2 at *
    exfalso
    rcases v0 with rfl | rfl | rfl | rfl <;> rcases v1 with rfl | rfl | rfl | rfl <;> rcases v2 with rfl | rfl | rfl | rfl <;> revert hs hq' <;> decide
structure RaiP (c0 : List Int) (n f m : Nat) (e : Int) (c : List Int) : Prop where
  ge : n ≤ m
  le : m ≤ n + f
  evo : Evo c0 c
  out : ∀ j, (j < 3 * n ∨ 3 * (n + f) ≤ j) → cell c j = cell c0 j
  low : ∀ b, n ≤ b → b < m → bitOne c false b = true
  ok : e = 0 ∧ m = n + f ∨ e = 12 ∧ m < n + f ∧ 2 ≤ stuckC c0 m
theorem tri_raiseFrom (F : List Int) : ∀ (f n : Nat) (c0 : List Int), Val c0 → 3 * (n + f) ≤ c0.length → TriC F (fun c => c = c0) (Prg.raiseFrom 2 f n) (fun p c => RaiP c0 n f p.1 p.2 c) (fun c => Evo c0 c ∧ ∀ j, (j < 3 * n ∨ 3 * (n + f) ≤ j) → cell c j = cell c0 j)
  | 0, n, c0, hv, hl => TriC.ret fun c h => by subst h; exact ⟨Nat.le_refl _, Nat.le_refl _, Evo.refl _, fun _ _ => rfl, fun b h1 h2 => by omega, .inl ⟨rfl, rfl⟩⟩
  | f + 1, n, c0, hv, hl => by
    unfold Prg.raiseFrom
    refine TriC.bind (TriC.mono (tri_pulses F c0 n) (fun c h => h) (fun _ c h => h) (fun c h => ⟨h.evo, fun j hj => h.out j (by omega)⟩)) fun _ => ?_
    intro c1 i1 hB
    refine TriC.bind (TriC.mono (tri_read F c1 n) (fun c h => h) (fun v c h => h) (fun c h => ?_)) (fun v => ?_) c1 i1 rfl
    · rw [h]; exact ⟨hB.evo, fun j hj => hB.out j (by omega)⟩
    · cases v with
      | true =>
        refine fun c i ⟨hc, hv1, _⟩ => (TriC.mono (tri_raiseFrom F f (n + 1) c1 (hv.evo hB.evo) (by rw [hB.evo.len]; omega)) (fun c h => h) ?_ ?_) c i hc
        · rintro ⟨m, e⟩ c' h
          have hlow := blown_high hB hv (Nat.le_refl n) (by omega) (by omega) (hv1 rfl)
          refine ⟨by have := h.ge; omega, by have := h.le; omega, hB.evo.trans h.evo, fun j hj => (h.out j (by omega)).trans (hB.out j (by omega)), fun b h1 h2 => ?_, ?_⟩
          · by_cases e : b = n
            · subst e; exact h.evo.low hlow
            · exact h.low b (by omega) h2
          · rcases h.ok with ⟨e1, e2⟩ | ⟨e1, e2, e3⟩
            · exact .inl ⟨e1, by omega⟩
            · exact .inr ⟨e1, by omega, by rw [← hB.evo.stuck]; exact e3⟩
        · rintro c' ⟨h1, h2⟩
          exact ⟨hB.evo.trans h1, fun j hj => (h2 j (by omega)).trans (hB.out j (by omega))⟩
      | false =>
        refine TriC.ret fun c ⟨hc, _, hv1⟩ => ?_
        subst hc
        exact ⟨Nat.le_refl _, by omega, hB.evo, fun j hj => hB.out j (by omega), fun b h1 h2 => by omega, .inr ⟨rfl, by omega, blown_stuck hB hv (Nat.le_refl n) (by omega) (by omega) (hv1 rfl)⟩⟩
end Go.Proofs.YtplkplegjoabgaaGreatDoor


namespace Go.Proofs.YtplkplegjoabgaaGreatDoor
open Go.RowKit
theorem level_bits (c : List Int) (nz : Bool) (bits : Nat) (hl : c.length = 3 * bits) : levelOfCells c nz = levelUp c nz bits 0 := by unfold levelOfCells; rw [hl, show 3 * bits / 3 = bits from by omega]
theorem lev_between {c0 : List Int} {bits m : Nat} (hl : c0.length = 3 * bits) (hm : m ≤ bits) (high : ∀ b, b < m → bitOne c0 true b = true) (low : m < bits → bitOne c0 false m = false) : levelOfCells c0 false ≤ m ∧ m ≤ levelOfCells c0 true := by
  rw [level_bits c0 false bits hl, level_bits c0 true bits hl]
  constructor
  · obtain ⟨_, h2, h3, _⟩ := levelUp_spec c0 false bits 0
    rcases Nat.lt_or_ge m (levelUp c0 false bits 0) with h | h
    · have := h3 m (Nat.zero_le _) h
      rw [low (by omega)] at this
      cases this
    · exact h
  · exact le_levelUp c0 true m bits 0 (fun b _ hb => high b hb) (by omega)
theorem exec_fuse0 (j : Nat) (x : Int) (hx : x = (j : Int)) (c : List Int) (i : Nat) : exec [] (Prg.fuse 2 x) c i = (some (fuseBit (cell c j) false), c, i + 1) := by subst hx; rfl
theorem exec_read0 (b : Nat) (c : List Int) (i : Nat) : exec [] (Prg.read 2 b) c i = (some (bitOne c false b), c, i + 3) := by
  unfold Prg.read
  rw [exec_bind_some (exec_fuse0 (3 * b) _ (by omega) c i), exec_bind_some (exec_fuse0 (3 * b + 1) _ (by omega) c (i + 1)), exec_bind_some (exec_fuse0 (3 * b + 2) _ (by omega) c (i + 1 + 1))]
  show (some (majorityB _), c, i + 3) = _
  rw [majority3 _ _ _ (fuseBit_01 _ _) (fuseBit_01 _ _) (fuseBit_01 _ _)]
  rfl
theorem exec_pulse0 (x : Int) (c : List Int) (i : Nat) : ∃ c', exec [] (Prg.pulse 2 x) c i = (some (), c', i + 1) := ⟨_, rfl⟩
theorem exec_pulses0 (b : Nat) (c : List Int) (i : Nat) : ∃ c', exec [] (Prg.pulses 2 b) c i = (some (), c', i + 3) := by
  unfold Prg.pulses
  obtain ⟨c1, h1⟩ := exec_pulse0 (3 * b + 0) c i
  obtain ⟨c2, h2⟩ := exec_pulse0 (3 * b + 1) c1 (i + 1)
  obtain ⟨c3, h3⟩ := exec_pulse0 (3 * b + 2) c2 (i + 1 + 1)
  exact ⟨c3, by rw [exec_bind_some h1, exec_bind_some h2, exec_bind_some h3]; rfl⟩
theorem exec_up0 (c : List Int) : ∀ f n i, exec [] (Prg.up 2 f n) c i = (some (levelUp c false f n), c, i + 3 * (levelUp c false f n - n) + if levelUp c false f n < n + f then 3 else 0)
  | 0, n, i => by
    rw [show levelUp c false 0 n = n from rfl, if_neg (by omega), Nat.sub_self]; rfl
  | f + 1, n, i => by
    unfold Prg.up
    rw [exec_bind_some (exec_read0 n c i)]
    by_cases hb : bitOne c false n = true
    · rw [hb, if_pos rfl, levelUp_yes hb, exec_up0 c f (n + 1) (i + 3)]
      have := (levelUp_spec c false f (n + 1)).1
      congr 2
      split <;> split <;> omega
    · have hb' : bitOne c false n = false := by simpa using hb
      rw [hb', levelUp_no hb', if_neg (by simp), if_pos (by omega)]
      show (some n, c, i + 3) = _
      congr 2
      omega
theorem exec_down0 : ∀ (r b : Nat) (c : List Int) (i : Nat), ∃ c', exec [] (Prg.down 2 r b) c i = (some (), c', i + 3 * r)
  | 0, b, c, i => ⟨c, rfl⟩
  | r + 1, b, c, i => by
    unfold Prg.down
    obtain ⟨c1, h1⟩ := exec_pulses0 b c i
    obtain ⟨c2, h2⟩ := exec_down0 r (b + 1) c1 (i + 3)
    exact ⟨c2, by rw [exec_bind_some h1, h2]; congr 2; omega⟩
theorem exec_levelOf0 (c : List Int) (bits i : Nat) : ∃ c', exec [] (Prg.levelOf 2 bits) c i = (some (levelUp c false bits 0), c', i + 6 * levelUp c false bits 0 + if levelUp c false bits 0 < bits then 3 else 0) := by
  unfold Prg.levelOf
  obtain ⟨c1, h1⟩ := exec_down0 (levelUp c false bits 0) 0 c (i + 3 * (levelUp c false bits 0 - 0) + if levelUp c false bits 0 < 0 + bits then 3 else 0)
  refine ⟨c1, ?_⟩
  rw [exec_bind_some (exec_up0 c bits 0 i), exec_bind_some h1]
  show (some _, c1, _) = _
  congr 2
  rw [Nat.zero_add]
  split <;> omega
end Go.Proofs.YtplkplegjoabgaaGreatDoor


namespace Go.Proofs.YtplkplegjoabgaaGreatDoor.Pv
open Go.RowKit
theorem flat_of {α : Type} (g : α → List Value) (k : Nat) : ∀ (l : List α) (vs : List Value), (∀ a ∈ l, (g a).length = k) → vs.length = l.length * k → (∀ (i : Nat) (hi : i < l.length), (vs.drop (i * k)).take k = g l[i]) → vs = l.flatMap g
  | [], vs, _, hl, _ => by
    have : vs.length = 0 := by simpa using hl
    rw [List.eq_nil_of_length_eq_zero this]; rfl
  | a :: l, vs, hg, hl, h => by
    have h0 : vs.take k = g a := by
      have := h 0 (by simp)
      rw [Nat.zero_mul, List.drop_zero] at this
      exact this
    have ih := flat_of g k l (vs.drop k) (fun b hb => hg b (List.mem_cons_of_mem _ hb)) (by rw [List.length_drop, hl, List.length_cons, Nat.succ_mul]; omega) (fun i hi => by
      have := h (i + 1) (by simpa using hi)
      rw [Nat.succ_mul] at this
      rw [List.drop_drop, Nat.add_comm]
      exact this)
    rw [List.flatMap_cons, ← ih, ← h0]
    exact (List.take_append_drop k vs).symm
def resPC (r : Res) : List PC := [.lit (.int .i64 r.val), .lit (.string r.bytes)]
def resF (l : List Res) : Nat → List PC := fun i => resPC (l.getD i ⟨0, noBytes⟩)
def resOf : List PC → Res
  | [.lit (.int _ n), .lit (.string s)] => ⟨n, s⟩
  | _ => ⟨0, noBytes⟩
def isRes : List PC → Bool
  | [.lit (.int .i64 _), .lit (.string _)] => true
  | _ => false
theorem isRes_ok {l : List PC} (h : isRes l = true) : l = resPC (resOf l) := by
  unfold isRes at h
  split at h
  · rfl
  · cases h
def rowRes (n : Nat) (f : Nat → List PC) : List Res := (List.range n).map fun i => resOf (f i)
def IsResRow (n : Nat) (f : Nat → List PC) : Prop := ∀ i, i < n → isRes (f i) = true
@[simp] theorem rowRes_length (n : Nat) (f : Nat → List PC) : (rowRes n f).length = n := by simp [rowRes]
theorem resF_row {n : Nat} {f : Nat → List PC} (h : IsResRow n f) : ∀ i, i < n → f i = resF (rowRes n f) i := fun i hi => by
  unfold resF rowRes
  rw [List.getD_eq_getElem?_getD, List.getElem?_map, List.getElem?_range hi]
  exact isRes_ok (h i hi)
@[simp] theorem isResRow_resF (n : Nat) (l : List Res) : IsResRow n (resF l) := fun _ _ => rfl
@[simp] theorem rowRes_resF (l : List Res) : rowRes l.length (resF l) = l := by
  apply List.ext_getElem (by simp)
  intro i h1 h2
  simp only [rowRes, List.getElem_map, List.getElem_range, resF, resPC, resOf]
  rw [List.getD_eq_getElem?_getD, List.getElem?_eq_getElem h2]
  rfl
theorem res_reads {C : Ctx} {n : Nat} {f : Nat → List PC} {v : Value} (h : R C (.sl 2 n f) [v]) (hf : IsResRow n f) : Reads C.w 2 v (rowRes n f).length (logCells (rowRes n f)) := by
  cases h with
  | sl hr hb he =>
    rename_i vs
    have : vs = logCells (rowRes n f) := by
      refine flat_of Res.cells 2 (rowRes n f) vs (fun a _ => rfl) (by rw [rowRes_length]; exact hr.1) (fun i hi => ?_)
      rw [rowRes_length] at hi
      have h1 := he i hi
      rw [resF_row hf i hi] at h1
      unfold resF at h1
      rw [List.getD_eq_getElem?_getD, List.getElem?_eq_getElem (by rw [rowRes_length]; exact hi)] at h1
      generalize (rowRes n f)[i]'(by rw [rowRes_length]; exact hi) = r at h1 ⊢
      generalize (vs.drop (i * 2)).take 2 = xs at h1 ⊢
      cases h1 with
      | cons k1 h1 => cases h1 with
        | cons k2 h1 =>
          cases h1
          cases k1
          cases k2
          rfl
    rw [← this, rowRes_length]
    exact hr
def rsOf : PC → Option (Prop × List Res)
  | .sl 2 n f => some (IsResRow n f, rowRes n f)
  | .lit (.slice none 0 0) => some (True, [])
  | _ => none
theorem rsOf_ok {C : Ctx} {c : PC} {v : Value} {p : Prop} {l : List Res} (h : rsOf c = some (p, l)) (hp : p) (hr : R C c [v]) : Reads C.w 2 v l.length (logCells l) := by
  unfold rsOf at h
  split at h
  · cases h; exact res_reads hr hp
  · cases h
    cases hr
    exact Reads.nil _ 2
  · cases h
def accPC (a : Acc) : List PC := [.lit (.int .i64 a.kind), .lit (.int .i64 a.bank), .lit (.int .i64 a.cell), .lit (.string a.bytes)]
def sgC (x : Sig × Int) : List PC := sigPC x.1 ++ [.lit (.int .i64 x.2)]
def nextR (seed m : List UInt8) (h : Int) (log : List Res) : Acc × (Sig × Int) × Bool := match (Prg.signI h).run (replay log) 0 with
  | .ok p _ => (zeroAcc, sgO seed h m p, true)
  | .error c _ => (c, (⟨0, [], []⟩, 0), false)
def nextPV (x : Acc × (Sig × Int) × Bool) : PV := .tup [.agg (accPC x.1), .agg (sgC x.2.1), .one (.lit (.bool x.2.2))]
theorem acc_rl {C : Ctx} (a : Acc) : RL C (accPC a) [.int .i64 a.kind, .int .i64 a.bank, .int .i64 a.cell, .string a.bytes] := .cons (xs := [_]) (.lit rfl) (.cons (xs := [_]) (.lit rfl) (.cons (xs := [_]) (.lit rfl) (.cons (xs := [_]) (.lit rfl) .nil)))
theorem rv_three {C : Ctx} {l1 l2 : List PC} {c1 c2 : Array Value} {b : Bool} (h1 : RL C l1 c1.toList) (h2 : RL C l2 c2.toList) : RV C (.tup [.agg l1, .agg l2, .one (.lit (.bool b))]) (.tuple #[.agg c1, .agg c2, .bool b]) :=
  .tup rfl (fun i x hx => by
    match i, hx with
    | 0, hx => cases hx; exact ⟨_, rfl, .agg h1⟩
    | 1, hx => cases hx; exact ⟨_, rfl, .agg h2⟩
    | 2, hx => cases hx; exact ⟨_, rfl, .one (.lit rfl)⟩
    | i + 3, hx => cases hx)
theorem nextP_rv {seed m : List UInt8} {h : Int} {log : List Res} {w w' : World} {e : Ending} (hp : NextP seed m h log w e w') : ∃ val, e = .returned val ∧ RV { w := w', ok := fun b => (true = false ∧ True) ∨ w.heap.size ≤ b, env := fun _ => none } (nextPV (nextR seed m h log)) val := by
  rcases hp with ⟨p, i, z, A1, n1, c1, A2, n2, c2, er, hr, rfl, hl⟩ | ⟨c, i, hr, rfl⟩
  · refine ⟨_, rfl, ?_⟩
    unfold nextR
    rw [hr]
    exact rv_three (acc_rl zeroAcc) (hl.le ⟨Nat.le_refl _, fun b _ hb => ⟨.inr hb, rfl⟩, fun _ _ _ h => by cases h⟩)
  · refine ⟨_, rfl, ?_⟩
    unfold nextR
    rw [hr]
    exact rv_three (acc_rl c) (RL.append sigPC_nil (.cons (xs := [_]) (.lit rfl) .nil))
def nextG : List PV → Option (Prop × PV)
  | [.w (.agg [.bs 16 seed]), .w (.one (.lit (.int .i64 h))), .w (.agg [.bs 16 m]), .w (.one c)] => (match rsOf c with
    | some (p, log) => some (p, nextPV (nextR seed m h log))
    | none => none)
  | _ => none
theorem next_spec : SpecOk Tryz.prog ShaMem 10 (funSpec true nextG) := by
  refine funSpec_ok (call_enters Tryz.func10 (by kernel_rfl) rfl) (fun xs p r hg hp w ok0 vs hI hv => ?_)
  unfold nextG at hg
  split at hg
  · rename_i seed h m c
    cases hq : rsOf c with
    | none => rw [hq] at hg; cases hg
    | some q =>
      obtain ⟨p', log⟩ := q
      rw [hq] at hg
      cases hg
      match vs, hv with
      | [v1, v2, v3, v4], ⟨k1, k2, k3, k4, _⟩ =>
        obtain ⟨l1, rfl⟩ := rv_dig16 k1
        obtain rfl := k2.lit_inv
        obtain ⟨l3, rfl⟩ := rv_dig16 k3
        have hl := rsOf_ok hq hp k4.inv
        refine (next_any seed m l1 l3 h v4 log w hI hl).mono ?_
        rintro e w' ⟨hE, hP⟩
        obtain ⟨val, rfl, hr⟩ := nextP_rv hP
        exact ⟨val, rfl, hE, hr.le ⟨Nat.le_refl _, fun b _ hb => ⟨.inr (hb.elim (fun h => by cases h.1) id), rfl⟩, fun _ _ _ h => by cases h⟩⟩
  · cases hg
end Go.Proofs.YtplkplegjoabgaaGreatDoor.Pv
