/-
  bootchainref07: Exists, Read and Pulse of fuses whose banks read as lists.
-/
import Derived.Test.YtmlekdmnpljcoaaBase
import Derived.Test.YtmlekdmnpljcoaaProg
import Derived.Deep.RegionLaw
namespace Go.Proofs.Ytmlekdmnpljcoaa
open Go.RowKit

/-- The banks lie at the values bvs. -/
structure BanksIn (w : World) (bvs : List Value) (banks : List (List Int)) : Prop where
  len : bvs.length = banks.length
  each : ∀ (k : Nat) (bv : Value) (l : List Int), bvs[k]? = some bv → banks[k]? = some l → Reads w 1 bv l.length (l.map (Value.int .u8))
/-- The fuses' one field: a slice of banks. -/
structure FusesIn (w : World) (fv : Value) (banks : List (List Int)) : Prop where
  ex : ∃ bvs, Reads w 1 fv banks.length bvs ∧ BanksIn w bvs banks
theorem BanksIn.ext {w w' : World} {bvs : List Value} {banks : List (List Int)} (h : BanksIn w bvs banks) (hc : Ext w w') : BanksIn w' bvs banks := ⟨h.len, fun k bv l h1 h2 => (h.each k bv l h1 h2).ext hc⟩
theorem FusesIn.ext {w w' : World} {fv : Value} {banks : List (List Int)} (h : FusesIn w fv banks) (hc : Ext w w') : FusesIn w' fv banks := by
  obtain ⟨bvs, h1, h2⟩ := h.ex
  exact ⟨bvs, h1.ext hc, h2.ext hc⟩
/-- The slice of bank k, and where it lies. -/
theorem FusesIn.at_ {w : World} {fv : Value} {banks : List (List Int)} (h : FusesIn w fv banks) {k : Nat} (hk : k < banks.length) :
    ∃ b o c bv, fv = .slice (some ⟨b, o, none⟩) banks.length c ∧ b < w.heap.size ∧ w.cell? ⟨b, o + k, none⟩ = some bv ∧ Reads w 1 bv banks[k].length (banks[k].map (Value.int .u8)) := by
  obtain ⟨bvs, h1, h2⟩ := h.ex
  obtain ⟨b, o, c, u, e1, _, _, e4, e5, e6⟩ := h1.at1 hk
  exact ⟨b, o, c, u, e1, e4, e6, h2.each k u banks[k] e5 (List.getElem?_eq_getElem hk)⟩

set_option maxHeartbeats 400000 in
theorem exists_yes (fv : Value) (banks : List (List Int)) (bank cell : Nat) (w : World) (h : FusesIn w fv banks) (hb : bank < banks.length) (hc : cell < banks[bank].length) :
    Calls Try.prog 48 #[.agg #[fv], .int .i64 (bank : Int), .int .i64 (cell : Int)] w fun e w' => e = .returned (.bool true) ∧ Ext w w' := by
  obtain ⟨b, o, c, bv, rfl, hbw, hcell, hr⟩ := h.at_ hb
  have hm1 : banks.length ≤ maxLen := by
    obtain ⟨bvs, h1, _⟩ := h.ex
    exact h1.len_le
  have hm2 := hr.len_le
  obtain ⟨_, A, c2, rfl, _⟩ := hr
  unfold maxLen at hm1 hm2
  generalize banks[bank].length = m at *
  clear h
  go_enter Try.func48, Try.ntmps48
  go_wp2
  go_ret
  refine ⟨rfl, ?_⟩
  repeat' (first | (with_reducible exact Chg.refl _ _) | (with_reducible exact Ext.refl _) | (with_reducible assumption) | (with_reducible refine Chg.alloc ?_ _) | (with_reducible refine Chg.drew ?_) | (with_reducible refine Chg.drewN ?_ _) | (with_reducible refine Chg.setCell ?_ ?_ _) | (with_reducible refine Ext.alloc ?_ _) | (with_reducible refine Ext.drew ?_) | (with_reducible refine Ext.drewN ?_ _) | (with_reducible refine Ext.setCell ?_ ?_ _) | (simp; done) | (simp; omega) | omega)

def fuseBit (x : Int) (noise : Bool) : Int := if x = 2 ∨ (x = 1 ∧ noise = true) then 1 else 0

set_option maxHeartbeats 400000 in
theorem fuse_read (fv : Value) (banks : List (List Int)) (bank cell : Nat) (noise : Bool) (w : World) (h : FusesIn w fv banks) (hb : bank < banks.length) (hc : cell < banks[bank].length) :
    Calls Try.prog 38 #[.agg #[fv], .int .i64 (bank : Int), .int .i64 (cell : Int), .bool noise] w fun e w' => e = .returned (.tuple #[.int .i64 (fuseBit banks[bank][cell] noise), .int .i64 0]) ∧ Ext w w' := by
  have HF := hide h
  obtain ⟨b, o, c, bv, rfl, hbw, hcell, hr⟩ := h.at_ hb
  have hm1 : banks.length ≤ maxLen := by
    obtain ⟨bvs, h1, _⟩ := h.ex
    exact h1.len_le
  have hm2 := hr.len_le
  obtain ⟨b2, o2, c2, u, rfl, _, _, hb2, hu, hcell2⟩ := hr.at1 hc
  rw [List.getElem?_map, List.getElem?_eq_getElem hc] at hu
  cases hu
  unfold maxLen at hm1 hm2
  clear h
  have hq : ∀ x : Int, fuseBit x noise = if x = 2 then 1 else if x = 1 then (if noise = true then 1 else 0) else 0 := by
    intro x; unfold fuseBit; by_cases h1 : x = 2 <;> by_cases h2 : x = 1 <;> cases noise <;> simp_all
  have HQ := hide (hq banks[bank][cell])
  have HE := hide (exists_yes _ banks bank cell (w.alloc (.cells #[.slice (some ⟨b, o, none⟩) banks.length c] 40)) ((unhide HF).ext (Chg.alloc (Ext.refl _) _)) hb hc)
  clear hq hr
  generalize banks[bank][cell] = x at *
  have hlt : cell < banks[bank].length := hc
  clear hc
  generalize banks[bank].length = m at *
  go_enter Try.func38, Try.ntmps38
  go_wp2_with fail
  refine (unhide HE).mono ?_
  rintro e w1 ⟨rfl, hE⟩
  have hcr := hE.rules
  simp only [World.size_alloc] at hcr
  have hsz := hE.size'
  simp only [World.size_alloc] at hsz
  have HEE := hide hE
  clear hE
  have hfin : Hid (Ext w w1) := hide ((Chg.alloc (Ext.refl _) _).trans (unhide HEE))
  by_cases h2 : x = 2
  · have e1 : (x == 2) = true := by simp [h2]
    have HX := hide h2
    clear h2
    go_wp2
    go_ret2
    exact ⟨ret_pair (by rw [unhide HQ, if_pos (unhide HX)]), unhide hfin⟩
  · by_cases h1 : x = 1
    · have e1 : (x == 2) = false := by simp [h2]
      have e2 : (x == 1) = true := by simp [h1]
      have HX := hide h2
      have HY := hide h1
      clear h2 h1
      cases noise with
      | true =>
        go_wp2
        go_ret2
        exact ⟨ret_pair (by rw [unhide HQ, if_neg (unhide HX), if_pos (unhide HY)]; rfl), unhide hfin⟩
      | false =>
        go_wp2
        go_ret2
        exact ⟨ret_pair (by rw [unhide HQ, if_neg (unhide HX), if_pos (unhide HY)]; rfl), unhide hfin⟩
    · have e1 : (x == 2) = false := by simp [h2]
      have e2 : (x == 1) = false := by simp [h1]
      have HX := hide h2
      have HY := hide h1
      clear h2 h1
      go_wp2
      go_ret2
      exact ⟨ret_pair (by rw [unhide HQ, if_neg (unhide HX), if_neg (unhide HY)]), unhide hfin⟩

theorem u8_row : SlTy Try.prog 35 5 1 1 := SlTy.mk' (z := .int .u8 0) (by kernel_rfl) (by kernel_rfl) rfl (by omega) (by omega)
theorem bank_row : SlTy Try.prog 38 35 1 24 := SlTy.mk' (z := .slice none 0 0) (by kernel_rfl) (by kernel_rfl) rfl (by omega) (by omega)

/-- Banks that the call owns: each in a block of its own. -/
structure OwnBanks (w : World) (B : Nat) (bvs : List Value) (banks : List (List Int)) : Prop where
  len : bvs.length = banks.length
  each : ∀ (k : Nat) (bv : Value) (l : List Int), bvs[k]? = some bv → banks[k]? = some l → w.ownsRow B 5 1 bv l.length (l.map (Value.int .u8))
  apart : ∀ (i j : Nat) (bi bj : Value) (g : Nat), bvs[i]? = some bi → bvs[j]? = some bj → i ≠ j → bi.ownBlock = some g → bj.ownBlock ≠ some g
theorem OwnBanks.nil (w : World) (B : Nat) : OwnBanks w B [] [] := ⟨rfl, fun k bv l h => by simp at h, fun i j bi bj g h => by simp at h⟩
theorem OwnBanks.chg {w w' : World} {B : Nat} {bvs : List Value} {banks : List (List Int)} {S : Nat → Prop} (h : OwnBanks w B bvs banks) (hc : Chg S w w') (hS : ∀ (k : Nat) (bv : Value) (g : Nat), bvs[k]? = some bv → bv.ownBlock = some g → ¬ S g) : OwnBanks w' B bvs banks :=
  ⟨h.len, fun k bv l h1 h2 => ownsRow_chg (h.each k bv l h1 h2) hc (fun g hg => hS k bv g h1 hg), h.apart⟩
theorem OwnBanks.snoc {w : World} {B : Nat} {bvs : List Value} {banks : List (List Int)} (h : OwnBanks w B bvs banks) {bv : Value} {l : List Int} (ho : w.ownsRow B 5 1 bv l.length (l.map (Value.int .u8)))
    (hn : ∀ (k : Nat) (b : Value) (g : Nat), bvs[k]? = some b → b.ownBlock = some g → bv.ownBlock ≠ some g) : OwnBanks w B (bvs ++ [bv]) (banks ++ [l]) := by
  have hlen := h.len
  refine ⟨by simp [hlen], fun k b x h1 h2 => ?_, fun i j bi bj g h1 h2 hij hg => ?_⟩
  · rw [List.getElem?_append] at h1 h2
    by_cases hk : k < bvs.length
    · rw [if_pos hk] at h1
      rw [if_pos (by omega)] at h2
      exact h.each k b x h1 h2
    · rw [if_neg hk] at h1
      rw [if_neg (by omega)] at h2
      have e1 : k - bvs.length = 0 := by
        rcases Nat.eq_zero_or_pos (k - bvs.length) with e | e
        · exact e
        · rw [List.getElem?_eq_none (by simp; omega)] at h1; cases h1
      rw [e1] at h1
      rw [← hlen, e1] at h2
      cases h1
      cases h2
      exact ho
  · rw [List.getElem?_append] at h1 h2
    have z : ∀ (i : Nat) (b : Value), ¬ i < bvs.length → ([bv] : List Value)[i - bvs.length]? = some b → i = bvs.length ∧ b = bv := by
      intro i b hi hb
      rcases Nat.eq_zero_or_pos (i - bvs.length) with e | e
      · rw [e] at hb; cases hb; exact ⟨by omega, rfl⟩
      · rw [List.getElem?_eq_none (by simp; omega)] at hb; cases hb
    by_cases hi : i < bvs.length
    · rw [if_pos hi] at h1
      by_cases hj : j < bvs.length
      · rw [if_pos hj] at h2
        exact h.apart i j bi bj g h1 h2 hij hg
      · rw [if_neg hj] at h2
        obtain ⟨_, rfl⟩ := z j bj hj h2
        exact hn i bi g h1 hg
    · rw [if_neg hi] at h1
      obtain ⟨hi', rfl⟩ := z i bi hi h1
      by_cases hj : j < bvs.length
      · rw [if_pos hj] at h2
        exact fun h' => hn j bj g h2 h' hg
      · rw [if_neg hj] at h2
        obtain ⟨hj', _⟩ := z j bj hj h2
        omega
theorem OwnBanks.reads {w : World} {B : Nat} {bvs : List Value} {banks : List (List Int)} (h : OwnBanks w B bvs banks) : BanksIn w bvs banks :=
  ⟨h.len, fun k bv l h1 h2 => Reads.of_own (h.each k bv l h1 h2)⟩

/-- What a round of Pulse's copying loop does to its relation. -/
theorem pulse_round {w1 wr w8 w10 : World} {k : Nat} {bvs : List Value} {banks : List (List Int)} {l : List Int} {v : Value} {A8 A10 : Option Addr} {c8 c10 : Nat}
    (hbo : Blk wr w1.heap.size 40 #[v]) (hown : wr.ownsRow w1.heap.size 35 1 v k bvs) (hob : OwnBanks wr w1.heap.size bvs banks) (hext : Ext w1 wr)
    (ho8 : w8.ownsRow w1.heap.size 5 1 (.slice A8 l.length c8) l.length (l.map (Value.int .u8))) (hc8 : Chg (fun j => (Value.slice (some ⟨wr.heap.size, 0, none⟩) 0 0).ownBlock = some j) (wr.alloc (.cells #[] 5)).drew w8)
    (hv8 : (Value.slice A8 l.length c8).ownBlock = (Value.slice (some ⟨wr.heap.size, 0, none⟩) 0 0).ownBlock ∨ ∃ g, (Value.slice A8 l.length c8).ownBlock = some g ∧ (wr.alloc (.cells #[] 5)).drew.heap.size ≤ g ∧ g < w8.heap.size)
    (ho10 : w10.ownsRow w1.heap.size 35 1 (.slice A10 (k + 1) c10) (k + 1) (bvs ++ [.slice A8 l.length c8])) (hc10 : Chg (fun j => v.ownBlock = some j) (w8.alloc (.cells #[.slice A8 l.length c8] 35)) w10) :
    Blk (w10.setCell ⟨w1.heap.size, 0, none⟩ (.slice A10 (k + 1) c10)) w1.heap.size 40 #[.slice A10 (k + 1) c10] ∧
    (w10.setCell ⟨w1.heap.size, 0, none⟩ (.slice A10 (k + 1) c10)).ownsRow w1.heap.size 35 1 (.slice A10 (k + 1) c10) (k + 1) (bvs ++ [.slice A8 l.length c8]) ∧
    OwnBanks (w10.setCell ⟨w1.heap.size, 0, none⟩ (.slice A10 (k + 1) c10)) w1.heap.size (bvs ++ [.slice A8 l.length c8]) (banks ++ [l]) ∧
    Ext w1 (w10.setCell ⟨w1.heap.size, 0, none⟩ (.slice A10 (k + 1) c10)) := by
  have hB := hext.size'
  have hlo := hbo.lt
  have hvlt := hown.lt
  have e0 : Ext wr (wr.alloc (.cells #[] 5)).drew := Chg.drew (Chg.alloc (Ext.refl _) _)
  have e1 : Ext w8 (w8.alloc (.cells #[.slice A8 l.length c8] 35)) := Chg.alloc (Ext.refl _) _
  -- the variable's block
  have b8 : Blk w8 w1.heap.size 40 #[v] := (hbo.ext e0).chg hc8 (lit_own (by omega))
  have hvb : v.ownBlock ≠ some w1.heap.size := own_blk_ne hown hbo (by decide)
  have b10 : Blk w10 w1.heap.size 40 #[v] := (b8.ext e1).chg hc10 hvb
  -- the row of banks
  have o8 : w8.ownsRow w1.heap.size 35 1 v k bvs := ownsRow_chg (ownsRow_ext hown e0) hc8 (fun g hg => lit_own (by have := (hvlt g hg).2; omega))
  have cs : Chg (fun j => j = w1.heap.size) w10 (w10.setCell ⟨w1.heap.size, 0, none⟩ (.slice A10 (k + 1) c10)) := Chg.setCell (S := fun j => j = w1.heap.size) (p := ⟨w1.heap.size, 0, none⟩) (Chg.refl _ _) (.inl rfl) _
  have n10 : (Value.slice A10 (k + 1) c10).ownBlock ≠ some w1.heap.size := own_blk_ne ho10 b10 (by decide)
  have ob8 : OwnBanks w8 w1.heap.size bvs banks := (hob.chg e0 (fun _ _ _ _ _ h => h)).chg hc8 (fun j bv g h1 h2 => by
    have hj : j < banks.length := by
      have := hob.len
      rcases Nat.lt_or_ge j bvs.length with hh | hh
      · omega
      · rw [List.getElem?_eq_none hh] at h1; cases h1
    have := ((hob.each j bv banks[j] h1 (List.getElem?_eq_getElem hj)).lt g h2).2
    exact lit_own (by omega))
  have ob10 : OwnBanks w10 w1.heap.size bvs banks := (ob8.chg e1 (fun _ _ _ _ _ h => h)).chg hc10 (fun j bv g h1 h2 => by
    have hj : j < banks.length := by
      have := hob.len
      rcases Nat.lt_or_ge j bvs.length with hh | hh
      · omega
      · rw [List.getElem?_eq_none hh] at h1; cases h1
    exact own_ne (ob8.each j bv banks[j] h1 (List.getElem?_eq_getElem hj)) o8 (by decide) h2)
  have l10 : w10.ownsRow w1.heap.size 5 1 (.slice A8 l.length c8) l.length (l.map (Value.int .u8)) := ownsRow_chg (ownsRow_ext ho8 e1) hc10 (fun g hg => own_ne ho8 o8 (by decide) hg)
  have s10 : OwnBanks w10 w1.heap.size (bvs ++ [.slice A8 l.length c8]) (banks ++ [l]) := ob10.snoc l10 (fun j bv g h1 h2 => by
    have hj : j < banks.length := by
      have := hob.len
      rcases Nat.lt_or_ge j bvs.length with hh | hh
      · omega
      · rw [List.getElem?_eq_none hh] at h1; cases h1
    have hg := ((hob.each j bv banks[j] h1 (List.getElem?_eq_getElem hj)).lt g h2).2
    rcases hv8 with e | ⟨g', e, hg', _⟩
    · rw [e]; exact lit_own (by omega)
    · rw [e]
      intro e2
      injection e2 with e2
      simp at hg'
      omega)
  refine ⟨b10.set_ 0 _, ownsRow_chg ho10 cs (fun g hg e => n10 (by rw [hg, e])), s10.chg cs (fun j bv g h1 h2 e => ?_), ?_⟩
  · have hj : j < (banks ++ [l]).length := by
      have := s10.len
      rcases Nat.lt_or_ge j (bvs ++ [Value.slice A8 l.length c8]).length with hh | hh
      · omega
      · rw [List.getElem?_eq_none hh] at h1; cases h1
    exact own_blk_ne (s10.each j bv (banks ++ [l])[j] h1 (List.getElem?_eq_getElem hj)) b10 (by decide) (by rw [h2, e])
  · refine Chg.trans' (S := Non) (T := fun j => j = w1.heap.size) (b := w10) ?_ cs (fun _ _ h => h) (fun i hi e => by omega)
    refine Chg.trans' (S := Non) (T := fun j => v.ownBlock = some j) (b := w8.alloc (.cells #[.slice A8 l.length c8] 35)) ?_ hc10 (fun _ _ h => h) (fun i hi e => by have := (hvlt i e).1; omega)
    refine Chg.alloc ?_ _
    exact Chg.trans' (S := Non) (hext.trans e0) hc8 (fun _ _ h => h) (fun i hi e => by
      simp only [Value.ownBlock, Option.some.injEq] at e
      omega)

theorem OwnBanks.set_ {w : World} {B : Nat} {bvs : List Value} {banks : List (List Int)} (h : OwnBanks w B bvs banks) {bank cell : Nat} {g cap : Nat} {l : List Int} (hv : bvs[bank]? = some (.slice (some ⟨g, 0, none⟩) l.length cap)) (hl : banks[bank]? = some l) (hc : cell < l.length) (y : Int) :
    OwnBanks (w.setCell ⟨g, cell, none⟩ (.int .u8 y)) B bvs (banks.set bank (l.set cell y)) := by
  refine ⟨by rw [List.length_set]; exact h.len, fun k bv x h1 h2 => ?_, h.apart⟩
  by_cases hk : k = bank
  · subst hk
    rw [hv] at h1
    cases h1
    have hb : k < banks.length := (List.getElem?_eq_some_iff.1 hl).1
    rw [List.getElem?_set_self hb] at h2
    cases h2
    have := own_set (h.each k _ l hv hl) cell hc (.int .u8 y)
    rw [List.length_set, List.map_set]
    exact this
  · rw [List.getElem?_set_ne (fun e => hk e.symm)] at h2
    exact ownsRow_chg (S := fun j => j = g) (h.each k bv x h1 h2) (Chg.setCell (S := fun j => j = g) (p := ⟨g, cell, none⟩) (Chg.refl _ _) (.inl rfl) _) (fun j hj e => h.apart k bank bv _ j h1 hv hk hj (by rw [e]; rfl))

/-- Fuses whose blocks are all made since the heap had B blocks. -/
def FusesNew (B : Nat) (w : World) (fv : Value) (banks : List (List Int)) : Prop :=
  ∃ B' bvs, B ≤ B' ∧ w.ownsRow B' 35 1 fv banks.length bvs ∧ OwnBanks w B' bvs banks
theorem FusesNew.fuses {B : Nat} {w : World} {fv : Value} {banks : List (List Int)} (h : FusesNew B w fv banks) : FusesIn w fv banks := by
  obtain ⟨B', bvs, _, h1, h2⟩ := h
  exact ⟨bvs, Reads.of_own h1, OwnBanks.reads h2⟩
theorem FusesNew.chg {B : Nat} {w w' : World} {fv : Value} {banks : List (List Int)} (h : FusesNew B w fv banks) {S : Nat → Prop} (hc : Chg S w w') (hS : ∀ k, B ≤ k → ¬ S k) : FusesNew B w' fv banks := by
  obtain ⟨B', bvs, hB, h1, h2⟩ := h
  refine ⟨B', bvs, hB, ownsRow_chg h1 hc (fun j hj => hS j (Nat.le_trans hB (h1.lt j hj).1)), h2.chg hc (fun k bv j e1 e2 => ?_)⟩
  have hk : k < banks.length := by
    have := h2.len
    rcases Nat.lt_or_ge k bvs.length with hh | hh
    · omega
    · rw [List.getElem?_eq_none hh] at e1; cases e1
  exact hS j (Nat.le_trans hB ((h2.each k bv banks[k] e1 (List.getElem?_eq_getElem hk)).lt j e2).1)

theorem fuses_done {w wr : World} {B r : Nat} {bvs : List Value} {banks : List (List Int)} {g cap : Nat} {V : Value} (hown : wr.ownsRow B 35 1 (.slice (some ⟨g, 0, none⟩) banks.length cap) banks.length bvs) (hob : OwnBanks wr B bvs banks) (hr : r < B) (hw : w.heap.size ≤ r) (he : Ext w wr) :
    FusesNew w.heap.size (wr.setCell ⟨r, 0, none⟩ V) (.slice (some ⟨g, 0, none⟩) banks.length cap) banks ∧ Ext w (wr.setCell ⟨r, 0, none⟩ V) := by
  have hc : Chg (fun j => j = r) wr (wr.setCell ⟨r, 0, none⟩ V) := Chg.setCell (S := fun j => j = r) (p := ⟨r, 0, none⟩) (Chg.refl _ _) (.inl rfl) _
  have h0 : FusesNew B wr (.slice (some ⟨g, 0, none⟩) banks.length cap) banks := ⟨B, bvs, Nat.le_refl _, hown, hob⟩
  obtain ⟨B', bvs', hB, h1, h2⟩ := h0.chg hc (fun k hk e => by omega)
  exact ⟨⟨B', bvs', by omega, h1, h2⟩, Chg.setCell (p := ⟨r, 0, none⟩) he (.inr hw) _⟩

theorem take_step {α : Type} (l : List α) (k : Nat) (h : k < l.length) : l.take (k + 1) = l.take k ++ [l[k]] := by rw [List.take_add_one, List.getElem?_eq_getElem h]; rfl

def pulsed (x : Int) (cut : Bool) : Int := if x ≤ 1 then (if cut then 1 else 2) else x

set_option maxRecDepth 100000 in
set_option maxHeartbeats 2000000 in
theorem fuse_pulse (fv : Value) (banks : List (List Int)) (bank cell : Nat) (cut : Bool) (w : World) (h : FusesIn w fv banks) (hb : bank < banks.length) (hc : cell < banks[bank].length) (hn : banks.length ≤ 1000) (hn2 : ∀ l ∈ banks, l.length ≤ 100000) :
    Calls Try.prog 39 #[.agg #[fv], .int .i64 (bank : Int), .int .i64 (cell : Int), .bool cut] w fun e w' =>
      ∃ fv', e = .returned (.tuple #[.agg #[fv'], .int .i64 0]) ∧ FusesNew w.heap.size w' fv' (banks.set bank (banks[bank].set cell (pulsed banks[bank][cell] cut))) ∧ Ext w w' := by
  have HF := hide h
  obtain ⟨_, ⟨_, A, c, rfl, _⟩, _⟩ := h.ex
  have HE := hide (exists_yes _ banks bank cell ((w.alloc (.cells #[.slice A banks.length c] 40)).alloc (.cells #[.slice none 0 0] 40)) ((unhide HF).ext (Chg.alloc (Chg.alloc (Ext.refl _) _) _)) hb hc)
  clear h
  go_enter Try.func39, Try.ntmps39
  go_wp2_with fail
  refine (unhide HE).mono ?_
  rintro e w1 ⟨rfl, hE⟩
  have hBf := ((Blk.new w 40 #[.slice A banks.length c]).alloc (.cells #[.slice none 0 0] 40)).ext hE
  have hBr := (Blk.new' (w.alloc (.cells #[.slice A banks.length c] 40)) 40 #[.slice none 0 0] (g := w.heap.size + 1) (by simp)).ext hE
  have hsz := hE.size'
  simp only [World.size_alloc] at hsz
  have HX : Hid (Ext w w1) := hide ((Chg.alloc (Chg.alloc (Ext.refl _) _) _).trans hE)
  clear hE HE
  obtain ⟨f0, ff, fl⟩ := hBf.cells1
  obtain ⟨r0, rf, rl⟩ := hBr.cells1
  have HB := hide (And.intro hBf hBr)
  clear hBf hBr
  go_wp2
  have HS : Hid (w.heap.size + 1 < w1.heap.size) := hide (by omega)
  go_loopw [11] (fun i wr => ∃ (k : Nat) (bvs : List Value) (v : Value), k ≤ banks.length ∧ i = .int .i64 k ∧ Blk wr w1.heap.size 40 #[v] ∧ wr.ownsRow w1.heap.size 35 1 v k bvs ∧ OwnBanks wr w1.heap.size bvs (banks.take k) ∧ Ext w1 wr) (fun i _ => banks.length - (intOf i).toNat)
  case atStart => exact ⟨0, [], .slice none 0 0, by omega, rfl, Blk.new _ _ _, World.ownsRow_nil _ _ _ _, OwnBanks.nil _ _, Chg.alloc (Ext.refl _) _⟩
  case round =>
    obtain ⟨k, bvs, v, hk, rfl, hbo, hown, hob, hext⟩ := hrel
    have hf1 := (unhide HB).1.ext hext
    obtain ⟨g0, gf, gl⟩ := hf1.cells1
    obtain ⟨o0, of, ol⟩ := hbo.cells1
    by_cases hlt : k < banks.length
    · obtain ⟨b, o, c', bv, hv, hbw, hcell, hr⟩ := (unhide HF).at_ hlt
      cases hv
      have hE2 : Ext w wr := (unhide HX).trans hext
      have hcell := hE2.cellv hcell
      have hr := hr.ext hE2
      have hlen : banks[k].length ≤ 100000 := hn2 _ (List.getElem_mem hlt)
      have hk0 : (0 : Int) ≤ (k : Int) := by omega
      have hk1 : (k : Int) < (banks.length : Int) := by omega
      have HO := hide (And.intro hbo (And.intro hown (And.intro hob hext)))
      have HR := hide hr
      clear hbo hown hob hr hf1 f0 ff r0 rf hext hE2
      have hB : w1.heap.size ≤ wr.heap.size := (unhide HO).2.2.2.size'
      go_wp2
      have hvB : ∀ g, v.ownBlock = some g → w1.heap.size ≤ g ∧ g < wr.heap.size ∧ ¬ g = w1.heap.size := fun g hg => ⟨((unhide HO).2.1.lt g hg).1, ((unhide HO).2.1.lt g hg).2, fun e => own_blk_ne (unhide HO).2.1 (unhide HO).1 (by decide) (e ▸ hg)⟩
      have hbwr : b < wr.heap.size := by omega
      go_region_law (first
          | (refine step_app (s := .tmp 28) (x := .tmp 33) rfl rfl u8_row (v := .slice (some ⟨wr.heap.size, 0, none⟩) 0 0) rfl (B := w1.heap.size) (n := 0) (xs := []) (by exact own_empty wr _ _ _ hB) rfl (by exact ((unhide HR).ext (Chg.alloc (Ext.refl _) _)).ext (Chg.drew (Ext.refl _))) (AllOne.map (fun _ => rfl) _) (by omega) (by exact Nat.le_trans hB (by simp)) ?_; intro A8 c8 w8 ho8 hc8 hv8; simp only [Nat.zero_add, List.nil_append] at ho8 hv8
             have hl8 : w1.heap.size < w8.heap.size := Nat.lt_of_lt_of_le (by simp; omega) hc8.size
             have hs8' : w8.cell? ⟨w1.heap.size, 0, none⟩ = some v ∧ w8.cell? ⟨w.heap.size, 0, none⟩ = some (.slice (some ⟨b, o, none⟩) banks.length c) ∧ w8.cell? ⟨b, o + k, none⟩ = some bv := ⟨hc8.cellv (Ext.cellv (Chg.drew (Chg.alloc (Ext.refl _) _)) o0) (lit_own (by simp only; omega)), hc8.cellv (Ext.cellv (Chg.drew (Chg.alloc (Ext.refl _) _)) g0) (lit_own (by simp only; omega)), hc8.cellv (Ext.cellv (Chg.drew (Chg.alloc (Ext.refl _) _)) hcell) (lit_own (by simp only; omega))⟩)
          | (refine step_app (s := .tmp 27) (x := .tmp 35) rfl rfl bank_row (v := v) rfl (B := w1.heap.size) (n := k) (xs := bvs) (by exact ownsRow_ext (ownsRow_chg (ownsRow_ext (unhide HO).2.1 (Chg.drew (Chg.alloc (Ext.refl _) _))) hc8 (fun g hg => lit_own (by have := (hvB g hg).2.1; omega))) (Chg.alloc (Ext.refl _) _)) rfl (by exact Reads.new1 _ _ _) (AllOne.one rfl) (by omega) (by exact Nat.le_trans hB (Nat.le_trans (by simp) (Nat.le_trans hc8.size (by simp)))) ?_; intro A10 c10 w10 ho10 hc10 hv10
             have hs10 : w10.cell? ⟨w1.heap.size, 0, none⟩ = some v ∧ w10.cell? ⟨w.heap.size, 0, none⟩ = some (.slice (some ⟨b, o, none⟩) banks.length c) ∧ w10.cell? ⟨b, o + k, none⟩ = some bv := ⟨hc10.cellv (Ext.cellv (Chg.alloc (Ext.refl _) _) hs8'.1) (fun e => (hvB _ e).2.2 rfl), hc10.cellv (Ext.cellv (Chg.alloc (Ext.refl _) _) hs8'.2.1) (fun e => by have := (hvB _ e).1; simp only at this; omega), hc10.cellv (Ext.cellv (Chg.alloc (Ext.refl _) _) hs8'.2.2) (fun e => by have := (hvB _ e).1; simp only at this; omega)⟩
             have hf10 : w10.frozen? ⟨w1.heap.size, 0, none⟩ = false := hc10.frozenv (Ext.frozenv (Chg.alloc (Ext.refl _) _) (hc8.frozenv (Ext.frozenv (Chg.drew (Chg.alloc (Ext.refl _) _)) (of 0) ol) (by simp; omega) (lit_own (by simp only; omega))) (Nat.lt_of_lt_of_le (by simp; omega) hc8.size)) (Nat.lt_of_lt_of_le (Nat.lt_of_lt_of_le (by simp; omega) hc8.size) (by simp)) (fun e => (hvB _ e).2.2 rfl)))
      all_goals
        have HH := hide (pulse_round (unhide HO).1 (unhide HO).2.1 (unhide HO).2.2.1 (unhide HO).2.2.2 ho8 hc8 hv8 ho10 hc10)
        clear hs8' hs10 hf10 hl8 ho8 hc8 hv8 ho10 hc10 hv10 HO
        go_wp2
        go_roundw
        case rel => exact ⟨k + 1, _, _, by omega, by go_num, (unhide HH).1, (unhide HH).2.1, by rw [take_step banks k hlt]; exact (unhide HH).2.2.1, (unhide HH).2.2.2⟩
        case measure => simp [intOf]; omega
    · obtain rfl : k = banks.length := by omega
      rw [List.take_length] at hob
      obtain ⟨g, cap, u, rfl, hg1, hg2, hu, hcu, hgf⟩ := own_at hown hb
      obtain ⟨gb, cb, x, hub, hb1, hb2, hx, hcx, hbf⟩ := own_at (hob.each bank u banks[bank] hu (List.getElem?_eq_getElem hb)) hc
      subst hub
      rw [List.getElem?_map, List.getElem?_eq_getElem hc] at hx
      cases hx
      have hgg : ¬ gb = g := fun e => own_ne (hob.each bank _ banks[bank] hu (List.getElem?_eq_getElem hb)) hown (by decide) (g := gb) rfl (by rw [e]; rfl)
      have hbr := (unhide HB).2.ext hext
      obtain ⟨r0', rf', rl'⟩ := hbr.cells1
      have hgr : ¬ gb = w.heap.size + 1 := by have := unhide HS; omega
      have hgr2 : ¬ g = w.heap.size + 1 := by have := unhide HS; omega
      have hgo : ¬ gb = w1.heap.size := fun e => own_blk_ne (hob.each bank _ banks[bank] hu (List.getElem?_eq_getElem hb)) hbo (by decide) (by rw [← e]; rfl)
      have hwo : ¬ w.heap.size + 1 = w1.heap.size := by have := unhide HS; omega
      have HH := hide (And.intro hown (And.intro hob (And.intro hext hu)))
      have hb0 : (bank : Int) < (banks.length : Int) := by omega
      have hc0 : (cell : Int) < (banks[bank].length : Int) := by omega
      have hlen : banks[bank].length ≤ 100000 := hn2 _ (List.getElem_mem hb)
      clear hown hob hext hu hf1 hbr r0 rf f0 ff
      generalize hX : banks[bank][cell] = x at *
      have HXX := hide hX
      clear hX
      have HP := hide (show pulsed x cut = if x ≤ 1 then (if cut then 1 else 2) else x from rfl)
      by_cases hle : x ≤ 1
      · have HL := hide hle
        cases cut with
        | true =>
          have HY : Hid (pulsed banks[bank][cell] true = 1) := hide (by rw [unhide HXX, unhide HP, if_pos hle]; rfl)
          go_wp2
          refine bodyPost_ret (v := .tuple #[.agg #[.slice (some ⟨g, 0, none⟩) banks.length cap], .int .i64 0]) (by simp [results, Try.results39, go_sem, r0']) rfl ⟨_, rfl, ?_⟩
          rw [unhide HY]
          have h0 := ownsRow_chg (S := fun j => j = gb) (unhide HH).1 (Chg.setCell (S := fun j => j = gb) (p := ⟨gb, cell, none⟩) (Chg.refl _ _) (.inl rfl) (.int .u8 1)) (fun j hj e => by cases hj; exact hgg e.symm)
          have h1 := (unhide HH).2.1.set_ (unhide HH).2.2.2 (List.getElem?_eq_getElem hb) hc 1
          have hl : (banks.set bank (banks[bank].set cell 1)).length = banks.length := List.length_set
          rw [← hl] at h0 ⊢
          exact fuses_done h0 h1 (unhide HS) (by omega) (Chg.setCell (p := ⟨gb, cell, none⟩) ((unhide HX).trans (unhide HH).2.2.1) (.inr (by simp only; omega)) _)
        | false =>
          have HY : Hid (pulsed banks[bank][cell] false = 2) := hide (by rw [unhide HXX, unhide HP, if_pos hle]; rfl)
          go_wp2
          refine bodyPost_ret (v := .tuple #[.agg #[.slice (some ⟨g, 0, none⟩) banks.length cap], .int .i64 0]) (by simp [results, Try.results39, go_sem, r0']) rfl ⟨_, rfl, ?_⟩
          rw [unhide HY]
          have h0 := ownsRow_chg (S := fun j => j = gb) (unhide HH).1 (Chg.setCell (S := fun j => j = gb) (p := ⟨gb, cell, none⟩) (Chg.refl _ _) (.inl rfl) (.int .u8 2)) (fun j hj e => by cases hj; exact hgg e.symm)
          have h1 := (unhide HH).2.1.set_ (unhide HH).2.2.2 (List.getElem?_eq_getElem hb) hc 2
          have hl : (banks.set bank (banks[bank].set cell 2)).length = banks.length := List.length_set
          rw [← hl] at h0 ⊢
          exact fuses_done h0 h1 (unhide HS) (by omega) (Chg.setCell (p := ⟨gb, cell, none⟩) ((unhide HX).trans (unhide HH).2.2.1) (.inr (by simp only; omega)) _)
      · have hx2 : ¬ x ≤ 1 := hle
        have HY : Hid (pulsed banks[bank][cell] cut = banks[bank][cell]) := hide (by rw [unhide HXX, unhide HP, if_neg hle])
        go_wp2
        refine bodyPost_ret (v := .tuple #[.agg #[.slice (some ⟨g, 0, none⟩) banks.length cap], .int .i64 0]) (by simp [results, Try.results39, go_sem, r0']) rfl ⟨_, rfl, ?_⟩
        rw [unhide HY, List.set_getElem_self, List.set_getElem_self]
        exact fuses_done (unhide HH).1 (unhide HH).2.1 (unhide HS) (by omega) ((unhide HX).trans (unhide HH).2.2.1)

end Go.Proofs.Ytmlekdmnpljcoaa
