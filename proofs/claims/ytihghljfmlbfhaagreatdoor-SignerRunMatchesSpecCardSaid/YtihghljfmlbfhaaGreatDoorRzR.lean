/-
  Several texts in one file: each has its own heading below.
-/
import Derived.Test.YtihghljfmlbfhaaGreatDoorRzQ
import Derived.Test.YtihghljfmlbfhaaGreatDoorRzF
import Derived.Deep.Cut
import Derived.Test.YtihghljfmlbfhaaGreatDoorRzN
import Derived.Test.YtihghljfmlbfhaaGreatDoorRzP
import Derived.Test.YtihghljfmlbfhaaGreatDoorRzG
set_option maxRecDepth 100000
set_option maxHeartbeats 4000000
namespace Go.Proofs.YtihghljfmlbfhaaGreatDoor
open Go.RowKit
def jY (l : List Int) (b : Nat) : Nat → Nat
 | 0 => 0
 | k + 1 => jY l b k + (if l.getD (3 * b + k) 0 % 4 = 3 then 1 else 0)
def cellOf (l : List Int) (sound : Bool) (j : Nat) : Int := if sound = true ∧ 1 < jY l (j / 3) 3 then 0 else l.getD j 0 % 4
def bitsOf (l : List Int) : Nat := min (l.length / 3) 16
def cellsOf (l : List Int) (sound : Bool) : List Int := (List.range (3 * bitsOf l)).map (cellOf l sound)
theorem uN (l : List Int) (b k : Nat) : jY l b k ≤ k := by
 induction k with
 | zero => exact Nat.le_refl _
 | succ k ih => unfold jY; split <;> omega
theorem lT (l : List Int) (sound : Bool) (j : Nat) : (List.range (j + 1)).map (cellOf l sound) = (List.range j).map (cellOf l sound) ++ [cellOf l sound j] := by
 rw [List.range_succ, List.map_append]; rfl
theorem aEm {l : List Int} {b k : Nat} (hb : b < bitsOf l) (hk : k < 3) : 3 * b + k < l.length := by unfold bitsOf at hb; omega
theorem own_oneE (w : World) (B : Nat) (e : TypeId) (u : Value) (hb : B ≤ w.heap.size) : (w.alloc (.cells #[u] e)).ownsRow B e 1 (.slice (some ⟨w.heap.size, 0, none⟩) 1 1) 1 [u] :=
 ⟨by simp, .inr ⟨w.heap.size, 1, #[u], rfl, hb, heap_alloc_new w _, Nat.le_refl _, by unfold maxLen; omega, by simp, by simp⟩⟩
theorem aHc {wr : World} {v V : Value} {n r B : Nat} {l : List Int} (hn : l.length = n) (h : wr.ownsRow B 5 1 v n (l.map (Value.int .u8))) (_hr : r < wr.heap.size) (hrB : r < B) (hB : B ≤ wr.heap.size) :
  dV B ((wr.setCell ⟨r, 0, none⟩ V).alloc (.cells #[v] 40)) (.slice (some ⟨wr.heap.size, 0, none⟩) 1 1) [l] := by
 have hc : Chg (fun k => k = r) wr (wr.setCell ⟨r, 0, none⟩ V) := Chg.setCell (S := fun j => j = r) (p := ⟨r, 0, none⟩) (Chg.refl _ _) (.inl rfl) _
 have h' := dB h hc (fun k hk e => by have := (h.lt k hk).1; omega)
 have hz : (wr.setCell ⟨r, 0, none⟩ V).heap.size = wr.heap.size := by simp [World.setCell]
 refine ⟨B, [v], Nat.le_refl _, by have := own_oneE (wr.setCell ⟨r, 0, none⟩ V) B 40 v (by omega); rw [hz] at this; exact this, ?_⟩
 refine ⟨rfl, fun k bv x h1 h2 => ?_, fun i j bi bj g h1 h2 hij => ?_⟩
 ·cases k with
  | zero =>
   cases h1
   cases h2
   rw [hn]
   exact aQ h' (Chg.alloc (Ext.refl _) _)
  | succ k => cases h1
 ·have : i = 0 := by
   cases i with
   | zero => rfl
   | succ i => cases h1
  have : j = 0 := by
   cases j with
   | zero => rfl
   | succ j => cases h2
  omega
theorem dV.lower {B B' : Nat} {w : World} {fv : Value} {banks : List (List Int)} (h : dV B w fv banks) (hb : B' ≤ B) : dV B' w fv banks := by
 obtain ⟨C, bvs, h1, h2⟩ := h
 exact ⟨C, bvs, by omega, h2⟩
theorem aVu (l : List Int) (lv : Value) (sound : Bool) (w : World) (hl : Reads w 1 lv l.length (l.map (Value.int .u8))) (h8 : ∀ x ∈ l, isU8 x) :
  Calls Tryz.prog 22 #[lv, .bool sound] w fun e w' =>
   ∃ fv, e = .returned (.tuple #[.agg #[fv], .int .i64 (bitsOf l)]) ∧ dV w.heap.size w' fv [cellsOf l sound] ∧ Ext w w' := by
 have hm := hl.len_le
 unfold maxLen at hm
 have HL := hide hl
 obtain ⟨_, B, c, rfl, _, _, _⟩ := hl
 have hbits : (bitsOf l : Int) = if (l.length : Int) / 3 > 16 then 16 else (l.length : Int) / 3 := by unfold bitsOf; split <;> omega
 have hb16 : bitsOf l ≤ 16 := by unfold bitsOf; omega
 by_cases hb : (l.length : Int) / 3 > 16
 ·rw [if_pos hb] at hbits
  have hx : decide ((16 : Int) < (l.length : Int) / 3) = true := by simpa using hb
  go_enter Tryz.func22, Tryz.ntmps22
  go_wp2
  go_loopw [7, 8] (fun s i wr => ∃ b : Nat, b ≤ bitsOf l ∧ i = .int .i64 b ∧ wr.ownsRow (w.heap.size + 1) 5 1 s (3 * b) (((List.range (3 * b)).map (cellOf l sound)).map (Value.int .u8)) ∧ Ext (w.alloc (.cells #[.slice none 0 0] 49)) wr) (fun _ i _ => 16 - (intOf i).toNat)
  case atStart => exact ⟨0, Nat.zero_le _, rfl, World.ownsRow_nil _ _ _ _, Ext.refl _⟩
  case round =>
   obtain ⟨b, hb, rfl, hown, hE⟩ := hrel
   have HO := hide (And.intro hown hE)
   clear hown hE
   by_cases hlt : b < bitsOf l
   ·have hlt2 : (b : Int) < 16 := by omega
    go_wp2
    go_loop [9, 10] (fun n i => ∃ k : Nat, k ≤ 3 ∧ i = .int .i64 k ∧ n = .int .i64 (jY l b k)) (fun _ i => 3 - (intOf i).toNat)
    case atStart => exact ⟨0, by omega, rfl, rfl⟩
    case round =>
     obtain ⟨k, hk, rfl, rfl⟩ := hrel
     by_cases hk3 : k < 3
     ·have hj := aEm hlt hk3
      obtain ⟨b1, o, c', u, hv, _, _, hbw, hu, hc1⟩ := ((aA HL).ext ((Chg.alloc (Ext.refl w) _ : Ext w (w.alloc (.cells #[.slice none 0 0] 49))).trans (aA HO).2)).at1 hj
      cases hv
      rw [List.getElem?_map, zH hj] at hu
      cases hu
      have hg := h8 _ (List.getElem_mem hj)
      obtain ⟨hg0, hg1⟩ := hg
      have HS := hide (show jY l b (k + 1) = jY l b k + (if l[3 * b + k] % 4 = 3 then 1 else 0) by rw [jY, zG, zH hj]; rfl)
      have hle := uN l b k
      have hj0 : (0 : Int) ≤ 3 * (b : Int) + (k : Int) := by omega
      have hj1 : 3 * (b : Int) + (k : Int) < (l.length : Int) := by omega
      have hj2 : (3 * (b : Int) + (k : Int)).toNat = 3 * b + k := by omega
      have hi64 : IntKind.i64.wrap (3 * (b : Int)) = 3 * (b : Int) := IntWalk.i64_in _ (by omega)
      have hi65 : IntKind.i64.wrap (3 * (b : Int) + (k : Int)) = 3 * (b : Int) + (k : Int) := IntWalk.i64_in _ (by omega)
      generalize jY l b k = n0 at *
      generalize l[3 * b + k] = x at *
      by_cases hx : x % 4 = 3
      ·have hx' : (x % 4 == 3) = true := by simp [hx]
       have HX := hide hx
       clear hx
       go_wp2
       go_round
       case rel => exact ⟨k + 1, by omega, by go_num, int_eq (by rw [aA HS, if_pos (aA HX)]; rfl)⟩
       case measure => simp [intOf]; omega
      ·have hx' : (x % 4 == 3) = false := by simp [hx]
       have HX := hide hx
       clear hx
       go_wp2
       go_round
       case rel => exact ⟨k + 1, by omega, by go_num, int_eq (by rw [aA HS, if_neg (aA HX)]; rfl)⟩
       case measure => simp [intOf]; omega
     ·obtain rfl : k = 3 := by omega
      go_wp2
      go_loopw [7, 11] (fun s i wq => ∃ k : Nat, k ≤ 3 ∧ i = .int .i64 k ∧ wq.ownsRow (w.heap.size + 1) 5 1 s (3 * b + k) (((List.range (3 * b + k)).map (cellOf l sound)).map (Value.int .u8)) ∧ Ext (w.alloc (.cells #[.slice none 0 0] 49)) wq) (fun _ i _ => 3 - (intOf i).toNat)
      case atStart => exact ⟨0, by omega, rfl, (aA HO).1, (aA HO).2⟩
      case round =>
       obtain ⟨k, hk, rfl, hown, hE⟩ := hrel
       have HP := hide (And.intro hown hE)
       clear hown hE
       by_cases hk3 : k < 3
       ·have hj := aEm hlt hk3
        obtain ⟨b1, o, c', u, hv, _, _, hbw, hu, hc1⟩ := ((aA HL).ext ((Chg.alloc (Ext.refl w) _ : Ext w (w.alloc (.cells #[.slice none 0 0] 49))).trans (aA HP).2)).at1 hj
        cases hv
        rw [List.getElem?_map, zH hj] at hu
        cases hu
        have hg := h8 _ (List.getElem_mem hj)
        obtain ⟨hg0, hg1⟩ := hg
        have HS := hide (show cellOf l sound (3 * b + k) = if sound = true ∧ 1 < jY l b 3 then 0 else l[3 * b + k] % 4 by unfold cellOf; rw [show (3 * b + k) / 3 = b from by omega, zG, zH hj]; rfl)
        have hle := uN l b 3
        have hj0 : (0 : Int) ≤ 3 * (b : Int) + (k : Int) := by omega
        have hj1 : 3 * (b : Int) + (k : Int) < (l.length : Int) := by omega
        have hj2 : (3 * (b : Int) + (k : Int)).toNat = 3 * b + k := by omega
        have hi64 : IntKind.i64.wrap (3 * (b : Int)) = 3 * (b : Int) := IntWalk.i64_in _ (by omega)
        have hi65 : IntKind.i64.wrap (3 * (b : Int) + (k : Int)) = 3 * (b : Int) + (k : Int) := IntWalk.i64_in _ (by omega)
        have hsz : Hid (w.heap.size + 1 ≤ wr.heap.size) := hide (by have := (aA HP).2.size'; simpa using this)
        generalize jY l b 3 = n0 at *
        generalize l[3 * b + k] = x at *
        cases sound with
        | false =>
         have HV : Hid (cellOf l false (3 * b + k) = x % 4) := hide (by rw [aA HS, if_neg (by simp)])
         go_wp2_with (at_builtin; refine aU rfl rfl oV rfl (aQ (aA HP).1 ((Ext.refl _).alloc _)) rfl (Reads.new1 _ _ _) (bP.one rfl) (by omega) (Nat.le_trans (aA hsz) (by simp)) ?_; intro A' c' w2 ho hc hv)
         have HQ := hide (And.intro ho (((aA HP).2.alloc _).trans' hc (fun _ _ h => h) (fun i hi hi' => absurd ((aA HP).1.lt i hi').1 (by simp only [World.size_alloc] at hi; omega))))
         clear ho hc hv
         go_wp2
         go_roundw
         case rel => exact ⟨k + 1, by omega, by go_num, by rw [show 3 * b + (k + 1) = 3 * b + k + 1 from rfl, lT, List.map_append, aA HV]; exact (aA HQ).1, (aA HQ).2⟩
         case measure => simp [intOf]; omega
        | true =>
         by_cases hn1 : 1 < n0
         ·have HV : Hid (cellOf l true (3 * b + k) = 0) := hide (by rw [aA HS, if_pos ⟨rfl, hn1⟩])
          have hn2 : (1 : Int) < (n0 : Int) := by omega
          go_wp2_with (at_builtin; refine aU rfl rfl oV rfl (aQ (aA HP).1 ((Ext.refl _).alloc _)) rfl (Reads.new1 _ _ _) (bP.one rfl) (by omega) (Nat.le_trans (aA hsz) (by simp)) ?_; intro A' c' w2 ho hc hv)
          have HQ := hide (And.intro ho (((aA HP).2.alloc _).trans' hc (fun _ _ h => h) (fun i hi hi' => absurd ((aA HP).1.lt i hi').1 (by simp only [World.size_alloc] at hi; omega))))
          clear ho hc hv
          go_wp2
          go_roundw
          case rel => exact ⟨k + 1, by omega, by go_num, by rw [show 3 * b + (k + 1) = 3 * b + k + 1 from rfl, lT, List.map_append, aA HV]; exact (aA HQ).1, (aA HQ).2⟩
          case measure => simp [intOf]; omega
         ·have HV : Hid (cellOf l true (3 * b + k) = x % 4) := hide (by rw [aA HS, if_neg (fun h => hn1 h.2)])
          have hn2 : ¬ (1 : Int) < (n0 : Int) := by omega
          go_wp2_with (at_builtin; refine aU rfl rfl oV rfl (aQ (aA HP).1 ((Ext.refl _).alloc _)) rfl (Reads.new1 _ _ _) (bP.one rfl) (by omega) (Nat.le_trans (aA hsz) (by simp)) ?_; intro A' c' w2 ho hc hv)
          have HQ := hide (And.intro ho (((aA HP).2.alloc _).trans' hc (fun _ _ h => h) (fun i hi hi' => absurd ((aA HP).1.lt i hi').1 (by simp only [World.size_alloc] at hi; omega))))
          clear ho hc hv
          go_wp2
          go_roundw
          case rel => exact ⟨k + 1, by omega, by go_num, by rw [show 3 * b + (k + 1) = 3 * b + k + 1 from rfl, lT, List.map_append, aA HV]; exact (aA HQ).1, (aA HQ).2⟩
          case measure => simp [intOf]; omega
       ·obtain rfl : k = 3 := by omega
        go_wp2
        go_roundw
        case rel => exact ⟨b + 1, by omega, by go_num, (aA HP).1, (aA HP).2⟩
        case measure => simp [intOf]; omega
   ·obtain rfl : b = bitsOf l := by omega
    have hlt2 : ¬ ((bitsOf l : Nat) : Int) < 16 := by omega
    have HB := hide hbits
    clear hbits
    have hF := (Blk.new w 49 #[.slice none 0 0]).ext (aA HO).2
    obtain ⟨f0, ff, fl⟩ := hF.cells1
    obtain ⟨A1, c1, rfl⟩ := iO (aA HO).1
    go_wp2
    refine bodyPost_ret (v := .tuple #[.agg #[.slice (some ⟨wr.heap.size, 0, none⟩) 1 1], .int .i64 (16)]) (by simp [results, Tryz.results22, go_sem, f0, fl]) rfl ⟨_, by rw [aA HB], dV.lower (aHc (l := cellsOf l sound) (by simp [cellsOf]) (aA HO).1 fl (Nat.lt_succ_self _) (by simpa using (aA HO).2.size')) (Nat.le_succ _), ?_⟩
    have hE := Ext.trans (Chg.alloc (Ext.refl w) _ : Ext w (w.alloc (.cells #[.slice none 0 0] 49))) (aA HO).2
    repeat' (first | (with_reducible exact Chg.refl _ _) | (with_reducible exact Ext.refl _) | (with_reducible assumption) | (with_reducible refine Chg.alloc ?_ _) | (with_reducible refine Chg.drew ?_) | (with_reducible refine Chg.drewN ?_ _) | (with_reducible refine Chg.setCell ?_ ?_ _) | (with_reducible refine Ext.alloc ?_ _) | (with_reducible refine Ext.drew ?_) | (with_reducible refine Ext.drewN ?_ _) | (with_reducible refine Ext.setCell ?_ ?_ _) | (simp; done) | (simp; omega) | omega)
 ·rw [if_neg hb] at hbits
  have hx : decide ((16 : Int) < (l.length : Int) / 3) = false := by simpa using hb
  go_enter Tryz.func22, Tryz.ntmps22
  go_wp2
  go_loopw [7, 8] (fun s i wr => ∃ b : Nat, b ≤ bitsOf l ∧ i = .int .i64 b ∧ wr.ownsRow (w.heap.size + 1) 5 1 s (3 * b) (((List.range (3 * b)).map (cellOf l sound)).map (Value.int .u8)) ∧ Ext (w.alloc (.cells #[.slice none 0 0] 49)) wr) (fun _ i _ => 16 - (intOf i).toNat)
  case atStart => exact ⟨0, Nat.zero_le _, rfl, World.ownsRow_nil _ _ _ _, Ext.refl _⟩
  case round =>
   obtain ⟨b, hb, rfl, hown, hE⟩ := hrel
   have HO := hide (And.intro hown hE)
   clear hown hE
   by_cases hlt : b < bitsOf l
   ·have hlt2 : (b : Int) < ((l.length:Int)/3) := by omega
    go_wp2
    go_loop [9, 10] (fun n i => ∃ k : Nat, k ≤ 3 ∧ i = .int .i64 k ∧ n = .int .i64 (jY l b k)) (fun _ i => 3 - (intOf i).toNat)
    case atStart => exact ⟨0, by omega, rfl, rfl⟩
    case round =>
     obtain ⟨k, hk, rfl, rfl⟩ := hrel
     by_cases hk3 : k < 3
     ·have hj := aEm hlt hk3
      obtain ⟨b1, o, c', u, hv, _, _, hbw, hu, hc1⟩ := ((aA HL).ext ((Chg.alloc (Ext.refl w) _ : Ext w (w.alloc (.cells #[.slice none 0 0] 49))).trans (aA HO).2)).at1 hj
      cases hv
      rw [List.getElem?_map, zH hj] at hu
      cases hu
      have hg := h8 _ (List.getElem_mem hj)
      obtain ⟨hg0, hg1⟩ := hg
      have HS := hide (show jY l b (k + 1) = jY l b k + (if l[3 * b + k] % 4 = 3 then 1 else 0) by rw [jY, zG, zH hj]; rfl)
      have hle := uN l b k
      have hj0 : (0 : Int) ≤ 3 * (b : Int) + (k : Int) := by omega
      have hj1 : 3 * (b : Int) + (k : Int) < (l.length : Int) := by omega
      have hj2 : (3 * (b : Int) + (k : Int)).toNat = 3 * b + k := by omega
      have hi64 : IntKind.i64.wrap (3 * (b : Int)) = 3 * (b : Int) := IntWalk.i64_in _ (by omega)
      have hi65 : IntKind.i64.wrap (3 * (b : Int) + (k : Int)) = 3 * (b : Int) + (k : Int) := IntWalk.i64_in _ (by omega)
      generalize jY l b k = n0 at *
      generalize l[3 * b + k] = x at *
      by_cases hx : x % 4 = 3
      ·have hx' : (x % 4 == 3) = true := by simp [hx]
       have HX := hide hx
       clear hx
       go_wp2
       go_round
       case rel => exact ⟨k + 1, by omega, by go_num, int_eq (by rw [aA HS, if_pos (aA HX)]; rfl)⟩
       case measure => simp [intOf]; omega
      ·have hx' : (x % 4 == 3) = false := by simp [hx]
       have HX := hide hx
       clear hx
       go_wp2
       go_round
       case rel => exact ⟨k + 1, by omega, by go_num, int_eq (by rw [aA HS, if_neg (aA HX)]; rfl)⟩
       case measure => simp [intOf]; omega
     ·obtain rfl : k = 3 := by omega
      go_wp2
      go_loopw [7, 11] (fun s i wq => ∃ k : Nat, k ≤ 3 ∧ i = .int .i64 k ∧ wq.ownsRow (w.heap.size + 1) 5 1 s (3 * b + k) (((List.range (3 * b + k)).map (cellOf l sound)).map (Value.int .u8)) ∧ Ext (w.alloc (.cells #[.slice none 0 0] 49)) wq) (fun _ i _ => 3 - (intOf i).toNat)
      case atStart => exact ⟨0, by omega, rfl, (aA HO).1, (aA HO).2⟩
      case round =>
       obtain ⟨k, hk, rfl, hown, hE⟩ := hrel
       have HP := hide (And.intro hown hE)
       clear hown hE
       by_cases hk3 : k < 3
       ·have hj := aEm hlt hk3
        obtain ⟨b1, o, c', u, hv, _, _, hbw, hu, hc1⟩ := ((aA HL).ext ((Chg.alloc (Ext.refl w) _ : Ext w (w.alloc (.cells #[.slice none 0 0] 49))).trans (aA HP).2)).at1 hj
        cases hv
        rw [List.getElem?_map, zH hj] at hu
        cases hu
        have hg := h8 _ (List.getElem_mem hj)
        obtain ⟨hg0, hg1⟩ := hg
        have HS := hide (show cellOf l sound (3 * b + k) = if sound = true ∧ 1 < jY l b 3 then 0 else l[3 * b + k] % 4 by unfold cellOf; rw [show (3 * b + k) / 3 = b from by omega, zG, zH hj]; rfl)
        have hle := uN l b 3
        have hj0 : (0 : Int) ≤ 3 * (b : Int) + (k : Int) := by omega
        have hj1 : 3 * (b : Int) + (k : Int) < (l.length : Int) := by omega
        have hj2 : (3 * (b : Int) + (k : Int)).toNat = 3 * b + k := by omega
        have hi64 : IntKind.i64.wrap (3 * (b : Int)) = 3 * (b : Int) := IntWalk.i64_in _ (by omega)
        have hi65 : IntKind.i64.wrap (3 * (b : Int) + (k : Int)) = 3 * (b : Int) + (k : Int) := IntWalk.i64_in _ (by omega)
        have hsz : Hid (w.heap.size + 1 ≤ wr.heap.size) := hide (by have := (aA HP).2.size'; simpa using this)
        generalize jY l b 3 = n0 at *
        generalize l[3 * b + k] = x at *
        cases sound with
        | false =>
         have HV : Hid (cellOf l false (3 * b + k) = x % 4) := hide (by rw [aA HS, if_neg (by simp)])
         go_wp2_with (at_builtin; refine aU rfl rfl oV rfl (aQ (aA HP).1 ((Ext.refl _).alloc _)) rfl (Reads.new1 _ _ _) (bP.one rfl) (by omega) (Nat.le_trans (aA hsz) (by simp)) ?_; intro A' c' w2 ho hc hv)
         have HQ := hide (And.intro ho (((aA HP).2.alloc _).trans' hc (fun _ _ h => h) (fun i hi hi' => absurd ((aA HP).1.lt i hi').1 (by simp only [World.size_alloc] at hi; omega))))
         clear ho hc hv
         go_wp2
         go_roundw
         case rel => exact ⟨k + 1, by omega, by go_num, by rw [show 3 * b + (k + 1) = 3 * b + k + 1 from rfl, lT, List.map_append, aA HV]; exact (aA HQ).1, (aA HQ).2⟩
         case measure => simp [intOf]; omega
        | true =>
         by_cases hn1 : 1 < n0
         ·have HV : Hid (cellOf l true (3 * b + k) = 0) := hide (by rw [aA HS, if_pos ⟨rfl, hn1⟩])
          have hn2 : (1 : Int) < (n0 : Int) := by omega
          go_wp2_with (at_builtin; refine aU rfl rfl oV rfl (aQ (aA HP).1 ((Ext.refl _).alloc _)) rfl (Reads.new1 _ _ _) (bP.one rfl) (by omega) (Nat.le_trans (aA hsz) (by simp)) ?_; intro A' c' w2 ho hc hv)
          have HQ := hide (And.intro ho (((aA HP).2.alloc _).trans' hc (fun _ _ h => h) (fun i hi hi' => absurd ((aA HP).1.lt i hi').1 (by simp only [World.size_alloc] at hi; omega))))
          clear ho hc hv
          go_wp2
          go_roundw
          case rel => exact ⟨k + 1, by omega, by go_num, by rw [show 3 * b + (k + 1) = 3 * b + k + 1 from rfl, lT, List.map_append, aA HV]; exact (aA HQ).1, (aA HQ).2⟩
          case measure => simp [intOf]; omega
         ·have HV : Hid (cellOf l true (3 * b + k) = x % 4) := hide (by rw [aA HS, if_neg (fun h => hn1 h.2)])
          have hn2 : ¬ (1 : Int) < (n0 : Int) := by omega
          go_wp2_with (at_builtin; refine aU rfl rfl oV rfl (aQ (aA HP).1 ((Ext.refl _).alloc _)) rfl (Reads.new1 _ _ _) (bP.one rfl) (by omega) (Nat.le_trans (aA hsz) (by simp)) ?_; intro A' c' w2 ho hc hv)
          have HQ := hide (And.intro ho (((aA HP).2.alloc _).trans' hc (fun _ _ h => h) (fun i hi hi' => absurd ((aA HP).1.lt i hi').1 (by simp only [World.size_alloc] at hi; omega))))
          clear ho hc hv
          go_wp2
          go_roundw
          case rel => exact ⟨k + 1, by omega, by go_num, by rw [show 3 * b + (k + 1) = 3 * b + k + 1 from rfl, lT, List.map_append, aA HV]; exact (aA HQ).1, (aA HQ).2⟩
          case measure => simp [intOf]; omega
       ·obtain rfl : k = 3 := by omega
        go_wp2
        go_roundw
        case rel => exact ⟨b + 1, by omega, by go_num, (aA HP).1, (aA HP).2⟩
        case measure => simp [intOf]; omega
   ·obtain rfl : b = bitsOf l := by omega
    have hlt2 : ¬ ((bitsOf l : Nat) : Int) < ((l.length:Int)/3) := by omega
    have HB := hide hbits
    clear hbits
    have hF := (Blk.new w 49 #[.slice none 0 0]).ext (aA HO).2
    obtain ⟨f0, ff, fl⟩ := hF.cells1
    obtain ⟨A1, c1, rfl⟩ := iO (aA HO).1
    go_wp2
    refine bodyPost_ret (v := .tuple #[.agg #[.slice (some ⟨wr.heap.size, 0, none⟩) 1 1], .int .i64 (((l.length:Int)/3))]) (by simp [results, Tryz.results22, go_sem, f0, fl]) rfl ⟨_, by rw [aA HB], dV.lower (aHc (l := cellsOf l sound) (by simp [cellsOf]) (aA HO).1 fl (Nat.lt_succ_self _) (by simpa using (aA HO).2.size')) (Nat.le_succ _), ?_⟩
    have hE := Ext.trans (Chg.alloc (Ext.refl w) _ : Ext w (w.alloc (.cells #[.slice none 0 0] 49))) (aA HO).2
    repeat' (first | (with_reducible exact Chg.refl _ _) | (with_reducible exact Ext.refl _) | (with_reducible assumption) | (with_reducible refine Chg.alloc ?_ _) | (with_reducible refine Chg.drew ?_) | (with_reducible refine Chg.drewN ?_ _) | (with_reducible refine Chg.setCell ?_ ?_ _) | (with_reducible refine Ext.alloc ?_ _) | (with_reducible refine Ext.drew ?_) | (with_reducible refine Ext.drewN ?_ _) | (with_reducible refine Ext.setCell ?_ ?_ _) | (simp; done) | (simp; omega) | omega)
def lJ (l : List Int) (sound : Bool) : List Int := cellsOf l sound ++ List.replicate (48 - 3 * bitsOf l) 0
theorem cellsOf_length (l : List Int) (sound : Bool) : (cellsOf l sound).length = 3 * bitsOf l := by simp [cellsOf]
theorem aHq (l : List Int) : bitsOf l ≤ 16 := Nat.min_le_right _ _
theorem mJ (l : List Int) (sound : Bool) : (lJ l sound).length = 48 := by
 have := aHq l
 simp [lJ, cellsOf_length]
 omega
def sliceLen : Value → Nat
 | .slice _ n _ => n
 | _ => 0
def rE (fv : Value) : Array Value := #[fv, .slice none 0 0, .int .u8 0, .int .u8 0, .int .u8 0, .int .u8 0, .int .u8 0, .int .u8 0, .int .u8 0, .int .u8 0, .int .u8 0, .int .u8 0, .int .u8 0, .int .u8 0, .int .u8 0, .int .u8 0, .int .u8 0, .int .u8 0]
theorem aJt (b : Option Addr) (n c : Nat) : (rE (.slice b n c)).all (·.oneCell') = true := by simp [rE, Value.oneCell']
theorem own_lit (w : World) (cs : List Value) (B : Nat) (hb : B ≤ w.heap.size) (hm : cs.length ≤ maxLen) : (w.alloc (.cells cs.toArray 40)).ownsRow B 40 1 (.slice (some ⟨w.heap.size, 0, none⟩) cs.length cs.length) cs.length cs :=
 ⟨by simp, .inr ⟨w.heap.size, cs.length, cs.toArray, rfl, hb, heap_alloc_new w _, Nat.le_refl _, hm, by simp, by simp⟩⟩
theorem aOh (w : World) (o : Obj) (e : TypeId) (size : Nat) : ((w.alloc o).alloc (.cells #[] e)).ownsRow w.heap.size e size (.slice (some ⟨w.heap.size + 1, 0, none⟩) 0 0) 0 [] := by
 have h := vG (w.alloc o) w.heap.size e size (by rw [World.size_alloc]; exact Nat.le_succ _)
 rw [World.size_alloc] at h
 exact h
theorem aPo (l : List Int) (lv : Value) (sound : Bool) (w : World) (hl : Reads w 1 lv l.length (l.map (Value.int .u8))) (h8 : ∀ x ∈ l, isU8 x) :
    Calls Tryz.prog 10 #[lv, .bool sound] w fun e w' =>
      ∃ fv, e = .returned (.agg (rE fv)) ∧ dV w.heap.size w' fv [[], [], lJ l sound, []] ∧ Ext w w' := by
  have HL := hide hl
  obtain ⟨_, A, c, rfl, _⟩ := hl
  go_enter Tryz.func10, Tryz.ntmps10
  go_wp2_with fail
  refine (aVu l _ sound _ ((aA HL).ext (Chg.alloc (Ext.refl w) _)) h8).mono ?_
  rintro e w1 ⟨fv, rfl, hF, hE⟩
  have hB4 := (Blk.new w 54 (rE (.slice none 0 0))).ext hE
  have hsz := hE.size'
  simp only [World.size_alloc] at hsz
  obtain ⟨b, o, c', bv, rfl, hbw, hcell, hr⟩ := hF.fuses.at_ (show 0 < [cellsOf l sound].length from by simp)
  have hr' : Reads w1 1 bv (cellsOf l sound).length ((cellsOf l sound).map (Value.int .u8)) := hr
  have HR := hide (And.intro hB4 (And.intro hr' ((Chg.alloc (Ext.refl w) _ : Ext w (w.alloc (.cells (rE (.slice none 0 0)) 54))).trans hE)))
  have hlen : (cellsOf l sound).length = 3 * bitsOf l := cellsOf_length l sound
  have hb16 := aHq l
  clear hE hF hr hr' hB4
  have HS := hide hsz
  have hcell : w1.cell? ⟨b, o, none⟩ = some bv := by simpa using hcell
  go_wp2_with (at_builtin; refine aU rfl rfl oV (n := 0) (xs := []) rfl (aOh _ _ _ _) rfl (((aA HR).2.1.ext (Chg.alloc (Ext.refl _) _)).ext (Chg.alloc (Ext.refl _) _)) (bP.map (fun _ => rfl) _) (by omega) (by rw [World.size_alloc, World.size_alloc]; exact Nat.le_add_right _ 2) ?_; intro A' c2 w2 ho hc hv)
  have hE2 : Ext w1 w2 := (Chg.alloc (Chg.alloc (Ext.refl w1) _) _).trans' hc (fun _ _ h => h) (fun i hi e => by have e' : some (w1.heap.size + 1) = some i := e; injection e'; omega)
  simp only [Nat.zero_add, List.nil_append] at ho ⊢
  have HO := hide (And.intro ho hE2)
  clear ho hE2 hc hv
  go_loopw [7] (fun s wr => ∃ k : Nat, 3 * bitsOf l ≤ k ∧ k ≤ 48 ∧ wr.ownsRow w1.heap.size 5 1 s k ((cellsOf l sound ++ List.replicate (k - 3 * bitsOf l) 0).map (Value.int .u8)) ∧ Ext w1 wr) (fun s _ => 48 - sliceLen s)
  case atStart => exact ⟨3 * bitsOf l, Nat.le_refl _, by omega, by rw [Nat.sub_self, List.replicate_zero, List.append_nil]; have := (aA HO).1; rwa [cellsOf_length] at this, (aA HO).2⟩
  case round =>
    obtain ⟨k, hk0, hk, hown, hE⟩ := hrel
    have HP := hide (And.intro hown hE)
    obtain ⟨A3, c3, rfl⟩ := iO hown
    clear hown hE
    by_cases hlt : k < 48
    · have hlt2 : (k : Int) < 48 := by omega
      have hsz2 : w1.heap.size ≤ wr.heap.size := (aA HP).2.size'
      go_wp2_with (at_builtin; refine aU rfl rfl oV (n := k) rfl (aQ (aA HP).1 ((Ext.refl _).alloc _)) rfl (Reads.new1 _ _ _) (bP.one rfl) (by omega) (Nat.le_trans hsz2 (by rw [World.size_alloc]; exact Nat.le_succ _)) ?_; intro A4 c4 w4 ho hc hv)
      have HQ := hide (And.intro ho (((aA HP).2.alloc _).trans' hc (fun _ _ h => h) (fun i hi hi' => absurd ((aA HP).1.lt i hi').1 (by omega))))
      clear ho hc hv
      go_wp2
      go_roundw
      case rel => exact ⟨k + 1, by omega, by omega, by rw [show k + 1 - 3 * bitsOf l = (k - 3 * bitsOf l) + 1 from by omega, List.replicate_succ', ← List.append_assoc, List.map_append]; exact (aA HQ).1, (aA HQ).2⟩
      case measure => simp [sliceLen]; omega
    · obtain rfl : k = 48 := by omega
      have hb16' : decide ((16 : Int) < (bitsOf l : Int)) = false := by simp; omega
      have hlt3 : ¬ ((48 : Nat) : Int) < 48 := by omega
      have hBw := (aA HR).1.ext (aA HP).2
      have hBl := hBw.lt
      go_wp2_with (first
        | ((with_reducible show wpList _ _ _ [_] _ _)
           refine aH (ty := 54) (t := 54) (old := rE (.slice none 0 0)) (x := .tmp 4) (y := .tmp 33) (cs := rE (.slice (some ⟨wr.heap.size, 0, none⟩) 4 4)) rfl rfl jW rfl rfl (hBw.alloc _) rfl rfl (aJt _ _ _) ?_
           intro wa hb9 hca hsa))
      refine bodyPost_ret (v := .agg (rE (.slice (some ⟨wr.heap.size, 0, none⟩) 4 4))) (aX jW rfl hb9 rfl rfl) rfl ⟨_, rfl, ?_, ?_⟩
      · have ho := (aA HP).1
        have hl := ho.lt
        refine ⟨w1.heap.size, [.slice none 0 0, .slice none 0 0, .slice A3 48 c3, .slice none 0 0], by omega, dB (own_lit wr [.slice none 0 0, .slice none 0 0, .slice A3 48 c3, .slice none 0 0] _ (aA HP).2.size' (show 4 ≤ maxLen by decide)) hca (fun j hj e => by have hj' : some wr.heap.size = some j := hj; injection hj'; omega), rfl, fun k bv x h1 h2 => ?_, fun i j bi bj g h1 h2 hij h3 h4 => ?_⟩
        · match k, h1, h2 with
          | 0, h1, h2 => cases h1; cases h2; exact World.ownsRow_nil _ _ _ _
          | 1, h1, h2 => cases h1; cases h2; exact World.ownsRow_nil _ _ _ _
          | 2, h1, h2 =>
            cases h1
            cases h2
            rw [mJ]
            exact dB (aQ ho (Chg.alloc (Ext.refl _) _)) hca (fun j hj e => by have := (hl j hj).1; omega)
          | 3, h1, h2 => cases h1; cases h2; exact World.ownsRow_nil _ _ _ _
          | k + 4, h1, h2 => cases h1
        · have hi : i = 2 := by
            match i, h1 with
            | 0, h1 => cases h1; cases h3
            | 1, h1 => cases h1; cases h3
            | 2, h1 => rfl
            | 3, h1 => cases h1; cases h3
            | i + 4, h1 => cases h1
          have hj : j = 2 := by
            match j, h2 with
            | 0, h2 => cases h2; cases h4
            | 1, h2 => cases h2; cases h4
            | 2, h2 => rfl
            | 3, h2 => cases h2; cases h4
            | j + 4, h2 => cases h2
          exact hij (hi.trans hj.symm)
      · exact ((aA HR).2.2.trans ((aA HP).2.alloc _)).trans' hca (fun _ _ h => h) (fun i hi e => by omega)
end Go.Proofs.YtihghljfmlbfhaaGreatDoor
namespace Go.Proofs.YtihghljfmlbfhaaGreatDoor.Pv
open Go.RowKit
def byOf : PC → Option (Prop × List UInt8)
 | .sl 1 n f => some (aAr n f, rowB n f)
 | .lit (.slice none 0 0) => some (True, [])
 | _ => none
theorem aVy {C : Ctx} {c : PC} {xs : List Value} {p : Prop} {l : List UInt8} (h : byOf c = some (p, l)) (hp : p) (hr : R C c xs) : R C (.sl 1 l.length (byF l)) xs := by
 unfold byOf at h
 split at h
 ·rename_i n f
  cases h
  have hl : (rowB n f).length = n := by simp [rowB]
  rw [hl]
  exact hr.sl_ext (fun j hj => aVz hp j hj)
 ·cases h
  cases hr
  exact .sl (Reads.nil _ _) (fun g hg => by cases hg) (fun i hi => absurd hi (Nat.not_lt_zero i))
 ·cases h
theorem u8F_int (l : List UInt8) : (List.range l.length).map (fun j => u8Of (byF l j)) = intB l := by
 apply List.ext_getElem (by simp [intB])
 intro i h1 h2
 simp only [List.getElem_map, List.getElem_range, intB, byF, u8Of]
 have hi : i < l.length := by simpa [intB] using h2
 rw [zG, zH hi]
 rfl
theorem by_reads {C : Ctx} {v : Value} {l : List UInt8} (h : R C (.sl 1 l.length (byF l)) [v]) : Reads C.w 1 v (intB l).length ((intB l).map (Value.int .u8)) := by
 have := aCp h (fun j hj => rfl)
 rwa [u8F_int] at this
theorem intB_u8 (l : List UInt8) : ∀ x ∈ intB l, isU8 x := by
 intro x hx
 obtain ⟨b, _, rfl⟩ := List.mem_map.1 hx
 have := b.toNat_lt
 exact ⟨by omega, by omega⟩
def devPC (l : List UInt8) (s : Bool) : PV := .w (.agg (hwPC (bk4 (lJ (intB l) s)) z16s))
def devG : List PV → Option (Prop × PV)
 | [.w (.one c), .w (.one (.lit (.bool s)))] => (match byOf c with
  | some (p, l) => some (p, devPC l s)
  | none => none)
 | _ => none
theorem aMe : SpecOk Tryz.prog ShaMem 10 (bD true devG) := by
 refine bM (aF Tryz.func10 (by kernel_rfl) rfl) (fun xs p r hg hp w ok0 vs hI hv => ?_)
 unfold devG at hg
 split at hg
 ·rename_i c s
  cases hq : byOf c with
  | none => rw [hq] at hg; cases hg
  | some q =>
   obtain ⟨p', l⟩ := q
   rw [hq] at hg
   cases hg
   match vs, hv with
   | [v1, v2], ⟨k1, k2, _⟩ =>
    obtain rfl := k2.lit_inv
    refine (aPo (intB l) v1 s w (by_reads (aVy hq hp k1.inv)) (intB_u8 l)).mono ?_
    rintro e w' ⟨fv, rfl, hN, hE⟩
    refine ⟨_, rfl, hE, .w (.agg ?_)⟩
    exact hw_rl (b := bk4 (lJ (intB l) s)) (r := z16s) (aAb (ok := fun b => (true = false ∧ ok0 b) ∨ w.heap.size ≤ b) hN (fun b hb => .inr hb)) rfl
 ·cases hg
def runG : List PV → Option (Prop × PV)
 | [.w (.agg [.sl 1 n f, .lit (.slice none 0 0), .bs 16 z]), .w (.agg [.bs 16 seed]), .w (.one (.lit (.int .i64 h))), .w (.agg [.bs 16 m]), .w (.one c)] => (match byOf c with
  | some (p, F) => some (p ∧ gW n f ∧ bJ n f = bk4 ((bJ n f).getD 2 []) ∧ ((bJ n f).getD 2 []).length = 48 ∧ z = z16s ∧ i64P h, runPV (runS seed m h F ((bJ n f).getD 2 [])))
  | none => none)
 | _ => none
theorem aKx : SpecOk Tryz.prog ShaMem 13 (bD false runG) := by
 refine bM (aF Tryz.func13 (by kernel_rfl) rfl) (fun xs p r hg hp w ok0 vs hI hv => ?_)
 unfold runG at hg
 split at hg
 ·rename_i n f z seed h m c
  cases hq : byOf c with
  | none => rw [hq] at hg; cases hg
  | some q =>
   obtain ⟨p', F⟩ := q
   rw [hq] at hg
   cases hg
   obtain ⟨h1, h2, h3, h4, rfl, h6⟩ := hp
   match vs, hv with
   | [v1, v2, v3, v4, v5], ⟨k1, k2, k3, k4, k5, _⟩ =>
    refine run_fun seed m h h6 F _ h4 w ok0 [v1, v2, v3, v4, v5] hI ⟨?_, k2, k3, k4, .w (.one (aVy hq h1 k5.inv)), trivial⟩
    rw [← h3]
    obtain ⟨fv, rfl, hf, hr16⟩ := aLo k1
    exact .w (.agg (hw_rl (mM h2 hf) hr16))
 ·cases hg
def eqdSt (x y : List (List UInt8)) (k : Nat) : St := ⟨[(0, none, pv1 (.sl 16 x.length (digF x))), (1, none, pv1 (.sl 16 y.length (digF y))), (5, none, pvI k)], []⟩
theorem aUx (x y : List (List UInt8)) (hl : x.length < 9223372036854775807) : iW Tryz.prog ShaMem 37 true [pv1 (.sl 16 x.length (digF x)), pv1 (.sl 16 y.length (digF y))] (pvB (x == y)) := by
 have M := noM (I := ShaMem)
 refine eF Tryz.func37 rfl rfl fJ (fun A hS hn hI => ?_)
 refine aB M hI hn (by rfl) (by kernel_rfl) ?_ ?_
 ·simp
 refine aI ?_
 refine aB M hI hn (by rfl) (by kernel_rfl) ?_ ?_
 ·simp
 refine aJ (by rfl) (fun hc => ?_) (fun hc => ?_)
 ·refine aB M hI hn (by rfl) (by kernel_rfl) ?_ ?_
  ·simp
  refine bC (fun a w hg => ⟨.inr rfl, _, ?_, hg⟩)
  refine aK (by rfl) (by simp) (by rfl) (by rfl) ?_
  have hne : ¬ x = y := fun e => by subst e; simp at hc
  rw [beq_eq_false_iff_ne.2 hne]
 ·have hlen : x.length = y.length := by
   have : (x.length : Int) = y.length := by simpa using hc
   omega
  refine aN ?_
  change Tri _ _ _ _ _
  refine aI ?_
  refine aB M hI hn (by rfl) (by kernel_rfl) ?_ ?_
  ·simp
  refine bI ?_
  refine aV (s' := eqdSt x y 0) (fun a w hg => (hg.reset (kT := [0, 1, 5]) (kO := []) (by rfl) (by simp)).same ?_ ?_) ?_
  ·exact .cons rfl (.cons rfl (.cons rfl .nil))
  ·exact .nil
  refine fV x.length (fun k t => t = eqdSt x y k ∧ ∀ i, i < k → x.getD i [] = y.getD i []) 0 ⟨rfl, fun i hi => by omega⟩ (by omega) (fun k t hJ hk => ?_)
  obtain ⟨rfl, hJ⟩ := hJ
  refine aI ?_
  refine aB M hI hn (by rfl) (by kernel_rfl) ?_ ?_
  ·simp
  refine aJ (by rfl) (fun hc => ?_) (fun hc => ?_)
  ·have hk2 : k < x.length := by simpa using hc
   refine aN ?_
   change Tri _ _ _ _ _
   refine aI ?_
   refine bI ?_
   refine aB M hI hn (by rfl) (by kernel_rfl) ?_ ?_
   ·simp
    exact ⟨hk2, by omega⟩
   refine aJ (by rfl) (fun hc => ?_) (fun hc => ?_)
   ·refine aB M hI hn (by rfl) (by kernel_rfl) ?_ ?_
    ·simp
    refine bC (fun a w hg => ⟨.inr rfl, _, ?_, hg⟩)
    refine aK (by rfl) (by simp) (by rfl) (by rfl) ?_
    have hc2 : (!(x.getD k [] == y.getD k [])) = true := hc
    have hne : ¬ x = y := fun e => by rw [e] at hc2; simp at hc2
    rw [beq_eq_false_iff_ne.2 hne]
   ·have hc2 : (!(x.getD k [] == y.getD k [])) = false := hc
    have hk3 : x.getD k [] = y.getD k [] := by simpa only [Bool.not_eq_false', beq_iff_eq] using hc2
    clear hc hc2
    refine aN ?_
    change Tri _ _ _ _ _
    refine aS M hI hn (by rfl) (by kernel_rfl) ?_ ?_
    ·simp
    intro a w hg
    refine ⟨k + 1, _, by omega, by omega, ⟨rfl, fun i hi => ?_⟩, (hg.reset (kT := [0, 1, 5]) (kO := []) (by rfl) (by simp)).same ?_ ?_⟩
    ·rcases Nat.lt_or_ge i k with h | h
     ·exact hJ i h
     ·obtain rfl : i = k := by omega
      exact hk3
    ·exact .cons rfl (.cons rfl (.cons (by rw [bZ k (by omega)]) .nil))
    ·exact .nil
  ·have hkk : k = x.length := by
    have : ¬ k < x.length := by simpa using hc
    omega
   subst hkk
   have he : x = y := by
    apply List.ext_getElem hlen
    intro i h1 h2
    have := hJ i h1
    rwa [zG, zG, zH h1, zH h2] at this
   refine dZ ?_
   change Tri _ _ _ _ _
   refine aB M hI hn (by rfl) (by kernel_rfl) ?_ ?_
   ·simp
   refine bC (fun a w hg => ⟨.inr rfl, _, ?_, hg⟩)
   refine aK (by rfl) (by simp) (by rfl) (by rfl) ?_
   rw [beq_iff_eq.2 he]def spDigs5 : Spec := bD true fun xs => match xs with
 | [.w (.one c), .w (.one d)] => (match dgOf c, dgOf d with
  | some (p, x), some (q, y) => some (p ∧ q ∧ x.length < 9223372036854775807, pvB (x == y))
  | _, _ => none)
 | _ => none
theorem digs5_ok : SpecOk Tryz.prog ShaMem 37 spDigs5 := by
 refine bM (aF Tryz.func37 (by kernel_rfl) rfl) (fun xs p r hg hp => ?_)
 split at hg
 ·rename_i c d
  split at hg
  ·rename_i p1 x q y e1 e2
   cases hg
   intro w ok0 vs hI hV
   match vs, hV with
   | [u, v], ⟨k1, k2, _⟩ =>
    exact aUx x y hp.2.2 w ok0 [u, v] hI ⟨.w (.one (tY e1 hp.1 k1.inv).1), .w (.one (tY e2 hp.2.1 k2.inv).1), trivial⟩
  ·cases hg
 ·cases hg
def yP (s t : Sig) : Bool := (s.index == t.index) && (s.chain == t.chain) && (s.path == t.path)
def s5L : List (Nat × Spec) := [(37, spDigs5)]
theorem s5_ok : ∀ p ∈ s5L, SpecOk Tryz.prog ShaMem p.1 p.2 := by
 intro p hp
 simp only [s5L, List.mem_cons, List.not_mem_nil, or_false] at hp
 subst hp
 exact digs5_ok
theorem s5M : Mach Tryz.prog ShaMem (find s5L) := ⟨dD s5_ok, iE⟩
theorem aQx (s t : Sig) (h1 : s.chain.length < 9223372036854775807) (h2 : s.path.length < 9223372036854775807) : iW Tryz.prog ShaMem 21 true [.w (.agg (qF s)), .w (.agg (qF t))] (pvB (yP s t)) := by
 have M := s5M
 obtain ⟨i, c, q⟩ := s
 obtain ⟨i', c', q'⟩ := t
 refine eF Tryz.func21 rfl rfl fJ (fun A hS hn hI => ?_)
 refine aB M hI hn (by rfl) (by kernel_rfl) ?_ ?_
 ·simp
 refine aB M hI hn (by rfl) (by kernel_rfl) ?_ ?_
 ·simp
  exact ⟨fun _ => h1, fun _ _ => h2⟩
 refine bC (fun a w hg => ⟨.inr rfl, _, ?_, hg⟩)
 refine aK (by rfl) (by simp) (by rfl) (by rfl) ?_
 refine congrArg pvB ?_
 simp only [yP, aFx]
 cases (i == i') <;> cases (c == c') <;> cases (q == q') <;> rfl
def lens5 (p1 p2 p3 p4 : Prop) (l1 l2 : List (List UInt8)) : Prop := p1 ∧ p2 ∧ p3 ∧ p4 ∧ l1.length < 9223372036854775807 ∧ l2.length < 9223372036854775807
def sig5G : List PV → Option (Prop × PV)
 | [.w (.agg [.lit (.int .i64 i), c1, q1]), .w (.agg [.lit (.int .i64 j), c2, q2])] => (match dgOf c1, dgOf q1, dgOf c2, dgOf q2 with
  | some (p1, l1), some (p2, l2), some (p3, l3), some (p4, l4) => some (lens5 p1 p2 p3 p4 l1 l2, pvB (yP ⟨i, l1, l2⟩ ⟨j, l3, l4⟩))
  | _, _, _, _ => none)
 | _ => none
theorem sig_rl {C : Ctx} {i : Int} {c q : PC} {p1 p2 : Prop} {l1 l2 : List (List UInt8)} {v : Value} (h1 : dgOf c = some (p1, l1)) (h2 : dgOf q = some (p2, l2)) (hp1 : p1) (hp2 : p2) (h : RV C (.w (.agg [.lit (.int .i64 i), c, q])) v) : RV C (.w (.agg (qF ⟨i, l1, l2⟩))) v := by
 cases h with
 | w h => cases h with
  | agg h =>
   refine .w (.agg ?_)
   generalize Array.toList _ = xs at h ⊢
   cases h with
   | cons k1 h => cases h with
    | cons k2 h => cases h with
     | cons k3 h => cases h; exact .cons k1 (.cons (tY h1 hp1 k2).1 (.cons (tY h2 hp2 k3).1 .nil))
theorem aNi : SpecOk Tryz.prog ShaMem 21 (bD true sig5G) := by
 refine bM (aF Tryz.func21 (by kernel_rfl) rfl) (fun xs p r hg hp w ok0 vs hI hv => ?_)
 unfold sig5G at hg
 split at hg
 ·split at hg
  ·rename_i e1 e2 e3 e4
   cases hg
   obtain ⟨g1, g2, g3, g4, g5, g6⟩ := hp
   match vs, hv with
   | [v1, v2], ⟨k1, k2, _⟩ => exact aQx _ _ g5 g6 w ok0 [v1, v2] hI ⟨sig_rl e1 e2 g1 g2 k1, sig_rl e3 e4 g3 g4 k2, trivial⟩
  ·cases hg
 ·cases hg
def aGm (x y : Sig × Int) : Bool := yP x.1 y.1 && (x.2 == y.2)
def s6L : List (Nat × Spec) := [(21, bD true sig5G)]
theorem s6_ok : ∀ p ∈ s6L, SpecOk Tryz.prog ShaMem p.1 p.2 := by
 intro p hp
 simp only [s6L, List.mem_cons, List.not_mem_nil, or_false] at hp
 subst hp
 exact aNi
theorem s6M : Mach Tryz.prog ShaMem (find s6L) := ⟨dD s6_ok, iE⟩
theorem aNj (x y : Sig × Int) (h1 : x.1.chain.length < 9223372036854775807) (h2 : x.1.path.length < 9223372036854775807) : iW Tryz.prog ShaMem 8 true [.w (.agg (sgC x)), .w (.agg (sgC y))] (pvB (aGm x y)) := by
 have M := s6M
 obtain ⟨⟨i, c, q⟩, e⟩ := x
 obtain ⟨⟨i', c', q'⟩, e'⟩ := y
 refine eF Tryz.func8 rfl rfl fJ (fun A hS hn hI => ?_)
 refine aB M hI hn (by rfl) (by kernel_rfl) ?_ ?_
 ·simp
 refine aB M hI hn (by rfl) (by kernel_rfl) ?_ ?_
 ·simp
  refine ⟨trivial, trivial, trivial, trivial, h1, h2⟩
 refine aB M hI hn (by rfl) (by kernel_rfl) ?_ ?_
 ·simp
 refine bC (fun a w hg => ⟨.inr rfl, _, ?_, hg⟩)
 refine aK (by rfl) (by simp) (by rfl) (by rfl) ?_
 refine congrArg pvB ?_
 simp only [aGm, aFx]
 cases yP ⟨i, c, q⟩ ⟨i', c', q'⟩ <;> cases (e == e') <;> rfl
def aSj : List PV → Option (Prop × PV)
 | [.w (.agg [.lit (.int .i64 i), c1, q1, .lit (.int .i64 e)]), .w (.agg [.lit (.int .i64 j), c2, q2, .lit (.int .i64 f)])] => (match dgOf c1, dgOf q1, dgOf c2, dgOf q2 with
  | some (p1, l1), some (p2, l2), some (p3, l3), some (p4, l4) => some (lens5 p1 p2 p3 p4 l1 l2, pvB (aGm (⟨i, l1, l2⟩, e) (⟨j, l3, l4⟩, f)))
  | _, _, _, _ => none)
 | _ => none
theorem out_rl {C : Ctx} {i e : Int} {c q : PC} {p1 p2 : Prop} {l1 l2 : List (List UInt8)} {v : Value} (h1 : dgOf c = some (p1, l1)) (h2 : dgOf q = some (p2, l2)) (hp1 : p1) (hp2 : p2) (h : RV C (.w (.agg [.lit (.int .i64 i), c, q, .lit (.int .i64 e)])) v) : RV C (.w (.agg (sgC (⟨i, l1, l2⟩, e)))) v := by
 cases h with
 | w h => cases h with
  | agg h =>
   refine .w (.agg ?_)
   generalize Array.toList _ = xs at h ⊢
   cases h with
   | cons k1 h => cases h with
    | cons k2 h => cases h with
     | cons k3 h => cases h with
      | cons k4 h => cases h; exact .cons k1 (.cons (tY h1 hp1 k2).1 (.cons (tY h2 hp2 k3).1 (.cons k4 .nil)))
theorem aIf : SpecOk Tryz.prog ShaMem 8 (bD true aSj) := by
 refine bM (aF Tryz.func8 (by kernel_rfl) rfl) (fun xs p r hg hp w ok0 vs hI hv => ?_)
 unfold aSj at hg
 split at hg
 ·split at hg
  ·rename_i e1 e2 e3 e4
   cases hg
   obtain ⟨g1, g2, g3, g4, g5, g6⟩ := hp
   match vs, hv with
   | [v1, v2], ⟨k1, k2, _⟩ => exact aNj _ _ g5 g6 w ok0 [v1, v2] hI ⟨out_rl e1 e2 g1 g2 k1, out_rl e3 e4 g3 g4 k2, trivial⟩
  ·cases hg
 ·cases hg
end Go.Proofs.YtihghljfmlbfhaaGreatDoor.Pv
namespace Go.Proofs.YtihghljfmlbfhaaGreatDoor
open Go.RowKit
end Go.Proofs.YtihghljfmlbfhaaGreatDoor
namespace Go.Proofs.YtihghljfmlbfhaaGreatDoor.Pv
open Go.RowKit
def mnSt (h k : Nat) : St := ⟨[(0, none, pvI h), (3, none, pvI ((2 ^ k : Nat) : Int)), (4, none, pvI k)], []⟩
theorem many_fun (h : Nat) (hh : h ≤ 4) : iW Tryz.prog ShaMem 19 true [pvI h] (pvI ((2 ^ h : Nat) : Int)) := by
 have M := noM (I := ShaMem)
 refine eF Tryz.func19 rfl rfl fJ (fun A hS hn hI => ?_)
 refine aB M hI hn (by rfl) (by kernel_rfl) ?_ ?_
 ·simp
 refine aI ?_
 refine aB M hI hn (by rfl) (by kernel_rfl) ?_ ?_
 ·simp
 refine aJ (by rfl) (fun hc => ?_) (fun hc => ?_)
 ·have hc2 : (bif decide ((h : Int) < 0) then true else decide ((h : Int) > 4)) = true := hc
  rw [decide_eq_false (by omega), decide_eq_false (by omega)] at hc2
  cases hc2
 refine aN ?_
 change Tri _ _ _ _ _
 refine aB M hI hn (by rfl) (by kernel_rfl) ?_ ?_
 ·simp
 refine aI ?_
 refine aB M hI hn (by rfl) (by kernel_rfl) ?_ ?_
 ·simp
 refine bI ?_
 refine aV (s' := mnSt h 0) (fun a w hg => (hg.reset (kT := [0, 3, 4]) (kO := []) (by rfl) (by simp)).same ?_ ?_) ?_
 ·exact vC rfl
 ·exact .nil
 refine fV h (fun k t => t = mnSt h k) 0 rfl (by omega) (fun k t hJ hk => ?_)
 subst hJ
 refine aI ?_
 refine aB M hI hn (by rfl) (by kernel_rfl) ?_ ?_
 ·simp
 refine aJ (by rfl) (fun hc => ?_) (fun hc => ?_)
 ·have hk2 : k < h := by simpa using hc
  refine aN ?_
  change Tri _ _ _ _ _
  refine aI ?_
  refine bI ?_
  refine aS M hI hn (by rfl) (by kernel_rfl) ?_ ?_
  ·simp
  change Tri _ _ _ _ _
  refine aS M hI hn (by rfl) (by kernel_rfl) ?_ ?_
  ·simp
  intro a w hg
  refine ⟨k + 1, _, by omega, by omega, rfl, (hg.reset (kT := [0, 3, 4]) (kO := []) (by rfl) (by simp)).same ?_ ?_⟩
  ·have h16 : 2 ^ k ≤ 2 ^ 4 := Nat.pow_le_pow_right (by omega) (by omega)
   refine .cons rfl (.cons ?_ (.cons (by rw [bZ k (by omega)]) .nil))
   rw [show IntKind.i64.wrap (2 * ((2 ^ k : Nat) : Int)) = ((2 ^ (k + 1) : Nat) : Int) from by rw [IntKind.wrap_i64, Nat.pow_succ]; omega]
  ·exact .nil
 ·have hkk : k = h := by
   have : ¬ k < h := by simpa using hc
   omega
  subst hkk
  refine dZ ?_
  change Tri _ _ _ _ _
  refine aB M hI hn (by rfl) (by kernel_rfl) ?_ ?_
  ·simp
  refine bC (fun a w hg => ⟨.inr rfl, _, ?_, hg⟩)
  refine aK (by rfl) (by simp) (by rfl) (by rfl) ?_
  rfl
def manyG : List PV → Option (Prop × PV)
 | [.w (.one (.lit (.int .i64 h)))] => some (0 ≤ h ∧ h ≤ 4, pvI ((2 ^ h.toNat : Nat) : Int))
 | _ => none
theorem aSr : SpecOk Tryz.prog ShaMem 19 (bD true manyG) := by
 refine bM (aF Tryz.func19 (by kernel_rfl) rfl) (fun xs p r hg hp => ?_)
 unfold manyG at hg
 split at hg
 ·rename_i h
  cases hg
  obtain ⟨k, rfl⟩ : ∃ k : Nat, h = (k : Int) := ⟨h.toNat, by omega⟩
  rw [Int.toNat_natCast]
  exact many_fun k (by omega)
 ·cases hg
def fu9St (b : List (List Int)) (k : Nat) : St := ⟨[(2, none, pv1 (.pt 0 0 0)), (3, none, pv1 (.pt 1 0 0)), (5, none, pvI k)], [(0, none, 0, .box 49 (fuPC b)), (1, none, 0, .box 49 (fuPC b))]⟩
def fu9S2 (b : List (List Int)) (k j : Nat) : St := ⟨(6, none, pvI j) :: (fu9St b k).t, (fu9St b k).o⟩
theorem aPb (b : List (List Int)) (hb : b.length ≤ 1000) (hb2 : ∀ l ∈ b, l.length ≤ 100000) : iW Tryz.prog ShaMem 25 true [.w (.agg (fuPC b)), .w (.agg (fuPC b))] (pvB true) := by
 have M := noM (I := ShaMem)
 refine eF Tryz.func25 rfl rfl fJ (fun A hS hn hI => ?_)
 refine aB M hI hn (by rfl) (by kernel_rfl) ?_ ?_
 ·simp
 refine aI ?_
 refine aB M hI hn (by rfl) (by kernel_rfl) ?_ ?_
 ·simp
 refine aJ (by rfl) (fun hc => ?_) (fun hc => ?_)
 ·have hc2 : ((b.length : Int) != (b.length : Int)) = true := hc
  simp at hc2
 refine aN ?_
 change Tri _ _ _ _ _
 refine aI ?_
 refine aB M hI hn (by rfl) (by kernel_rfl) ?_ ?_
 ·simp
 refine bI ?_
 refine aV (s' := fu9St b 0) (fun a w hg => (hg.reset (kT := [2, 3, 5]) (kO := [0, 1]) (by rfl) (by simp)).same ?_ ?_) ?_
 ·exact vC rfl
 ·exact uZ rfl
 refine fV b.length (fun k t => t = fu9St b k) 0 rfl (by omega) (fun k t hJ hk => ?_)
 subst hJ
 refine aI ?_
 refine aB M hI hn (by rfl) (by kernel_rfl) ?_ ?_
 ·simp
 refine aJ (by rfl) (fun hc => ?_) (fun hc => ?_)
 ·have hk2 : k < b.length := by simpa using hc
  refine aN ?_
  change Tri _ _ _ _ _
  refine aI ?_
  refine bI ?_
  refine aI ?_
  have hlk : (b.getD k []).length ≤ 100000 := by
   rw [zG, zH hk2]
   exact hb2 _ (List.getElem_mem hk2)
  refine aB M hI hn (by rfl) (by kernel_rfl) ?_ ?_
  ·simp
   exact hk2
  refine aJ (by rfl) (fun hc => ?_) (fun hc => ?_)
  ·have hc2 : (((b.getD (k : Int).toNat []).length : Int) != ((b.getD (k : Int).toNat []).length : Int)) = true := hc
   simp at hc2
  refine aN ?_
  change Tri _ _ _ _ _
  refine aB M hI hn (by rfl) (by kernel_rfl) ?_ ?_
  ·simp
  refine bI ?_
  refine aV (s' := fu9S2 b k 0) (fun a w hg => (hg.reset (kT := [6, 2, 3, 5]) (kO := [0, 1]) (by rfl) (by simp)).same ?_ ?_) ?_
  ·exact vC rfl
  ·exact uZ rfl
  refine fV (b.getD k []).length (fun j t => t = fu9S2 b k j) 0 rfl (by omega) (fun j t hJ hj => ?_)
  subst hJ
  refine aI ?_
  refine aB M hI hn (by rfl) (by kernel_rfl) ?_ ?_
  ·simp
   exact hk2
  refine aJ (by rfl) (fun hc => ?_) (fun hc => ?_)
  ·have hj2 : j < (b.getD k []).length := by simpa using hc
   refine aN ?_
   change Tri _ _ _ _ _
   refine aI ?_
   refine bI ?_
   refine aB M hI hn (by rfl) (by kernel_rfl) ?_ ?_
   ·simp
    rw [zG] at hj2
    exact ⟨hk2, hj2, hk2, hj2⟩
   refine aJ (by rfl) (fun hc => ?_) (fun hc => ?_)
   ·have hc2 : ((b.getD (k : Int).toNat []).getD (j : Int).toNat 0 != (b.getD (k : Int).toNat []).getD (j : Int).toNat 0) = true := hc
    simp at hc2
   refine aN ?_
   change Tri _ _ _ _ _
   refine aS M hI hn (by rfl) (by kernel_rfl) ?_ ?_
   ·simp
   intro a w hg
   refine ⟨j + 1, _, by omega, by omega, rfl, (hg.reset (kT := [6, 2, 3, 5]) (kO := [0, 1]) (by rfl) (by simp)).same ?_ ?_⟩
   ·exact .cons (by rw [bZ j (by omega)]) (vC rfl)
   ·exact uZ rfl
  ·refine dZ ?_
   change Tri _ _ _ _ _
   refine aS M hI hn (by rfl) (by kernel_rfl) ?_ ?_
   ·simp
   intro a w hg
   refine ⟨k + 1, _, by omega, by omega, rfl, (hg.reset (kT := [2, 3, 5]) (kO := [0, 1]) (by rfl) (by simp)).same ?_ ?_⟩
   ·exact .cons rfl (.cons rfl (.cons (by rw [bZ k (by omega)]) .nil))
   ·exact uZ rfl
 ·refine dZ ?_
  change Tri _ _ _ _ _
  refine aB M hI hn (by rfl) (by kernel_rfl) ?_ ?_
  ·simp
  refine bC (fun a w hg => ⟨.inr rfl, _, ?_, hg⟩)
  refine aK (by rfl) (by simp) (by rfl) (by rfl) ?_
  rfl
def hwEq (n m : Nat) (f g : Nat → List PC) : Prop := n = m ∧ gW n f ∧ gW m g ∧ bJ n f = bJ m g ∧ n ≤ 1000 ∧ ∀ l ∈ bJ n f, l.length ≤ 100000
def fus9G : List PV → Option (Prop × PV)
 | [.w (.agg [.sl 1 n f]), .w (.agg [.sl 1 m g])] => some (hwEq n m f g, pvB true)
 | _ => none
theorem aTy : SpecOk Tryz.prog ShaMem 25 (bD true fus9G) := by
 refine bM (aF Tryz.func25 (by kernel_rfl) rfl) (fun xs p r hg hp w ok0 vs hI hv => ?_)
 unfold fus9G at hg
 split at hg
 ·rename_i n f m g
  cases hg
  obtain ⟨rfl, h1, h2, h3, h4, h5⟩ := hp
  match vs, hv with
  | [v1, v2], ⟨k1, k2, _⟩ =>
   have q2 := aAc h2 k2
   rw [← h3] at q2
   exact aPb (bJ n f) (by rw [dH]; exact h4) h5 w ok0 [v1, v2] hI ⟨aAc h1 k1, q2, trivial⟩
 ·cases hg
def s9L : List (Nat × Spec) := [(25, bD true fus9G)]
theorem s9_ok : ∀ p ∈ s9L, SpecOk Tryz.prog ShaMem p.1 p.2 := by
 intro p hp
 simp only [s9L, List.mem_cons, List.not_mem_nil, or_false] at hp
 subst hp
 exact aTy
theorem s9M : Mach Tryz.prog ShaMem (find s9L) := ⟨dD s9_ok, iE⟩
def aRn : List PV → Option (Prop × PV)
 | [.w (.agg [.bs 16 d])] => some (True, .w (.agg [.bs 16 (oM d)]))
 | _ => none
theorem aNu : SpecOk Tryz.prog ShaMem 46 (bD true aRn) := by
 refine bM (aF Tryz.func46 (by kernel_rfl) rfl) (fun xs p r hg hp w ok0 vs hI hv => ?_)
 unfold aRn at hg
 split at hg
 ·rename_i d
  cases hg
  match vs, hv with
  | [v1], ⟨k1, _⟩ =>
   obtain ⟨l1, rfl⟩ := kY k1
   refine (aGb d w l1).mono ?_
   rintro e w' ⟨rfl, hE⟩
   exact ⟨_, rfl, hE, .w (.agg (by
    have := RL.cons (C := { w := w', ok := fun b => (true = false ∧ ok0 b) ∨ w.heap.size ≤ b, env := fun _ => none }) (R.bs (n := 16) (l := oM d) (bY _ _)) RL.nil
    rw [List.append_nil] at this
    exact this))⟩
 ·cases hg
def rrecG : List PV → Option (Prop × PV)
 | [.w (.agg [.bs 16 m]), .w (.one cp)] => (match dgOf cp with
  | some (p, c) => some (p ∧ c.length = 68, .tup [.agg [.bs 16 (iR m (eU c))], .one (.lit (.int .i64 0))])
  | none => none)
 | _ => none
theorem aRf : SpecOk Tryz.prog ShaMem 28 (bD true rrecG) := by
 refine bM (aF Tryz.func28 (by kernel_rfl) rfl) (fun xs p r hg hp w ok0 vs hI hv => ?_)
 unfold rrecG at hg
 split at hg
 ·rename_i m cp
  cases hq : dgOf cp with
  | none => rw [hq] at hg; cases hg
  | some q =>
   obtain ⟨p0, c⟩ := q
   rw [hq] at hg
   cases hg
   match vs, hv with
   | [v1, v2], ⟨k1, k2, _⟩ =>
    obtain ⟨l1, rfl⟩ := kY k1
    cases k2 with
    | w k2 => cases k2 with
     | one k2 =>
      obtain ⟨v, e, hD⟩ := dgOf_ok hq hp.1 k2
      cases e
      refine (aFu m c _ w l1 hp.2 hD).mono ?_
      rintro e w' ⟨rfl, hE⟩
      exact ⟨_, rfl, hE, nT (by
       have := RL.cons (C := { w := w', ok := fun b => (true = false ∧ ok0 b) ∨ w.heap.size ≤ b, env := fun _ => none }) (R.bs (n := 16) (l := iR m (eU c)) (bY _ _)) RL.nil
       rw [List.append_nil] at this
       exact this)⟩
 ·cases hg
def v0L1 : List (Nat × Spec) := [(46, bD true aRn)]
theorem v0M1 : Mach Tryz.prog ShaMem (find v0L1) := ⟨dD (fun p hp => by
 obtain rfl := List.mem_singleton.1 hp
 exact aNu), iE⟩
theorem aVo (leaf : List UInt8) (f : Nat → List PC) : iW Tryz.prog ShaMem 53 true [pvI 1, pvI 0, .w (.agg [.bs 16 leaf]), pv1 (.sl 16 0 f)] (.tup [.agg [.bs 16 (oM leaf)], .one (.lit (.bool true))]) := by
 have M := v0M1
 refine eF Tryz.func53 rfl rfl fJ (fun A hS hn hI => ?_)
 refine aB M hI hn (by rfl) (by kernel_rfl) ?_ ?_
 ·simp
 refine aI ?_
 refine aB M hI hn (by rfl) (by kernel_rfl) ?_ ?_
 ·simp
 refine aJ (by rfl) (fun hc => ?_) (fun hc => ?_)
 ·refine aB M hI hn (by rfl) (by kernel_rfl) ?_ ?_
  ·simp
  refine bC (fun a w hg => ⟨.inr rfl, _, ?_, hg⟩)
  refine aK (by rfl) (by simp) (by rfl) (by rfl) ?_
  all_goals rfl
 ·cases hc
def aVp : List PV → Option (Prop × PV)
 | [.w (.one (.lit (.int .i64 n))), .w (.one (.lit (.int .i64 i))), .w (.agg [.bs 16 leaf]), .w (.one (.sl 16 k _))] => some (n = 1 ∧ i = 0 ∧ k = 0, .tup [.agg [.bs 16 (oM leaf)], .one (.lit (.bool true))])
 | _ => none
theorem aPt : SpecOk Tryz.prog ShaMem 53 (bD true aVp) := by
 refine bM (aF Tryz.func53 (by kernel_rfl) rfl) (fun xs p r hg hp => ?_)
 unfold aVp at hg
 split at hg
 ·cases hg
  obtain ⟨rfl, rfl, rfl⟩ := hp
  exact aVo _ _
 ·cases hg
def v0L2 : List (Nat × Spec) := [(53, bD true aVp)]
theorem v0M2 : Mach Tryz.prog ShaMem (find v0L2) := ⟨dD (fun p hp => by
 obtain rfl := List.mem_singleton.1 hp
 exact aPt), iE⟩
theorem aSn (r leaf : List UInt8) (f : Nat → List PC) (hr : oM leaf = r) : iW Tryz.prog ShaMem 29 true [.w (.agg [.bs 16 r]), pvI 1, pvI 0, .w (.agg [.bs 16 leaf]), pv1 (.sl 16 0 f)] (pvB true) := by
 have M := v0M2
 refine eF Tryz.func29 rfl rfl fJ (fun A hS hn hI => ?_)
 refine aB M hI hn (by rfl) (by kernel_rfl) ?_ ?_
 ·simp
 refine aI ?_
 refine aB M hI hn (by rfl) (by kernel_rfl) ?_ ?_
 ·simp
 refine aJ (by rfl) (fun hc => ?_) (fun hc => ?_)
 ·cases hc
 refine aN ?_
 change Tri _ _ _ _ _
 refine aB M hI hn (by rfl) (by kernel_rfl) ?_ ?_
 ·simp
 refine aB M hI hn (by rfl) (by kernel_rfl) ?_ ?_
 ·simp
 refine bC (fun a w hg => ⟨.inr rfl, _, ?_, hg⟩)
 refine aK (by rfl) (by simp) (by rfl) (by rfl) ?_
 show pvB (bif true then oM leaf == r else false) = pvB true
 rw [hr]
 simp
def aSo : List PV → Option (Prop × PV)
 | [.w (.agg [.bs 16 r]), .w (.one (.lit (.int .i64 n))), .w (.one (.lit (.int .i64 i))), .w (.agg [.bs 16 leaf]), .w (.one (.sl 16 k _))] => some (n = 1 ∧ i = 0 ∧ k = 0 ∧ oM leaf = r, pvB true)
 | _ => none
theorem aOj : SpecOk Tryz.prog ShaMem 29 (bD true aSo) := by
 refine bM (aF Tryz.func29 (by kernel_rfl) rfl) (fun xs p r hg hp => ?_)
 unfold aSo at hg
 split at hg
 ·cases hg
  obtain ⟨rfl, rfl, rfl, hr⟩ := hp
  exact aSn _ _ _ hr
 ·cases hg
def v0L3 : List (Nat × Spec) := [(29, bD true aSo), (28, bD true rrecG), (19, bD true manyG)]
theorem v0M3 : Mach Tryz.prog ShaMem (find v0L3) := ⟨dD (fun p hp => by
 simp only [v0L3, List.mem_cons, List.not_mem_nil, or_false] at hp
 rcases hp with rfl | rfl | rfl
 ·exact aOj
 ·exact aRf
 ·exact aSr), iE⟩
theorem aQy (r m : List UInt8) (c : List (List UInt8)) (f : Nat → List PC) (hc68 : c.length = 68) (hr : oM (iR m (eU c)) = r) : iW Tryz.prog ShaMem 16 true [.w (.agg [.bs 16 r]), pvI 0, .w (.agg [.bs 16 m]), .w (.agg [.lit (.int .i64 0), .sl 16 c.length (digF c), .sl 16 0 f])] (pvB true) := by
 have M := v0M3
 refine eF Tryz.func16 rfl rfl fJ (fun A hS hn hI => ?_)
 refine aB M hI hn (by rfl) (by kernel_rfl) ?_ ?_
 ·simp
 refine aI ?_
 refine aB M hI hn (by rfl) (by kernel_rfl) ?_ ?_
 ·simp
 refine aJ (by rfl) (fun hc => ?_) (fun hc => ?_)
 ·cases hc
 refine aN ?_
 change Tri _ _ _ _ _
 refine aB M hI hn (by rfl) (by kernel_rfl) ?_ ?_
 ·simp
  exact hc68
 refine aI ?_
 refine aB M hI hn (by rfl) (by kernel_rfl) ?_ ?_
 ·simp
 refine aJ (by rfl) (fun hc => ?_) (fun hc => ?_)
 ·cases hc
 refine aN ?_
 change Tri _ _ _ _ _
 refine aB M hI hn (by rfl) (by kernel_rfl) ?_ ?_
 ·simp
  exact hr
 refine bC (fun a w hg => ⟨.inr rfl, _, ?_, hg⟩)
 refine aK (by rfl) (by simp) (by rfl) (by rfl) ?_
 all_goals rfl
def ver0G : List PV → Option (Prop × PV)
 | [.w (.agg [.bs 16 r]), .w (.one (.lit (.int .i64 h))), .w (.agg [.bs 16 m]), .w (.agg [.lit (.int .i64 i), .sl 16 n f, .sl 16 k _])] => some (h = 0 ∧ i = 0 ∧ k = 0 ∧ aMp n f ∧ n = 68 ∧ oM (iR m (eU (rowD n f))) = r, pvB true)
 | _ => none
theorem aNk : SpecOk Tryz.prog ShaMem 16 (bD true ver0G) := by
 refine bM (aF Tryz.func16 (by kernel_rfl) rfl) (fun xs p r hg hp => ?_)
 unfold ver0G at hg
 split at hg
 ·rename_i rt h m i n f k g
  cases hg
  obtain ⟨rfl, rfl, rfl, hrow, hn, hr⟩ := hp
  exact (aQy rt m (rowD n f) g (by rw [oW]; exact hn) hr).args fun C vs hv => by
   match vs, hv with
   | [v1, v2, v3, v4], ⟨k1, k2, k3, k4, _⟩ =>
    refine ⟨k1, k2, k3, ?_, trivial⟩
    cases k4 with
    | w k4 => cases k4 with
     | agg k4 => exact .w (.agg (k4.map1 (fun _ h => h) (fun _ h => h.map1 (fun _ h => (tY (c := .sl 16 n f) rfl hrow h).1) (fun _ h => h))))
 ·cases hg
def zs1 : List UInt8 := 1 :: List.replicate 15 0
def zm2 : List UInt8 := 2 :: List.replicate 15 0
def zc0 : List Int := lJ [] true
theorem zc0_eq : zc0 = List.replicate 48 0 := by decide +kernel
theorem aQc : exec [] (Prg.signI 0) (List.replicate 48 0) 0 = (some (0, 0), (exec [] (Prg.signI 0) (List.replicate 48 0) 0).2.1, 12) := by kernel_rfl
theorem aMr : (exec [] (Prg.signI 0) (exec [] (Prg.signI 0) (List.replicate 48 0) 0).2.1 0).1 = some (1, 17) ∧ (exec [] (Prg.signI 0) (List.replicate 48 0) 0).2.1.length = 48 := by decide +kernel
structure zSanS (r1 r2 : RunO) (n1 : Acc × (Sig × Int) × Bool) (rt : List UInt8) : Prop where
 d1 : r1.done = true
 k1 : r1.many = 12
 e1 : r1.out.2 = 0
 i1 : r1.out.1.index = 0
 v1 : oM (iR zm2 (eU r1.out.1.chain)) = rt
 p1 : r1.out.1.path.length = 0 ∧ r1.out.1.chain.length = 68
 l1 : r1.cells.length = 48
 d2 : r2.done = true
 e2 : r2.out.2 = 17
 c2 : r2.out.1.chain.length = 0
 d3 : n1.2.2 = true
 e3 : n1.2.1.2 = 1
theorem aMq (seed m : List UInt8) (h : Int) (p : Nat × Int) : (sgO seed h m p).1.chain.length ≤ 68 ∧ (sgO seed h m p).1.path.length ≤ 16 := by
 unfold sgO
 split
 ·exact aNe _ _ _ _
 ·exact ⟨Nat.zero_le _, Nat.zero_le _⟩
theorem zsanS : zSanS (runS zs1 zm2 0 [] zc0) (runS zs1 zm2 0 [] (runS zs1 zm2 0 [] zc0).cells) (qH zs1 (List.replicate 16 0) 5 []) (sK zs1 0).1 := by
 obtain ⟨C, hC⟩ : ∃ C, (exec [] (Prg.signI 0) (List.replicate 48 0) 0).2.1 = C := ⟨_, rfl⟩
 obtain ⟨ha, hl⟩ := aMr
 have he := aQc
 rw [hC] at ha hl he
 have e1 : runS zs1 zm2 0 [] zc0 = ⟨C, (sgnT zs1 0 0 zm2), true, 12⟩ := by
  unfold runS
  rw [zc0_eq, show intB [] = [] from rfl, he]
  rfl
 obtain ⟨q, hq⟩ : ∃ q, exec [] (Prg.signI 0) C 0 = q := ⟨_, rfl⟩
 obtain ⟨q1, q2, q3⟩ := q
 rw [hq] at ha
 obtain rfl : q1 = some (1, 17) := ha
 have e2 : runS zs1 zm2 0 [] C = ⟨q2, (⟨0, [], []⟩, 17), true, q3⟩ := by
  unfold runS
  rw [show intB [] = [] from rfl, hq]
  rfl
 have e3 := sgnT_yes zs1 zm2 0 0 (by omega) (by decide)
 have hv : oM (iR zm2 (eU (sgnT zs1 0 0 zm2).1.chain)) = (sK zs1 0).1 := by
  have e4 : (sgnT zs1 0 0 zm2).1.chain = mQ zs1 0 zm2 68 := congrArg (·.1.chain) e3
  rw [e4, aDj]
  have e6 : (sK zs1 0).1 = iC (cO zs1 1) := by
   unfold sK
   rw [if_pos (by decide)]
   dsimp only
   rw [show (2 : Nat) ^ (0 : Int).toNat = 1 from rfl]
  have e7 : cO zs1 1 = [dQ zs1 0] := by
   unfold cO
   rfl
  rw [e6, e7]
  exact (yZ _).symm
 have hp : (sgnT zs1 0 0 zm2).1.path.length = 0 ∧ (sgnT zs1 0 0 zm2).1.chain.length = 68 := by
  have e4 : (sgnT zs1 0 0 zm2).1.chain = mQ zs1 0 zm2 68 := congrArg (·.1.chain) e3
  have e5 : (sgnT zs1 0 0 zm2).1.path = dI (cO zs1 1) 0 := congrArg (·.1.path) e3
  rw [e4, e5, oI _ _ (by rw [fF]; omega), wP]
  exact ⟨rfl, rfl⟩
 rw [e1, e2]
 refine ⟨rfl, rfl, ?_, ?_, hv, hp, hl, rfl, rfl, rfl, rfl, rfl⟩
 ·show (sgnT zs1 0 0 zm2).2 = 0
  exact congrArg (·.2) e3
 ·show (sgnT zs1 0 0 zm2).1.index = 0
  exact congrArg (·.1.index) e3
def zsaL : List (Nat × Spec) := [(15, bD true rootG), (10, bD true devG), (13, bD false runG), (6, bD true nextG), (16, bD true ver0G)]
theorem zsa_ok : ∀ p ∈ zsaL, SpecOk Tryz.prog ShaMem p.1 p.2 := by
 intro p hp
 simp only [zsaL, List.mem_cons, List.not_mem_nil, or_false] at hp
 rcases hp with rfl | rfl | rfl | rfl | rfl
 ·exact aIk
 ·exact aMe
 ·exact aKx
 ·exact aGo
 ·exact aNk
theorem zsaM : Mach Tryz.prog ShaMem (find zsaL) := ⟨dD zsa_ok, iE⟩
def zsaA (rt : List UInt8) (r1 : RunO) : St :=
  ⟨[(1, none, pv1 (.pt 1001 0 0)), (2, none, pv1 (.pt 2005 0 0)), (4, none, pv1 (.pt 3010 0 0)), (5, none, pv1 (.pt 3011 0 0)), (6, none, pvB r1.done), (7, none, pvI r1.many), (8, none, pvB true)],
   [(1001, none, 0, .box 23 [.bs 16 zs1]), (2005, none, 0, .box 23 [.bs 16 rt]), (3010, none, 0, .box 54 (hwPC (bk4 r1.cells) z16s)), (3011, none, 0, .box 35 (sgC r1.out))]⟩
def zsaB (rt : List UInt8) (r1 r2 : RunO) : St :=
 ⟨(10, none, pv1 (.pt 4011 0 0)) :: (11, none, pvB r2.done) :: (13, none, pvB true) :: (zsaA rt r1).t, (4011, none, 0, .box 35 (sgC r2.out)) :: (zsaA rt r1).o⟩
def zsaC (rt : List UInt8) (r1 r2 : RunO) (n1 : Acc × (Sig × Int) × Bool) : St :=
 ⟨(15, none, pv1 (.pt 5008 0 0)) :: (16, none, pvB n1.2.2) :: (zsaB rt r1 r2).t, (5008, none, 0, .box 35 (sgC n1.2.1)) :: (zsaB rt r1 r2).o⟩
theorem aMs : iW Tryz.prog ShaMem 5 true [] (pvB true) := by
 have M := zsaM
 have hq := zsanS
 refine eF Tryz.func5 rfl rfl fJ (fun A hS hn hI => ?_)
 obtain ⟨rt, hrt⟩ : ∃ r, (sK zs1 0).1 = r := ⟨_, rfl⟩
 obtain ⟨r1, h1⟩ : ∃ r, runS zs1 zm2 0 [] zc0 = r := ⟨_, rfl⟩
 rw [hrt, h1] at hq
 obtain ⟨r2, h2⟩ : ∃ r, runS zs1 zm2 0 [] r1.cells = r := ⟨_, rfl⟩
 obtain ⟨n1, h3⟩ : ∃ r, qH zs1 (List.replicate 16 0) 5 [] = r := ⟨_, rfl⟩
 rw [h2, h3] at hq
 have hrb : ∀ c, (bJ (bk4 c).length (bT (bk4 c))).getD 2 [] = c := fun c => by rw [aT]; rfl
 have hi0 : i64P 0 := by unfold i64P; decide
 have hcl : zc0.length = 48 := mJ [] true
 refine aB M hI hn (by rfl) (by kernel_rfl) ?_ ?_
 ·simp
 refine aB M hI hn (by rfl) (by kernel_rfl) ?_ ?_
 ·simp
 refine aB M hI hn (by rfl) (by kernel_rfl) ?_ ?_
 ·simp
 refine aB M hI hn (by rfl) (by kernel_rfl) ?_ ?_
 ·simp
  exact ⟨rfl, hcl, hi0⟩
 refine aV (s' := zsaA rt r1) (fun a w hg => (hg.reset (kT := [1, 2, 4, 5, 6, 7, 8]) (kO := [1001, 2005, 3010, 3011]) (by rfl) (by simp)).same ?_ ?_) ?_
 ·refine .cons rfl (.cons rfl (.cons rfl (.cons rfl (.cons ?_ (.cons ?_ (.cons rfl .nil))))))
  ·show pvB (runS zs1 zm2 0 [] ((bJ (bk4 zc0).length (bT (bk4 zc0))).getD 2 [])).done = _
   rw [hrb, h1]
  ·show pvI (runS zs1 zm2 0 [] ((bJ (bk4 zc0).length (bT (bk4 zc0))).getD 2 [])).many = _
   rw [hrb, h1]
 ·refine .cons (.box rfl) (.cons (.box ?_) (.cons (.box ?_) (.cons (.box ?_) .nil)))
  ·show [PC.bs 16 (sK zs1 0).1] = _
   rw [hrt]
  ·show hwPC (bk4 (runS zs1 zm2 0 [] ((bJ (bk4 zc0).length (bT (bk4 zc0))).getD 2 [])).cells) z16s = _
   rw [hrb, h1]
  ·show sgC (runS zs1 zm2 0 [] ((bJ (bk4 zc0).length (bT (bk4 zc0))).getD 2 [])).out = _
   rw [hrb, h1]
 refine aB M hI hn (by rfl) (by kernel_rfl) ?_ ?_
 ·simp
  exact ⟨rfl, hq.l1, hi0⟩
 refine aV (s' := zsaB rt r1 r2) (fun a w hg => (hg.reset (kT := [10, 11, 13, 1, 2, 4, 5, 6, 7, 8]) (kO := [4011, 1001, 2005, 3010, 3011]) (by rfl) (by simp)).same ?_ ?_) ?_
 ·refine .cons rfl (.cons ?_ (.cons rfl (vC rfl)))
  show pvB (runS zs1 zm2 0 [] ((bJ (bk4 r1.cells).length (bT (bk4 r1.cells))).getD 2 [])).done = _
  rw [hrb, h2]
 ·refine .cons (.box ?_) (uZ rfl)
  show sgC (runS zs1 zm2 0 [] ((bJ (bk4 r1.cells).length (bT (bk4 r1.cells))).getD 2 [])).out = _
  rw [hrb, h2]
 refine aB M hI hn (by rfl) (by kernel_rfl) ?_ ?_
 ·simp
 refine aV (s' := zsaC rt r1 r2 n1) (fun a w hg => (hg.reset (kT := [15, 16, 10, 11, 13, 1, 2, 4, 5, 6, 7, 8]) (kO := [5008, 4011, 1001, 2005, 3010, 3011]) (by rfl) (by simp)).same ?_ ?_) ?_
 ·refine .cons rfl (.cons ?_ (vC rfl))
  show pvB (qH zs1 (List.replicate 16 0) 5 []).2.2 = _
  rw [h3]
 ·refine .cons (.box ?_) (uZ rfl)
  show sgC (qH zs1 (List.replicate 16 0) 5 []).2.1 = _
  rw [h3]
 obtain ⟨q1, q2, q3, q4, q5, q6, q7, q8, q9, q10, q11, q12⟩ := hq
 obtain ⟨cl1, ⟨⟨ix1, ch1, pt1⟩, er1⟩, dn1, mn1⟩ := r1
 obtain ⟨cl2, ⟨⟨ix2, ch2, pt2⟩, er2⟩, dn2, mn2⟩ := r2
 obtain ⟨ac1, ⟨sg3, er3⟩, dn3⟩ := n1
 dsimp only at q1 q2 q3 q4 q5 q6 q7 q8 q9 q10 q11 q12
 subst q1 q2 q3 q4 q8 q9 q11 q12
 refine aB M hI hn (by rfl) (by kernel_rfl) ?_ ?_
 ·simp
  exact ⟨List.length_eq_zero_iff.1 q6.1, q6.2, q5⟩
 refine bC (fun a w hg => ⟨.inr rfl, _, ?_, hg⟩)
 refine aK (by rfl) (by simp) (by rfl) (by rfl) ?_
 refine congrArg pvB ?_
 simp [q10]
def aKm : Spec := bD true fun xs => match xs with
 | [] => some (True, pvB true)
 | _ => none
theorem aHz : SpecOk Tryz.prog ShaMem 5 aKm := by
 refine bM (aF Tryz.func5 (by kernel_rfl) rfl) (fun xs p r hg hp => ?_)
 split at hg
 ·cases hg
  exact aMs
 ·cases hg
end Go.Proofs.YtihghljfmlbfhaaGreatDoor.Pv
namespace Go.Proofs.YtihghljfmlbfhaaGreatDoor
open Go.RowKit
def fltI (t : Flt) : Int := (if t.cut then 1 else 0) + (if t.noise then 2 else 0)
theorem aUe (F : List Flt) (i : Nat) : fM (F.map fltI) i = ((bV F i).cut, (bV F i).noise) := by
 unfold fM bV
 rw [List.getElem?_map, zG]
 cases F[i]? with
 | none => rfl
 | some t =>
  obtain ⟨c, b, n⟩ := t
  cases c <;> cases n <;> rfl
def yJ (h : HwS) (c : List Int) : HwS := { h with b := h.b.set 2 c }
theorem bank2 {h : HwS} (d : Dim h) : h.b.getD 2 [] = h.b[2]'d.n := by
 rw [zG, zH d.n]
 rfl
theorem vO {h : HwS} (d : Dim h) : yJ h (h.b.getD 2 []) = h := by
 unfold yJ
 rw [bank2 d, List.set_getElem_self]
theorem aKb {h : HwS} (d : Dim h) {a : Acc} (g : sQ a) (t : Flt) (ht : t.cut = false) : (dF h a t).2.1 = ⟨aftV a (t.cut, t.noise) (h.b.getD 2 []), bF⟩ ∧ (dF h a t).1 = yJ h (aftC a (t.cut, t.noise) (h.b.getD 2 [])) := by
 have hx := d.ex g
 obtain ⟨g0, g1, g2, g3, g4⟩ := g
 unfold dF aftV aftC
 rcases g0 with g0 | g0
 ·rw [if_pos g0, if_pos g4, g1, if_pos hx, if_pos g0, if_pos g0, ht]
  refine ⟨rfl, ?_⟩
  rw [vO d]
 ·rw [if_neg (by omega), if_pos g0, if_pos g4, g1, if_pos hx, if_neg (by omega), if_neg (by omega)]
  exact ⟨rfl, rfl⟩
theorem aVd {h : HwS} (d : Dim h) {a : Acc} (g : sQ a) (t : Flt) : (dF h a t).1 = yJ h (aftC a (t.cut, t.noise) (h.b.getD 2 [])) := by
 have hx := d.ex g
 obtain ⟨g0, g1, g2, g3, g4⟩ := g
 unfold dF aftC
 rcases g0 with g0 | g0
 ·rw [if_pos g0, if_pos g4, g1, if_pos hx, if_pos g0, vO d]
 ·rw [if_neg (by omega), if_pos g0, if_pos g4, g1, if_pos hx, if_neg (by omega)]
  rfl
theorem aQi {h : HwS} (d : Dim h) (c : List Int) : (yJ h c).b.getD 2 [] = c := by
 unfold yJ
 rw [zG, List.getElem?_set_self d.n]
 rfl
theorem aQh (h : HwS) (c c' : List Int) : yJ (yJ h c) c' = yJ h c' := by
 unfold yJ
 rw [List.set_set]
theorem aPk {α : Type} (F : List Flt) (p : Prg α) : Prg.In 48 p → ∀ (h : HwS) (i : Nat), Dim h →
  gV F p h i = ((exec (F.map fltI) p (h.b.getD 2 []) i).1, yJ h (exec (F.map fltI) p (h.b.getD 2 []) i).2.1, (exec (F.map fltI) p (h.b.getD 2 []) i).2.2) ∧ Dim (gV F p h i).2.1 := by
 induction p with
 | ret a =>
  intro _ h i d
  rw [gV, exec]
  exact ⟨by rw [vO d], d⟩
 | ask a k ih =>
  intro hIn h i d
  have hg : sQ a := ⟨hIn.1, hIn.2.1, hIn.2.2.1, hIn.2.2.2.1, hIn.2.2.2.2.1⟩
  have hst := d.step hg (bV F i)
  have hcu := aVd d hg (bV F i)
  rw [gV, exec, aUe]
  by_cases hc : (bV F i).cut = true
  ·rw [if_pos hc, if_pos hc]
   exact ⟨by rw [hcu], hst⟩
  ·rw [if_neg hc, if_neg hc]
   have hce : (bV F i).cut = false := by simpa using hc
   obtain ⟨e1, e2⟩ := aKb d hg (bV F i) hce
   obtain ⟨i1, i2⟩ := ih (dF h a (bV F i)).2.1 (hIn.2.2.2.2.2 _) (dF h a (bV F i)).1 (i + 1) hst
   refine ⟨?_, i2⟩
   rw [i1, e1, e2, aQi d, aQh]
theorem aPj {α : Type} {F G : List Int} (h : ∀ i, fM F i = fM G i) (p : Prg α) : ∀ c i, exec F p c i = exec G p c i := by
 induction p with
 | ret a => intro c i; rfl
 | ask a k ih => intro c i; simp only [exec, h]; split <;> first | rfl | exact ih _ _ _
namespace Pv
def hwOf2 : List PC → Option (Prop × HwS)
 | [.sl 1 n f, .lit (.slice none 0 0), .bs 16 r] => some (gW n f, ⟨bJ n f, [], r⟩)
 | _ => none
theorem aLp {C : Ctx} {l : List PC} {p : Prop} {h : HwS} (e : hwOf2 l = some (p, h)) (hp : p) {xs : List Value} (hr : RL C l xs) : RL C (hwL h) xs := by
 unfold hwOf2 at e
 split at e
 ·rename_i n f r
  cases e
  have h2 : RL C [.sl 1 n f, .sl 1 0 (fsF []), .bs 16 r] xs := hr.map1 (fun _ h => h) (fun _ h => h.map1 (fun _ => r_nil) (fun _ h => h))
  have e2 : hwOf [.sl 1 n f, .sl 1 0 (fsF []), .bs 16 r] = some (gW n f ∧ aEu 0 (fsF []), ⟨bJ n f, [], r⟩) := rfl
  exact aDy e2 ⟨hp, aJp _ _⟩ h2
 ·cases e
theorem lrun_fun (seed m : List UInt8) (h : Int) (h0 : HwS) (F : List Flt) (hd : Dim h0) (hF : F.length ≤ 1000000) : iW Tryz.prog ShaMem 11 false [.w (.agg (hwL h0)), .w (.agg [.bs 16 seed]), pvI h, .w (.agg [.bs 16 m]), pv1 (mF F)] (aGr seed m h (gV F (Prg.signI h) h0 0)) := by
 intro w ok0 vs hI hv
 match vs, hv with
 | [v1, v2, v3, v4, v5], ⟨k1, k2, k3, k4, k5, _⟩ =>
  obtain rfl := k3.lit_inv
  cases k1 with
  | w k1 => cases k1 with
   | @agg _ c1 k1 =>
    cases k2 with
    | w k2 => cases k2 with
     | @agg _ c2 k2 =>
      cases k4 with
      | w k4 => cases k4 with
       | @agg _ c4 k4 =>
        cases k5 with
        | w k5 => cases k5 with
         | one k5 =>
          obtain ⟨c2⟩ := c2
          obtain ⟨c4⟩ := c4
          dsimp only at k2 k4
          obtain ⟨s1, rfl⟩ := k2.bs1
          obtain ⟨s2, rfl⟩ := k4.bs1
          obtain ⟨B, n, k, rfl⟩ : ∃ B n k, v5 = .slice B n k := by
           have k6 := k5
           unfold mF at k6
           cases k6 with
           | sl r _ _ =>
            obtain ⟨_, A, k, rfl, _⟩ := r
            exact ⟨_, _, _, rfl⟩
          have hf' := RL.cons k5 RL.nil
          refine (run_any seed m s1 s2 h F hF h0 hd ok0 c1 B n k w hI k1 hf').mono ?_
          rintro e w' ⟨hE, val, rfl, hval⟩
          exact ⟨val, rfl, hE, hval.le ⟨Nat.le_refl _, fun b _ hb => ⟨hb.elim (fun h => .inl ⟨rfl, h⟩) .inr, rfl⟩, fun _ _ _ h => by cases h⟩⟩
def aBy : List PV → Option (Prop × PV)
 | [.w (.agg hl), .w (.agg [.bs 16 seed]), .w (.one (.lit (.int .i64 h))), .w (.agg [.bs 16 m]), .w (.one fv)] => match hwOf2 hl, fltOf fv with
  | some (p, h0), some (p2, F) => some (p ∧ p2 ∧ Dim h0 ∧ F.length ≤ 1000000, aGr seed m h (gV F (Prg.signI h) h0 0))
  | _, _ => none
 | _ => none
theorem aOl : SpecOk Tryz.prog ShaMem 11 (bD false aBy) := by
 refine bM (aF Tryz.func11 (by kernel_rfl) rfl) (fun xs p r hg hp => ?_)
 unfold aBy at hg
 split at hg
 ·rename_i hl seed h m fv
  split at hg
  ·rename_i p1 h0 p2 F e1 e2
   cases hg
   obtain ⟨q1, q2, q3, q4⟩ := hp
   exact (lrun_fun seed m h h0 F q3 q4).args fun C vs hv => by
    match vs, hv with
    | [v1, v2, v3, v4, v5], ⟨k1, k2, k3, k4, k5, _⟩ =>
     refine ⟨?_, k2, k3, k4, ?_, trivial⟩
     ·cases k1 with
      | w k1 => cases k1 with
       | agg k1 => exact .w (.agg (aLp e1 q1 k1))
     ·cases k5 with
      | w k5 => cases k5 with
       | one k5 => exact .w (.one (aLv e2 q2 k5).2)
  ·cases hg
 ·cases hg
theorem aNp : SpecOk Tryz.prog ShaMem 12 (bD false aBy) := by
 refine bM (aF Tryz.func12 (by kernel_rfl) rfl) (fun xs p r hg hp => ?_)
 unfold aBy at hg
 split at hg
 ·rename_i hl seed h m fv
  split at hg
  ·rename_i p1 h0 p2 F e1 e2
   cases hg
   obtain ⟨q1, q2, q3, q4⟩ := hp
   exact (rrun_fun seed m h h0 F q3 q4).args fun C vs hv => by
    match vs, hv with
    | [v1, v2, v3, v4, v5], ⟨k1, k2, k3, k4, k5, _⟩ =>
     refine ⟨?_, k2, k3, k4, ?_, trivial⟩
     ·cases k1 with
      | w k1 => cases k1 with
       | agg k1 => exact .w (.agg (aLp e1 q1 k1))
     ·cases k5 with
      | w k5 => cases k5 with
       | one k5 => exact .w (.one (aLv e2 q2 k5).2)
  ·cases hg
 ·cases hg
def hwN (b : List (List Int)) : List PC := [.sl 1 b.length (bT b), .sl 1 0 (fsF []), .bs 16 z16s]
def sm9N (b : List (List Int)) : St := ⟨[(2, none, pv1 (.pt 0 0 0)), (3, none, pv1 (.pt 1 0 0)), (5, none, pvI 0)], [(0, none, 0, .box 54 (hwN b)), (1, none, 0, .box 54 (hwN b))]⟩
theorem aNh (b : List (List Int)) (hb : b.length ≤ 1000) (hb2 : ∀ l ∈ b, l.length ≤ 100000) : iW Tryz.prog ShaMem 14 true [.w (.agg (hwN b)), .w (.agg (hwN b))] (pvB true) := by
 have M := s9M
 refine eF Tryz.func14 rfl rfl fJ (fun A hS hn hI => ?_)
 refine aB M hI hn (by rfl) (by kernel_rfl) ?_ ?_
 ·simp
 refine aI ?_
 refine aB M hI hn (by rfl) (by kernel_rfl) ?_ ?_
 ·simp
 refine aJ (by rfl) (fun hc => ?_) (fun hc => ?_)
 ·cases hc
 refine aN ?_
 change Tri _ _ _ _ _
 refine aI ?_
 refine aB M hI hn (by rfl) (by kernel_rfl) ?_ ?_
 ·simp
 refine bI ?_
 refine aV (s' := sm9N b) (fun a w hg => (hg.reset (kT := [2, 3, 5]) (kO := [0, 1]) (by rfl) (by simp)).same ?_ ?_) ?_
 ·exact vC rfl
 ·exact uZ rfl
 refine fV 0 (fun k t => t = sm9N b) 0 rfl (by omega) (fun k t hJ hk => ?_)
 subst hJ
 refine aI ?_
 refine aB M hI hn (by rfl) (by kernel_rfl) ?_ ?_
 ·simp
 refine aJ (by rfl) (fun hc => ?_) (fun hc => ?_)
 ·cases hc
 refine dZ ?_
 change Tri _ _ _ _ _
 refine aB M hI hn (by rfl) (by kernel_rfl) ?_ ?_
 ·simp
  exact ⟨rfl, jV _ _, jV _ _, rfl, hb, by rw [aT]; exact hb2⟩
 refine bC (fun a w hg => ⟨.inr rfl, _, ?_, hg⟩)
 refine aK (by rfl) (by simp) (by rfl) (by rfl) ?_
 rfl
def hwNo : List PC → Option (Prop × List (List Int))
 | [.sl 1 n f, .lit (.slice none 0 0), .bs 16 z] => some (gW n f ∧ z = z16s, bJ n f)
 | [.sl 1 n f, .sl 1 m _, .bs 16 z] => some (gW n f ∧ z = z16s ∧ m = 0, bJ n f)
 | _ => none
theorem aTs {C : Ctx} {l : List PC} {p : Prop} {b : List (List Int)} (e : hwNo l = some (p, b)) (hp : p) {v : Value} (hr : RV C (.w (.agg l)) v) : RV C (.w (.agg (hwN b))) v := by
 cases hr with
 | w hr => cases hr with
  | agg hr =>
   refine .w (.agg ?_)
   unfold hwNo at e
   split at e
   ·rename_i n f z
    cases e
    obtain ⟨h1, rfl⟩ := hp
    exact hr.map1 (fun ys h => (by
     obtain ⟨v, rfl⟩ := xO h
     exact mM h1 h)) (fun _ h => h.map1 (fun _ => r_nil) (fun _ h => h))
   ·rename_i n f m g z hne
    cases e
    obtain ⟨h1, rfl, rfl⟩ := hp
    exact hr.map1 (fun ys h => (by
     obtain ⟨v, rfl⟩ := xO h
     exact mM h1 h)) (fun _ h => h.map1 (fun _ h => h.sl_ext (fun j hj => absurd hj (by omega))) (fun _ h => h))
   ·cases e
def sam9N : List PV → Option (Prop × PV)
 | [.w (.agg a), .w (.agg b)] => match hwNo a, hwNo b with
  | some (p, x), some (q, y) => some (p ∧ q ∧ x = y ∧ x.length ≤ 1000 ∧ ∀ l ∈ x, l.length ≤ 100000, pvB true)
  | _, _ => none
 | _ => none
theorem aIe : SpecOk Tryz.prog ShaMem 14 (bD true sam9N) := by
 refine bM (aF Tryz.func14 (by kernel_rfl) rfl) (fun xs p r hg hp => ?_)
 unfold sam9N at hg
 split at hg
 ·split at hg
  ·rename_i e1 e2
   cases hg
   obtain ⟨h1, h2, rfl, h3, h4⟩ := hp
   exact (aNh _ h3 h4).args fun C vs hv => by
    match vs, hv with
    | [v1, v2], ⟨k1, k2, _⟩ => exact ⟨aTs e1 h1 k1, aTs e2 h2 k2, trivial⟩
  ·cases hg
 ·cases hg
end Pv
end Go.Proofs.YtihghljfmlbfhaaGreatDoor
