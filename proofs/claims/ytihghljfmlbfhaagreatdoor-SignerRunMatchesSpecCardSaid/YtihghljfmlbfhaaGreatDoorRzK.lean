/-
  Several texts in one file: each has its own heading below.
-/
import Derived.Test.YtihghljfmlbfhaaGreatDoorRzI
import Derived.Test.YtihghljfmlbfhaaGreatDoorRzJ
import Derived.Deep.DeepCutAuto
import Derived.Deep.RegionHeld3
import Derived.Great.BuildSlice
set_option maxRecDepth 100000
set_option maxHeartbeats 4000000
namespace Go.Proofs.YtihghljfmlbfhaaGreatDoor
open Go.RowKit
def aDz : ByteArray := { data := #[54, 97, 48, 57, 101, 54, 54, 55, 98, 98, 54, 55, 97, 101, 56, 53, 51, 99, 54, 101, 102, 51, 55, 50, 97, 53, 52, 102, 102, 53, 51, 97, 53, 49, 48, 101, 53, 50, 55, 102, 57, 98, 48, 53, 54, 56, 56, 99, 49, 102, 56, 51, 100, 57, 97, 98, 53, 98, 101, 48, 99, 100, 49, 57] }
def aAa : ByteArray := { data := ((([52, 50, 56, 97, 50, 102, 57, 56, 55, 49, 51, 55, 52, 52, 57, 49, 98, 53, 99, 48, 102, 98, 99, 102, 101, 57, 98, 53, 100, 98, 97, 53, 51, 57, 53, 54, 99, 50, 53, 98, 53, 57, 102, 49, 49, 49, 102, 49, 57, 50, 51, 102, 56, 50, 97, 52, 97, 98, 49, 99, 53, 101, 100, 53].append [100, 56, 48, 55, 97, 97, 57, 56, 49, 50, 56, 51, 53, 98, 48, 49, 50, 52, 51, 49, 56, 53, 98, 101, 53, 53, 48, 99, 55, 100, 99, 51, 55, 50, 98, 101, 53, 100, 55, 52, 56, 48, 100, 101, 98, 49, 102, 101, 57, 98, 100, 99, 48, 54, 97, 55, 99, 49, 57, 98, 102, 49, 55, 52]).append ([101, 52, 57, 98, 54, 57, 99, 49, 101, 102, 98, 101, 52, 55, 56, 54, 48, 102, 99, 49, 57, 100, 99, 54, 50, 52, 48, 99, 97, 49, 99, 99, 50, 100, 101, 57, 50, 99, 54, 102, 52, 97, 55, 52, 56, 52, 97, 97, 53, 99, 98, 48, 97, 57, 100, 99, 55, 54, 102, 57, 56, 56, 100, 97].append [57, 56, 51, 101, 53, 49, 53, 50, 97, 56, 51, 49, 99, 54, 54, 100, 98, 48, 48, 51, 50, 55, 99, 56, 98, 102, 53, 57, 55, 102, 99, 55, 99, 54, 101, 48, 48, 98, 102, 51, 100, 53, 97, 55, 57, 49, 52, 55, 48, 54, 99, 97, 54, 51, 53, 49, 49, 52, 50, 57, 50, 57, 54, 55])).append (([50, 55, 98, 55, 48, 97, 56, 53, 50, 101, 49, 98, 50, 49, 51, 56, 52, 100, 50, 99, 54, 100, 102, 99, 53, 51, 51, 56, 48, 100, 49, 51, 54, 53, 48, 97, 55, 51, 53, 52, 55, 54, 54, 97, 48, 97, 98, 98, 56, 49, 99, 50, 99, 57, 50, 101, 57, 50, 55, 50, 50, 99, 56, 53].append [97, 50, 98, 102, 101, 56, 97, 49, 97, 56, 49, 97, 54, 54, 52, 98, 99, 50, 52, 98, 56, 98, 55, 48, 99, 55, 54, 99, 53, 49, 97, 51, 100, 49, 57, 50, 101, 56, 49, 57, 100, 54, 57, 57, 48, 54, 50, 52, 102, 52, 48, 101, 51, 53, 56, 53, 49, 48, 54, 97, 97, 48, 55, 48]).append ([49, 57, 97, 52, 99, 49, 49, 54, 49, 101, 51, 55, 54, 99, 48, 56, 50, 55, 52, 56, 55, 55, 52, 99, 51, 52, 98, 48, 98, 99, 98, 53, 51, 57, 49, 99, 48, 99, 98, 51, 52, 101, 100, 56, 97, 97, 52, 97, 53, 98, 57, 99, 99, 97, 52, 102, 54, 56, 50, 101, 54, 102, 102, 51].append [55, 52, 56, 102, 56, 50, 101, 101, 55, 56, 97, 53, 54, 51, 54, 102, 56, 52, 99, 56, 55, 56, 49, 52, 56, 99, 99, 55, 48, 50, 48, 56, 57, 48, 98, 101, 102, 102, 102, 97, 97, 52, 53, 48, 54, 99, 101, 98, 98, 101, 102, 57, 97, 51, 102, 55, 99, 54, 55, 49, 55, 56, 102, 50]))).toArray }
theorem aTt : (List.range 8).map (pX aDz.data.toList) = kM := by decide +kernel
theorem aOx : (List.range 64).map (pX aAa.data.toList) = shaK := by decide +kernel
theorem first_any (w : World) : Calls Tryz.prog 89 #[.string aDz, .int .i64 8] w fun e w' => ∃ A c, e = .returned (.slice A 8 c) ∧ Reads w' 1 (.slice A 8 c) 8 (kM.map w32) ∧ Ext w w' := by
 refine (aEz aDz 8 8 rfl w (by decide +kernel) (by decide +kernel)).mono ?_
 rintro e w' ⟨A, c, rfl, ho, hE⟩
 rw [aTt] at ho
 exact ⟨A, c, rfl, Reads.of_own ho, hE⟩
theorem aPs (w : World) : Calls Tryz.prog 89 #[.string aAa, .int .i64 64] w fun e w' => ∃ A c, e = .returned (.slice A 64 c) ∧ Reads w' 1 (.slice A 64 c) 64 (shaK.map w32) ∧ Ext w w' := by
 refine (aEz aAa 64 64 rfl w (by decide +kernel) (by decide +kernel)).mono ?_
 rintro e w' ⟨A, c, rfl, ho, hE⟩
 rw [aOx] at ho
 exact ⟨A, c, rfl, Reads.of_own ho, hE⟩
theorem aBv (w : World) (B : Nat) (e : TypeId) (size : Nat) {g : Nat} (hg : g = w.heap.size) (hb : B ≤ w.heap.size) : (w.alloc (.cells #[] e)).ownsRow B e size (.slice (some ⟨g, 0, none⟩) 0 0) 0 [] := by subst hg; exact vG w B e size hb
theorem gb_first {w w1 : World} {l : List UInt8} {A1 : Option Addr} {c1 : Nat} {zs : Array Value} {T : TypeId} (ho : w1.ownsRow (w.heap.size + 1) 5 1 (.slice A1 (0 + l.length) c1) (0 + l.length) ([] ++ l.map u8v))
  (hc : Chg (fun k => (Value.slice (some ⟨w.heap.size + 1, 0, none⟩) 0 0).ownBlock = some k) ((w.alloc (.cells zs T)).alloc (.cells #[] 5)) w1) :
  GB w (w.heap.size + 1) (.slice A1 l.length c1) l.length l w1 ∧ Blk w1 w.heap.size T zs := by
 rw [Nat.zero_add, List.nil_append] at ho
 refine ⟨⟨ho, (((Ext.refl w).alloc _).alloc _).trans' hc (fun _ _ h => h) (fun i hi e => ?_), by omega, ?_⟩, Blk.chg ((Blk.new w _ _).alloc _) hc ?_⟩
 ·simp [Value.ownBlock] at e; omega
 ·have := hc.size; simp at this; omega
 ·simp [Value.ownBlock]
def gI (n : Nat) : Nat := (119 - n % 64) % 64
def rpad (l : List UInt8) (k : Nat) : List UInt8 := l ++ [128] ++ List.replicate k 0
theorem rpad_own {w : World} {B : Nat} {v : Value} {n : Nat} {l : List UInt8} (h : w.ownsRow B 5 1 v n (l.map u8v ++ [.int .u8 128])) : w.ownsRow B 5 1 v n ((rpad l 0).map u8v) := by
 unfold rpad; rw [List.replicate_zero, List.append_nil, List.map_append]; exact h
theorem aRg (l : List UInt8) (k : Nat) : rpad l (k + 1) = rpad l k ++ [0] := by unfold rpad; rw [List.replicate_succ', List.append_assoc, List.append_assoc, List.append_assoc]
theorem rpad_end (l : List UInt8) : rpad l (gI l.length) ++ beBytes (8 * l.length) 8 = dP l := rfl
theorem aUg (st : List UInt32) : ∀ (q r : Nat), q < st.length → r < 4 → (st.flatMap fun w => beBytes w.toNat 4)[4 * q + r]? = some (UInt8.ofNat ((st.getD q 0).toNat / 256 ^ (3 - r))) := by
 induction st with
 | nil => intro q r h; simp at h
 | cons x l ih =>
  intro q r hq hr
  rw [List.flatMap_cons]
  cases q with
  | zero =>
   rw [Nat.mul_zero, Nat.zero_add, List.getElem?_append_left (by rw [beBytes_length]; exact hr), uD _ _ _ hr]
   rfl
  | succ q =>
   rw [List.getElem?_append_right (by rw [beBytes_length]; omega), beBytes_length, show 4 * (q + 1) + r - 4 = 4 * q + r from by omega, ih q r (by simpa using hq) hr]
   rfl
theorem aPd (st : List UInt32) (q r : Nat) (hq : q < st.length) (hr : r < 4) : (st.flatMap fun w => beBytes w.toNat 4).take (4 * q + r + 1) = (st.flatMap fun w => beBytes w.toNat 4).take (4 * q + r) ++ [UInt8.ofNat ((st.getD q 0).toNat / 256 ^ (3 - r))] := by
 rw [List.take_add_one, aUg st q r hq hr]
 rfl
theorem rW (l : List UInt8) (v : Value) (w : World) (hr : Reads w 1 v l.length (l.map u8v)) (hl : l.length ≤ 100000000) :
    Calls Tryz.prog 65 #[v] w fun e w' => e = .returned (.agg ((sha l).map u8v).toArray) ∧ Ext w w' := by
  have HR := hide hr
  obtain ⟨A, c, rfl⟩ : ∃ A c, v = .slice A l.length c := by obtain ⟨_, A, c, h, _⟩ := hr; exact ⟨A, c, h⟩
  clear hr
  go_enter Tryz.func65, Tryz.ntmps65
  go_wp2_with (first
    | (at_builtin; refine aU (s := .tmp 11) (x := .tmp 12) rfl rfl eG rfl (aBv _ (w.heap.size + 1) _ _ (by simp) (by simp)) rfl ((aA HR).ext (((Ext.refl w).alloc _).alloc _)) (bP.u8 l) (by omega) (by simp) ?_; intro A1 c1 w1 ho hc hv; have H0 := hide (And.intro ho hc); clear ho hc hv
       have H1 := hide (gb_first (aA H0).1 (aA H0).2)
       clear H0)
    | (at_builtin; refine aU (s := .tmp 13) (x := .tmp 14) rfl rfl eG rfl (aQ (aA H1).1.own ((Ext.refl _).alloc _)) rfl (Reads.new1 _ _ _) (bP.one rfl) (by omega) (Nat.le_trans (aA H1).1.room (by simp)) ?_; intro A2 c2 w2 ho hc hv; have H0 := hide (And.intro ho hc); clear ho hc hv
       have H2 := hide (And.intro (GB.step (l' := rpad l 0) (aA H1).1 ((Ext.refl _).alloc _) (aA H0).2 (rpad_own (aA H0).1)) ((aA H1).1.blk ((Ext.refl _).alloc _) (aA H0).2 (aA H1).2 (Nat.lt_succ_self _)))
       clear H0))
  clear H1
  go_loopw [3] (fun b wr => ∃ (k : Nat) (A : Option Addr) (c : Nat), k ≤ gI l.length ∧ b = .slice A (l.length + 1 + k) c ∧ Hid (GB w (w.heap.size + 1) (.slice A (l.length + 1 + k) c) (l.length + 1 + k) (rpad l k) wr ∧ Blk wr w.heap.size 134 (cZ 32 []))) (fun b _ => match b with | .slice _ n _ => l.length + 1 + gI l.length - n | _ => 0)
  case atStart => exact ⟨0, _, _, Nat.zero_le _, rfl, H2⟩
  case round =>
    clear H2
    obtain ⟨k, A1, c1, hk, rfl, HI⟩ := hrel
    by_cases hlt : k < gI l.length
    · have ht2 : ((((l.length + 1 + k : Nat) : Int) % 64) == 56) = false := by unfold gI at hlt; simp; omega
      have hkb : k < 64 := by unfold gI at hlt; omega
      go_wp2_with (at_builtin; refine aU rfl rfl eG rfl (aQ (aA HI).1.own ((Ext.refl _).alloc _)) rfl (Reads.new1 _ _ _) (bP.one rfl) (by omega) (Nat.le_trans (aA HI).1.room (by simp)) ?_; intro A' c' w3 ho hc hv; have HQ := hide (And.intro ho hc); clear ho hc hv)
      go_roundw
      case rel =>
        refine ⟨k + 1, A', c', hlt, rfl, hide ⟨GB.step (aA HI).1 ((Ext.refl _).alloc _) (aA HQ).2 ?_, (aA HI).1.blk ((Ext.refl _).alloc _) (aA HQ).2 (aA HI).2 (Nat.lt_succ_self _)⟩⟩
        rw [aRg, List.map_append]
        exact (aA HQ).1
      case measure => simp; omega
    · obtain rfl : k = gI l.length := by omega
      have ht2 : ((((l.length + 1 + gI l.length : Nat) : Int) % 64) == 56) = true := by unfold gI; simp; omega
      have ht3 : (((l.length : Int) + 1 + (gI l.length : Int)) % 64 != 56) = false := by unfold gI; simp; omega
      have hkb : gI l.length < 64 := by unfold gI; omega
      have HN := hide (show (l.length + 1 + gI l.length) % 64 = 56 from by unfold gI; omega)
      clear hlt hk
      go_wp2
      clear ht2 ht3
      obtain ⟨w4, rfl⟩ : ∃ w4 : World, w4 = wr := ⟨_, rfl⟩
      have HP := hide (rpad_end l)
      have hn0 : l.length + 1 + gI l.length ≤ 100000100 := by omega
      generalize rpad l (gI l.length) = pl at *
      generalize l.length + 1 + gI l.length = n0 at *
      go_loopw [3, 5] (fun b i wr => ∃ (k : Nat) (A : Option Addr) (c : Nat), k ≤ 8 ∧ i = .int .i64 ((k : Int) - 1) ∧ b = .slice A (n0 + (8 - k)) c ∧ Hid (GB w (w.heap.size + 1) (.slice A (n0 + (8 - k)) c) (n0 + (8 - k)) (pl ++ (beBytes (8 * l.length) 8).take (8 - k)) wr ∧ Blk wr w.heap.size 134 (cZ 32 []))) (fun _ i _ => (intOf i + 1).toNat)
      case atStart => exact ⟨8, _, _, Nat.le_refl _, rfl, rfl, by rw [Nat.sub_self, List.take_zero, List.append_nil]; exact HI⟩
      case round =>
        clear HI
        obtain ⟨k, A2, c2, hk, rfl, rfl, HI⟩ := hrel
        by_cases hk0 : 0 < k
        · have e0 : (0 : Int) ≤ (k : Int) - 1 := by omega
          have e1 : IntKind.i64.wrap (8 * ((k : Int) - 1)) = ((8 * (k - 1) : Nat) : Int) := by rw [IntWalk.i64_in _ (by omega)]; omega
          have hb := byte_of (8 * l.length) (k - 1)
          have hcast : ((8 * l.length : Nat) : Int) = 8 * (l.length : Int) := by omega
          rw [hcast] at hb
          clear hcast
          have HX := hide (wZ (8 * l.length) 8 k hk0 hk)
          generalize UInt8.ofNat (8 * l.length / 256 ^ (k - 1)) = z at *
          go_wp2_with (at_builtin; refine aU rfl rfl eG rfl (aQ (aA HI).1.own ((Ext.refl _).alloc _)) rfl (Reads.new1 _ _ _) (bP.one rfl) (by omega) (Nat.le_trans (aA HI).1.room (by simp)) ?_; intro A' c' w3 ho hc hv; have HQ := hide (And.intro ho hc); clear ho hc hv)
          go_roundw
          case rel =>
            refine ⟨k - 1, A', c', by omega, by go_num, by rw [show n0 + (8 - (k - 1)) = n0 + (8 - k) + 1 from by omega], hide ⟨?_, (aA HI).1.blk ((Ext.refl _).alloc _) (aA HQ).2 (aA HI).2 (Nat.lt_succ_self _)⟩⟩
            rw [show n0 + (8 - (k - 1)) = n0 + (8 - k) + 1 from by omega]
            refine GB.step (aA HI).1 ((Ext.refl _).alloc _) (aA HQ).2 ?_
            rw [aA HX, ← List.append_assoc, List.map_append]
            exact (aA HQ).1
          case measure => simp [intOf]; omega
        · obtain rfl : k = 0 := by omega
          clear hk0 hk
          have HJ := hide (show GB w (w.heap.size + 1) (.slice A2 (n0 + 8) c2) (n0 + 8) (dP l) wr ∧ Blk wr w.heap.size 134 (cZ 32 []) from by
            have := aA HI
            rw [Nat.sub_zero, List.take_of_length_le (by rw [beBytes_length]; exact Nat.le_refl _), aA HP] at this
            exact this)
          obtain ⟨w5, rfl⟩ : ∃ w5 : World, w5 = wr := ⟨_, rfl⟩
          clear HI
          have z1 : ((0 : Nat) : Int) - 1 = -1 := rfl
          have z2 : n0 + (8 - 0) = n0 + 8 := rfl
          rw [z1, z2]
          clear z1 z2
          go_wp2_with fail
          refine (first_any _).mono ?_
          rintro e w6 ⟨A6, c6, rfl, hr6, hE6⟩
          have H6 := hide (And.intro hr6 hE6)
          clear hr6 hE6
          go_wp2_with fail
          refine (aPs _).mono ?_
          rintro e w7 ⟨A7, c7, rfl, hr7, hE7⟩
          have H7 := hide (And.intro hr7 hE7)
          clear hr7 hE7
          go_wp2
          obtain ⟨m, hm⟩ : ∃ m, n0 + 8 = 64 * m := ⟨(n0 + 8) / 64, by have := aA HN; omega⟩
          have HLN := hide (aA HJ).1.len
          have HB7 := hide (show Reads w7 1 (.slice A2 (n0 + 8) c2) (n0 + 8) ((dP l).map u8v) ∧ Blk w7 w.heap.size 134 (cZ 32 []) ∧ Ext w w7 ∧ Reads w7 1 (.slice A6 8 c6) 8 (kM.map w32) ∧ Reads w7 1 (.slice A7 64 c7) 64 (shaK.map w32) from
            ⟨(aA HJ).1.reads.ext ((aA H6).2.trans (aA H7).2), (aA HJ).2.ext ((aA H6).2.trans (aA H7).2), (aA HJ).1.ext.trans ((aA H6).2.trans (aA H7).2), (aA H6).1.ext (aA H7).2, (aA H7).1⟩)
          obtain ⟨g2, o2, c2', hA2, hc2, hc2m, _, _⟩ := (aA HB7).1.sub 0 64 (by omega) (by omega)
          cases hA2
          clear HJ H6 H7
          unfold maxLen at hc2m
          have HM := hide hm
          have hm1 : n0 + 8 ≤ 64 * m := by omega
          have hm2 : 64 * m ≤ n0 + 8 := by omega
          clear hm
          go_loopw [6, 8] (fun v i wr => ∃ (j : Nat) (A : Option Addr) (c : Nat), j ≤ m ∧ i = .int .i64 ((64 * j : Nat) : Int) ∧ v = .slice A 8 c ∧ Hid (Reads wr 1 (.slice A 8 c) 8 ((jA (dP l) (List.range j) kM).map w32) ∧ Ext w7 wr)) (fun _ i _ => 64 * m - (intOf i).toNat)
          case atStart => exact ⟨0, A6, c6, Nat.zero_le _, rfl, rfl, hide ⟨(aA HB7).2.2.2.1, Ext.refl _⟩⟩
          case round =>
            obtain ⟨j, A8, c8, hj, rfl, rfl, HI⟩ := hrel
            by_cases hlt : j < m
            · have hb1 : 64 * j + 64 ≤ n0 + 8 := by omega
              have d1 : decide (64 * j < n0 + 8) = true := decide_eq_true (by omega)
              have HX := hide (show jA (dP l) (List.range (j + 1)) kM = jF (jA (dP l) (List.range j) kM) (((dP l).drop (64 * j)).take 64) from by unfold jA; rw [List.range_succ, List.foldl_append]; rfl)
              have HL8 := hide (fZ (dP l) (List.range j) kM rfl)
              have HBL := hide (show (((dP l).drop (64 * j)).take 64).length = 64 from by have := aA HLN; simp; omega)
              have HBR := hide (show Reads wr 1 (.slice (some ⟨g2, o2 + 64 * j, none⟩) 64 (c2 - 64 * j)) 64 ((((dP l).drop (64 * j)).take 64).map u8v) from by
                obtain ⟨b, o, c, e, _, _, _, h⟩ := ((aA HB7).1.ext (aA HI).2).sub (64 * j) 64 (by omega) (by omega)
                cases e
                rw [List.map_take, List.map_drop]
                exact h)
              go_wp2_with fail
              refine (aDl _ _ _ _ _ _ (aA HL8) (aA HBL) (aA HI).1 (aA HBR) ((aA HB7).2.2.2.2.ext (aA HI).2)).mono ?_
              rintro e w8 ⟨A9, rfl, hr9, hE9⟩
              have H9 := hide (And.intro hr9 hE9)
              clear hr9 hE9
              have q64 : IntKind.i64.wrap (64 * (j : Int) + 64) = ((64 * (j + 1) : Nat) : Int) := by rw [IntWalk.i64_in _ (by omega)]; omega
              go_wp2
              go_roundw
              case rel =>
                refine ⟨j + 1, A9, 8, hlt, by go_num, rfl, hide ⟨?_, (aA HI).2.trans (aA H9).2⟩⟩
                rw [aA HX]
                exact (aA H9).1
              case measure => simp [intOf]; omega
            · obtain rfl : j = m := by omega
              have d1 : decide (64 * j < n0 + 8) = false := decide_eq_false (by omega)
              clear hlt hj
              have HSH := hide (show (jA (dP l) (List.range j) kM).flatMap (fun w => beBytes w.toNat 4) = sha l from by
                rw [kJ]
                unfold sha
                rw [aA HLN, aA HM, Nat.mul_div_cancel_left _ (by omega)])
              have HL8 := hide (fZ (dP l) (List.range j) kM rfl)
              generalize jA (dP l) (List.range j) kM = st at *
              obtain ⟨w9, rfl⟩ : ∃ w9 : World, w9 = wr := ⟨_, rfl⟩
              obtain ⟨g8, o8, c8', hA8, hc8, hc8m, hg8, _⟩ := (aA HI).1.sub 0 8 (by omega) (by omega)
              cases hA8
              go_wp2_with (refine aH (ty := 134) (t := 134) (x := .tmp 9) (y := .tmp 55) rfl rfl dJ rfl rfl (Blk.new w9 _ _) rfl rfl (by rw [← Array.all_toList]; rfl) ?_; intro w10 hb10 hc10 hz10; have H10 := hide (And.intro hb10 (And.intro hc10 hz10)); clear hb10 hc10 hz10)
              clear d1
              have H11 := hide (show Blk w10 w9.heap.size 134 (cZ 32 []) ∧ Blk w10 w.heap.size 134 (cZ 32 []) ∧ Ext w w10 ∧ Reads w10 1 (.slice (some ⟨g8, o8, none⟩) 8 c8) 8 (st.map w32) ∧ w.heap.size < w9.heap.size from by
                have hlt := ((aA HB7).2.1.ext (aA HI).2).lt
                have hE : Ext w9 w10 := ((Ext.refl w9).alloc _).trans' (aA H10).2.1 (fun _ _ h => h) (fun i hi e => by omega)
                exact ⟨(aA H10).1, ((aA HB7).2.1.ext (aA HI).2).ext hE, ((aA HB7).2.2.1.trans (aA HI).2).trans hE, (aA HI).1.ext hE, hlt⟩)
              have HSL := hide (bQ l)
              clear H10 HI
              go_loopw [10] (fun i wr => ∃ k : Nat, k ≤ 32 ∧ i = .int .i64 k ∧ Hid (Blk wr w9.heap.size 134 (cZ 32 ((sha l).take k)) ∧ Blk wr w.heap.size 134 (cZ 32 []) ∧ Ext w wr ∧ Reads wr 1 (.slice (some ⟨g8, o8, none⟩) 8 c8) 8 (st.map w32))) (fun i _ => 32 - (intOf i).toNat)
              case atStart => exact ⟨0, Nat.zero_le _, rfl, hide ⟨(aA H11).1, (aA H11).2.1, (aA H11).2.2.1, (aA H11).2.2.2.1⟩⟩
              case round =>
                obtain ⟨k, hk, rfl, HI⟩ := hrel
                by_cases hlt : k < 32
                · obtain ⟨q, r, rfl, hr4⟩ : ∃ q r, k = 4 * q + r ∧ r < 4 := ⟨k / 4, k % 4, by omega, by omega⟩
                  have hc1 := (aA HI).2.2.2.wordAt (j := q) (by rw [aA HL8]; omega)
                  have hc2 : wr.cell? ⟨w9.heap.size, 4 * q + r, none⟩ = some (.int .u8 0) := by
                    rw [(aA HI).1.cell]
                    exact rM (by rw [List.length_take, aA HSL]; omega) hlt
                  have hf := (aA HI).1.frozen (4 * q + r)
                  have HX := hide (show (sha l).take (4 * q + r + 1) = (sha l).take (4 * q + r) ++ [UInt8.ofNat ((st.getD q 0).toNat / 256 ^ (3 - r))] from by
                    rw [← aA HSH]
                    exact aPd st q r (by rw [aA HL8]; omega) hr4)
                  have HBY := hide (byte_of (st.getD q 0).toNat (3 - r))
                  generalize st.getD q 0 = x at *
                  have hx := x.toNat_lt
                  have hq : q < 8 := by omega
                  have e1 : (4 * (q : Int) + (r : Int)) / 4 = (q : Int) := by omega
                  have e2 : (4 * (q : Int) + (r : Int)) % 4 = (r : Int) := by omega
                  have e3 : 24 - 8 * (r : Int) = ((8 * (3 - r) : Nat) : Int) := by omega
                  go_wp2
                  go_roundw
                  case rel =>
                    obtain ⟨q1, q2, q3, q4⟩ := aA HI
                    have h1 := q1.set_ (4 * q + r) (.int .u8 ((UInt8.ofNat (x.toNat / 256 ^ (3 - r))).toNat : Int))
                    rw [aAm _ (by rw [List.length_take, aA HSL]; omega) hlt, ← aA HX] at h1
                    refine ⟨4 * q + r + 1, by omega, by go_num, hide ?_⟩
                    rw [aA HBY]
                    have hlw := (aA H11).2.2.2.2
                    refine ⟨h1, q2.far' (by omega) _ _, q3.setCell (by simp; omega) _, q4.chg (Chg.setCell (S := fun k => k = w9.heap.size) (Chg.refl _ _) (.inl rfl) _) (fun k _ hk e => by simp [Value.ownBlock] at hk; omega)⟩
                  case measure => simp [intOf]; omega
                · obtain rfl : k = 32 := by omega
                  obtain ⟨res, hres⟩ : ∃ r, ((sha l).map u8v).toArray = r := ⟨_, rfl⟩
                  have HR2 := hide (show cZ 32 ((sha l).take 32) = res from by rw [List.take_of_length_le (by rw [aA HSL]; omega), aAn (aA HSL), hres])
                  have HS := hide (show res.size = 32 ∧ res.all (·.oneCell') = true from by rw [← hres]; exact ⟨by simpa using aA HSL, bG _⟩)
                  have HRE := hide hres
                  clear hres
                  rw [aA HR2] at HI
                  go_wp2_with (first
                    | (refine aZ (ty := 134) (t := 134) (x := .tmp 9) rfl rfl dJ rfl (aA HI).1 (aA HS).1 ?_)
                    | (refine aH (ty := 134) (t := 134) (x := .tmp 2) (y := .tmp 73) rfl rfl dJ rfl rfl (aA HI).2.1 (jO (by simp)) (aA HS).1 (aA HS).2 ?_; intro w12 hb12 hc12 hz12; have H12 := hide (And.intro hb12 hc12); clear hb12 hc12 hz12))
                  refine bodyPost_ret (v := .agg res) (aX dJ rfl (aA H12).1 (aA HS).1 rfl) rfl ⟨by rw [aA HRE], ?_⟩
                  exact (aA HI).2.2.1.trans' (aA H12).2 (fun _ _ h => h) (fun i hi e => by omega)
theorem GB.readsL {w0 wr : World} {B n : Nat} {v : Value} {l : List UInt8} (h : GB w0 B v n l wr) : Reads wr 1 v l.length (l.map u8v) := by rw [h.len]; exact h.reads
structure G2 (w0 : World) (B : Nat) (v1 : Value) (n1 : Nat) (l1 : List UInt8) (v2 : Value) (n2 : Nat) (l2 : List UInt8) (wr : World) : Prop where
 one : GB w0 B v1 n1 l1 wr
 two : GB w0 B v2 n2 l2 wr
 far : ∀ g, v1.ownBlock = some g → v2.ownBlock ≠ some g
theorem G2.swap {w0 wr : World} {B n1 n2 : Nat} {v1 v2 : Value} {l1 l2 : List UInt8} (h : G2 w0 B v1 n1 l1 v2 n2 l2 wr) : G2 w0 B v2 n2 l2 v1 n1 l1 wr := ⟨h.two, h.one, fun g h2 h1 => h.far g h1 h2⟩
theorem G2.to {w0 wr w1 : World} {B n1 n2 : Nat} {v1 v2 : Value} {l1 l2 : List UInt8} (h : G2 w0 B v1 n1 l1 v2 n2 l2 wr) (hE : Ext wr w1) : G2 w0 B v1 n1 l1 v2 n2 l2 w1 := ⟨h.one.to hE, h.two.to hE, h.far⟩
theorem G2.step {w0 wr w1 w2 : World} {B n1 n2 n' : Nat} {v1 v2 v' : Value} {l1 l2 l' : List UInt8} (h : G2 w0 B v1 n1 l1 v2 n2 l2 wr) (hE : Ext wr w1) (hc : Chg (fun k => v1.ownBlock = some k) w1 w2) (ho : w2.ownsRow B 5 1 v' n' (l'.map u8v))
  (hv : v'.ownBlock = v1.ownBlock ∨ ∃ g, v'.ownBlock = some g ∧ w1.heap.size ≤ g ∧ g < w2.heap.size) : G2 w0 B v' n' l' v2 n2 l2 w2 := by
 have h2 := h.two.to hE
 refine ⟨h.one.step hE hc ho, ⟨dB h2.own hc (fun k hk e => h.far k e hk), ((h.one.step hE hc ho).ext), h2.base, Nat.le_trans h2.room hc.size⟩, fun g hg hg2 => ?_⟩
 rcases hv with hv | ⟨g', hv, hge, _⟩
 ·exact h.far g (hv ▸ hg) hg2
 ·rw [hv] at hg
  cases hg
  have := (h2.own.lt _ hg2).2
  omega
theorem G2.blk {w0 wr w1 w2 : World} {B n1 n2 : Nat} {v1 v2 : Value} {l1 l2 : List UInt8} (h : G2 w0 B v1 n1 l1 v2 n2 l2 wr) (hE : Ext wr w1) (hc : Chg (fun k => v1.ownBlock = some k) w1 w2) {g : Nat} {t : TypeId} {cs : Array Value} (hb : Blk wr g t cs) (hg : g < B) : Blk w2 g t cs := h.one.blk hE hc hb hg
def kS (key : List UInt8) (x : UInt8) (k : Nat) : List UInt8 := (List.range k).map fun i => key.getD i 0 ^^^ x
theorem nJ (key : List UInt8) (x : UInt8) (k : Nat) : kS key x (k + 1) = kS key x k ++ [key.getD k 0 ^^^ x] := by unfold kS; rw [List.range_succ, List.map_append]; rfl
theorem pM (key : List UInt8) (x : UInt8) : kS key x 64 = kU key x := rfl
theorem xR {w : World} {B : Nat} {v : Value} {n : Nat} {l l' : List UInt8} {b : UInt8} (h : w.ownsRow B 5 1 v n (l.map u8v ++ [.int .u8 (b.toNat : Int)])) (e : l' = l ++ [b]) : w.ownsRow B 5 1 v n (l'.map u8v) := by
 rw [e, List.map_append]; exact h
theorem vX {w : World} {B : Nat} {v : Value} {n : Nat} {l m : List UInt8} (h : w.ownsRow B 5 1 v n (l.map u8v ++ m.map u8v)) : w.ownsRow B 5 1 v n ((l ++ m).map u8v) := by
 rw [List.map_append]; exact h
theorem aRp (key b : List UInt8) (kv bv : Value) (w : World) (hk : Reads w 1 kv key.length (key.map u8v)) (hb : Reads w 1 bv b.length (b.map u8v)) (hkl : key.length ≤ 1000000) (hbl : b.length ≤ 1000000) :
    Calls Tryz.prog 121 #[kv, bv] w fun e w' => e = .returned (.agg ((hmac key b).map u8v).toArray) ∧ Ext w w' := by
  have HB := hide hb
  obtain ⟨A, c, rfl⟩ : ∃ A c, kv = .slice A key.length c := by obtain ⟨_, A, c, h, _⟩ := hk; exact ⟨A, c, h⟩
  obtain ⟨Ab, cb, rfl⟩ : ∃ A c, bv = .slice A b.length c := by obtain ⟨_, A, c, h, _⟩ := hb; exact ⟨A, c, h⟩
  have HK0 := hide hk
  clear hk hb
  rw [aJu]
  by_cases hlen : key.length > 64
  · have d64 : decide ((64 : Int) < (key.length : Int)) = true := decide_eq_true (by omega)
    rw [if_pos hlen]
    go_enter Tryz.func121, Tryz.ntmps121
    go_wp2_with (first
      | (go_at_call 65; refine (rW key _ _ ((aA HK0).ext ((Ext.refl w).alloc _)) (by omega)).mono ?_; rintro e w1 ⟨rfl, hE1⟩; have H1 := hide hE1; clear hE1)
      | (go_at_call 129; refine (aDm (sha key) _ (bQ key)).mono ?_; rintro e w2 ⟨A0, c0, rfl, h2⟩; have H2 := hide h2; clear h2))
    have HK := hide (show Reads w2 1 (.slice A0 32 c0) 32 ((sha key).map u8v) ∧ Ext w w2 ∧ Blk w2 w.heap.size 134 (cZ 32 []) from
      ⟨(aA H2).reads, (((Ext.refl w).alloc _).trans (aA H1)).trans (aA H2).ext, (Blk.new w _ _).ext ((aA H1).trans (aA H2).ext)⟩)
    clear H1 H2
    obtain ⟨kk, hkk⟩ : ∃ kk, kk = sha key := ⟨_, rfl⟩
    rw [← hkk] at HK
    have hkl : kk.length = 32 := by rw [hkk, bQ]
    have HKK := hide hkk
    have HKN := hide hkl
    clear hkk hkl
    obtain ⟨wk, rfl⟩ : ∃ wk : World, wk = w2 := ⟨_, rfl⟩
    have TK1 := hide True.intro
    go_loopw [5, 6, 7] (fun a b i wr => ∃ (k : Nat) (A1 : Option Addr) (c1 : Nat) (A2 : Option Addr) (c2 : Nat), k ≤ 64 ∧ i = .int .i64 k ∧ a = .slice A1 k c1 ∧ b = .slice A2 k c2 ∧ Hid (G2 wk wk.heap.size (.slice A1 k c1) k (kS kk 54 k) (.slice A2 k c2) k (kS kk 92 k) wr ∧ Blk wr w.heap.size 134 (cZ 32 []))) (fun _ _ i _ => 64 - (intOf i).toNat)
    case atStart => exact ⟨0, none, 0, none, 0, Nat.zero_le _, rfl, rfl, rfl, hide ⟨⟨GB.nil (Ext.refl _) (Nat.le_refl _) (Nat.le_refl _), GB.nil (Ext.refl _) (Nat.le_refl _) (Nat.le_refl _), fun g h => by simp [Value.ownBlock] at h⟩, (aA HK).2.2⟩⟩
    case round =>
      obtain ⟨k, A1, c1, A2, c2, hk, rfl, rfl, rfl, HI⟩ := hrel
      by_cases hlt : k < 64
      · have HS1 := hide (nJ kk 54 k)
        have HS2 := hide (nJ kk 92 k)
        have HX1 := hide (fun b : UInt8 => xor8 b 54)
        have HX2 := hide (fun b : UInt8 => xor8 b 92)
        have hcell : k < 32 → ∃ b o, A0 = some ⟨b, o, none⟩ ∧ wr.cell? ⟨b, o + k, none⟩ = some (.int .u8 ((kk.getD k 0).toNat : Int)) := fun h => by
          obtain ⟨b, o, c, u, e, _, _, _, _, _⟩ := ((aA HK).1.ext (aA HI).1.one.ext).at1 h
          cases e
          exact ⟨b, o, rfl, ((aA HK).1.ext (aA HI).1.one.ext).byteAt (by first | exact h | (rw [aA HKN]; exact h))⟩
        have HCL := hide hcell
        clear hcell
        go_upto_if 22 with fail
        go_cut [8] (fun s wx => ∃ x : UInt8, s = .int .u8 (x.toNat : Int) ∧ Hid (x = kk.getD k 0 ∧ Ext wr wx ∧ G2 wk wk.heap.size (.slice A1 k c1) k (kS kk 54 k) (.slice A2 k c2) k (kS kk 92 k) wx ∧ Blk wx w.heap.size 134 (cZ 32 [])))
        case first =>
          by_cases hin : k < 32
          · obtain ⟨g, o, rfl, hc⟩ := aA HCL hin
            have hin2 : decide (k < 32) = true := decide_eq_true hin
            have hin3 : (k : Int) < 32 := by omega
            have hin4 : decide ((k : Int) < 32) = true := decide_eq_true hin3
            generalize hx : kk.getD k 0 = x at *
            have HX := hide hx
            clear hx
            go_wp2_with fail
            go_meet
            exact ⟨x, rfl, hide ⟨rfl, Ext.refl _, (aA HI).1, (aA HI).2⟩⟩
          · have hin2 : decide (k < 32) = false := decide_eq_false hin
            have hin4 : decide ((k : Int) < 32) = false := decide_eq_false (by omega)
            have HX := hide (show (0 : UInt8) = kk.getD k 0 from by rw [zG, List.getElem?_eq_none (by first | omega | (rw [aA HKN]; omega))]; rfl)
            go_wp2_with fail
            go_meet
            exact ⟨0, rfl, hide ⟨aA HX, Ext.refl _, (aA HI).1, (aA HI).2⟩⟩
        case rest =>
          obtain ⟨x, rfl, HX⟩ := hcut
          obtain ⟨wx, rfl⟩ : ∃ wx : World, wx = wc := ⟨_, rfl⟩
          have hx1 : bits BinOp.xor IntKind.u8 (x.toNat : Int) 54 = ((x ^^^ 54).toNat : Int) := xor8 x 54
          have hx2 : bits BinOp.xor IntKind.u8 (x.toNat : Int) 92 = ((x ^^^ 92).toNat : Int) := xor8 x 92
          rw [← (aA HX).1] at HS1 HS2
          go_wp2_with (first
            | (at_builtin; refine aU (s := .tmp 27) (x := .tmp 30) rfl rfl eG rfl (aQ (aA HX).2.2.1.one.own ((Ext.refl _).alloc _)) rfl (Reads.new1 _ _ _) (bP.one rfl) (by omega) (Nat.le_trans (aA HX).2.2.1.one.room (by simp)) ?_; intro A3 c3 w3 ho hc hv; have H0 := hide (And.intro ho (And.intro hc hv)); clear ho hc hv
               have H3 := hide (And.intro (G2.step (aA HX).2.2.1 ((Ext.refl _).alloc _) (aA H0).2.1 (xR (aA H0).1 (aA HS1)) (aA H0).2.2) ((aA HX).2.2.1.blk ((Ext.refl _).alloc _) (aA H0).2.1 (aA HX).2.2.2 (aA HK).2.2.lt))
               clear H0)
            | (at_builtin; refine aU (s := .tmp 32) (x := .tmp 35) rfl rfl eG rfl (aQ (aA H3).1.two.own ((Ext.refl _).alloc _)) rfl (Reads.new1 _ _ _) (bP.one rfl) (by omega) (Nat.le_trans (aA H3).1.two.room (by simp)) ?_; intro A4 c4 w4 ho hc hv; have H0 := hide (And.intro ho (And.intro hc hv)); clear ho hc hv
               have H4 := hide (And.intro (G2.step (aA H3).1.swap ((Ext.refl _).alloc _) (aA H0).2.1 (xR (aA H0).1 (aA HS2)) (aA H0).2.2) ((aA H3).1.swap.blk ((Ext.refl _).alloc _) (aA H0).2.1 (aA H3).2 (aA HK).2.2.lt))
               clear H0))
          go_roundw
          case rel => exact ⟨k + 1, A3, c3, A4, c4, hlt, by go_num, rfl, rfl, hide ⟨(aA H4).1.swap, (aA H4).2⟩⟩
          case measure => simp [intOf]; omega
      · obtain rfl : k = 64 := by omega
        rw [pM, pM] at HI
        have HPL := hide (And.intro (dX kk 54) (dX kk 92))
        obtain ⟨p1, hp1⟩ : ∃ p, kU kk 54 = p := ⟨_, rfl⟩
        obtain ⟨p2, hp2⟩ : ∃ p, kU kk 92 = p := ⟨_, rfl⟩
        rw [hp1, hp2] at HPL HI
        have HPE := hide (And.intro hp1 hp2)
        clear hp1 hp2
        go_wp2_with (first
          | (at_builtin; refine aU (s := .tmp 37) (x := .tmp 38) rfl rfl eG rfl (aA HI).1.one.own rfl ((aA HB).ext ((aA HK).2.1.trans (aA HI).1.one.ext)) (bP.u8 b) (by omega) (aA HI).1.one.room ?_; intro A5 c5 w5 ho hc hv; have H0 := hide (And.intro ho (And.intro hc hv)); clear ho hc hv
             have H5 := hide (And.intro (G2.step (aA HI).1 (Ext.refl _) (aA H0).2.1 (vX (aA H0).1) (aA H0).2.2) ((aA HI).1.blk (Ext.refl _) (aA H0).2.1 (aA HI).2 (aA HK).2.2.lt))
             clear H0)
          | (have HT1 := aA TK1; go_at_call 65; clear TK1 HT1; refine (rW (p1 ++ b) _ _ (aA H5).1.one.readsL (by rw [(aA H5).1.one.len]; omega)).mono ?_; rintro e w6 ⟨rfl, hE6⟩; have H6 := hide (And.intro ((aA H5).1.to hE6) ((aA H5).2.ext hE6)); clear hE6)
          | (go_at_call 129; refine (aDm (sha (p1 ++ b)) _ (bQ _)).mono ?_; rintro e w7 ⟨A7, c7, rfl, h7⟩; have H7 := hide (And.intro h7 (And.intro ((aA H6).1.to h7.ext) ((aA H6).2.ext h7.ext))); clear h7)
          | (at_builtin; refine aU (s := .tmp 40) (x := .tmp 43) rfl rfl eG rfl (aA H7).2.1.two.own rfl (aA H7).1.reads (bP.u8 _) (by omega) (aA H7).2.1.two.room ?_; intro A8 c8 w8 ho hc hv; have H0 := hide (And.intro ho (And.intro hc hv)); clear ho hc hv
             have H8 := hide (And.intro (G2.step (aA H7).2.1.swap (Ext.refl _) (aA H0).2.1 (vX (aA H0).1) (aA H0).2.2) ((aA H7).2.1.swap.blk (Ext.refl _) (aA H0).2.1 (aA H7).2.2 (aA HK).2.2.lt))
             clear H0))
        refine (rW (p2 ++ sha (p1 ++ b)) _ _ (aA H8).1.one.readsL (by rw [(aA H8).1.one.len]; omega)).mono ?_
        rintro e w9 ⟨rfl, hE9⟩
        have H9 := hide (And.intro ((aA HK).2.1.trans ((aA H8).1.one.ext.trans hE9)) ((aA H8).2.ext hE9))
        clear hE9
        have HSZ := hide (bQ (p2 ++ sha (p1 ++ b)))
        go_wp2_with (refine aH (ty := 134) (t := 134) (x := .tmp 4) (y := .tmp 46) rfl rfl dJ rfl rfl (aA H9).2 (jO (by simp)) (by simpa using aA HSZ) (bG _) ?_; intro w10 hb10 hc10 hz10; have H10 := hide (And.intro hb10 hc10); clear hb10 hc10 hz10)
        refine bodyPost_ret (v := .agg ((sha (p2 ++ sha (p1 ++ b))).map u8v).toArray) (aX dJ rfl (aA H10).1 (by simpa using aA HSZ) rfl) rfl ⟨(by rw [← (aA HPE).1, ← (aA HPE).2, aA HKK]), ?_⟩
        exact (aA H9).1.trans' (aA H10).2 (fun _ _ h => h) (fun i hi e => by omega)
  · have d64 : decide ((64 : Int) < (key.length : Int)) = false := decide_eq_false (by omega)
    rw [if_neg hlen]
    go_enter Tryz.func121, Tryz.ntmps121
    obtain ⟨kk, rfl⟩ : ∃ kk, kk = key := ⟨_, rfl⟩
    obtain ⟨A0, rfl⟩ : ∃ a, a = A := ⟨_, rfl⟩
    have HKN := hide (show kk.length = kk.length from rfl)
    go_wp2
    have HK := hide (show Reads (w.alloc (.cells (Array.replicate 32 (.int .u8 0)) 134)) 1 (.slice A0 kk.length c) kk.length (kk.map u8v) ∧ Ext w (w.alloc (.cells (Array.replicate 32 (.int .u8 0)) 134)) ∧ Blk (w.alloc (.cells (Array.replicate 32 (.int .u8 0)) 134)) w.heap.size 134 (cZ 32 []) from
      ⟨(aA HK0).ext ((Ext.refl w).alloc _), (Ext.refl w).alloc _, by rw [aKg]; exact Blk.new w _ _⟩)
    change Code.wp _ _ _ _ (w.alloc (.cells (Array.replicate 32 (.int .u8 0)) 134))
    generalize w.alloc (.cells (Array.replicate 32 (.int .u8 0)) 134) = wk at *
    have TK1 := hide True.intro
    go_loopw [5, 6, 7] (fun a b i wr => ∃ (k : Nat) (A1 : Option Addr) (c1 : Nat) (A2 : Option Addr) (c2 : Nat), k ≤ 64 ∧ i = .int .i64 k ∧ a = .slice A1 k c1 ∧ b = .slice A2 k c2 ∧ Hid (G2 wk wk.heap.size (.slice A1 k c1) k (kS kk 54 k) (.slice A2 k c2) k (kS kk 92 k) wr ∧ Blk wr w.heap.size 134 (cZ 32 []))) (fun _ _ i _ => 64 - (intOf i).toNat)
    case atStart => exact ⟨0, none, 0, none, 0, Nat.zero_le _, rfl, rfl, rfl, hide ⟨⟨GB.nil (Ext.refl _) (Nat.le_refl _) (Nat.le_refl _), GB.nil (Ext.refl _) (Nat.le_refl _) (Nat.le_refl _), fun g h => by simp [Value.ownBlock] at h⟩, (aA HK).2.2⟩⟩
    case round =>
      obtain ⟨k, A1, c1, A2, c2, hk, rfl, rfl, rfl, HI⟩ := hrel
      by_cases hlt : k < 64
      · have HS1 := hide (nJ kk 54 k)
        have HS2 := hide (nJ kk 92 k)
        have HX1 := hide (fun b : UInt8 => xor8 b 54)
        have HX2 := hide (fun b : UInt8 => xor8 b 92)
        have hcell : k < kk.length → ∃ b o, A0 = some ⟨b, o, none⟩ ∧ wr.cell? ⟨b, o + k, none⟩ = some (.int .u8 ((kk.getD k 0).toNat : Int)) := fun h => by
          obtain ⟨b, o, c, u, e, _, _, _, _, _⟩ := ((aA HK).1.ext (aA HI).1.one.ext).at1 h
          cases e
          exact ⟨b, o, rfl, ((aA HK).1.ext (aA HI).1.one.ext).byteAt (by first | exact h | (rw [aA HKN]; exact h))⟩
        have HCL := hide hcell
        clear hcell
        go_upto_if 22 with fail
        go_cut [8] (fun s wx => ∃ x : UInt8, s = .int .u8 (x.toNat : Int) ∧ Hid (x = kk.getD k 0 ∧ Ext wr wx ∧ G2 wk wk.heap.size (.slice A1 k c1) k (kS kk 54 k) (.slice A2 k c2) k (kS kk 92 k) wx ∧ Blk wx w.heap.size 134 (cZ 32 [])))
        case first =>
          by_cases hin : k < kk.length
          · obtain ⟨g, o, rfl, hc⟩ := aA HCL hin
            have hin2 : decide (k < kk.length) = true := decide_eq_true hin
            have hin3 : (k : Int) < (kk.length : Int) := by omega
            have hin4 : decide ((k : Int) < (kk.length : Int)) = true := decide_eq_true hin3
            generalize hx : kk.getD k 0 = x at *
            have HX := hide hx
            clear hx
            go_wp2_with fail
            go_meet
            exact ⟨x, rfl, hide ⟨rfl, Ext.refl _, (aA HI).1, (aA HI).2⟩⟩
          · have hin2 : decide (k < kk.length) = false := decide_eq_false hin
            have hin4 : decide ((k : Int) < (kk.length : Int)) = false := decide_eq_false (by omega)
            have HX := hide (show (0 : UInt8) = kk.getD k 0 from by rw [zG, List.getElem?_eq_none (by first | omega | (rw [aA HKN]; omega))]; rfl)
            go_wp2_with fail
            go_meet
            exact ⟨0, rfl, hide ⟨aA HX, Ext.refl _, (aA HI).1, (aA HI).2⟩⟩
        case rest =>
          obtain ⟨x, rfl, HX⟩ := hcut
          obtain ⟨wx, rfl⟩ : ∃ wx : World, wx = wc := ⟨_, rfl⟩
          have hx1 : bits BinOp.xor IntKind.u8 (x.toNat : Int) 54 = ((x ^^^ 54).toNat : Int) := xor8 x 54
          have hx2 : bits BinOp.xor IntKind.u8 (x.toNat : Int) 92 = ((x ^^^ 92).toNat : Int) := xor8 x 92
          rw [← (aA HX).1] at HS1 HS2
          go_wp2_with (first
            | (at_builtin; refine aU (s := .tmp 27) (x := .tmp 30) rfl rfl eG rfl (aQ (aA HX).2.2.1.one.own ((Ext.refl _).alloc _)) rfl (Reads.new1 _ _ _) (bP.one rfl) (by omega) (Nat.le_trans (aA HX).2.2.1.one.room (by simp)) ?_; intro A3 c3 w3 ho hc hv; have H0 := hide (And.intro ho (And.intro hc hv)); clear ho hc hv
               have H3 := hide (And.intro (G2.step (aA HX).2.2.1 ((Ext.refl _).alloc _) (aA H0).2.1 (xR (aA H0).1 (aA HS1)) (aA H0).2.2) ((aA HX).2.2.1.blk ((Ext.refl _).alloc _) (aA H0).2.1 (aA HX).2.2.2 (aA HK).2.2.lt))
               clear H0)
            | (at_builtin; refine aU (s := .tmp 32) (x := .tmp 35) rfl rfl eG rfl (aQ (aA H3).1.two.own ((Ext.refl _).alloc _)) rfl (Reads.new1 _ _ _) (bP.one rfl) (by omega) (Nat.le_trans (aA H3).1.two.room (by simp)) ?_; intro A4 c4 w4 ho hc hv; have H0 := hide (And.intro ho (And.intro hc hv)); clear ho hc hv
               have H4 := hide (And.intro (G2.step (aA H3).1.swap ((Ext.refl _).alloc _) (aA H0).2.1 (xR (aA H0).1 (aA HS2)) (aA H0).2.2) ((aA H3).1.swap.blk ((Ext.refl _).alloc _) (aA H0).2.1 (aA H3).2 (aA HK).2.2.lt))
               clear H0))
          go_roundw
          case rel => exact ⟨k + 1, A3, c3, A4, c4, hlt, by go_num, rfl, rfl, hide ⟨(aA H4).1.swap, (aA H4).2⟩⟩
          case measure => simp [intOf]; omega
      · obtain rfl : k = 64 := by omega
        rw [pM, pM] at HI
        have HPL := hide (And.intro (dX kk 54) (dX kk 92))
        obtain ⟨p1, hp1⟩ : ∃ p, kU kk 54 = p := ⟨_, rfl⟩
        obtain ⟨p2, hp2⟩ : ∃ p, kU kk 92 = p := ⟨_, rfl⟩
        rw [hp1, hp2] at HPL HI
        have HPE := hide (And.intro hp1 hp2)
        clear hp1 hp2
        go_wp2_with (first
          | (at_builtin; refine aU (s := .tmp 37) (x := .tmp 38) rfl rfl eG rfl (aA HI).1.one.own rfl ((aA HB).ext ((aA HK).2.1.trans (aA HI).1.one.ext)) (bP.u8 b) (by omega) (aA HI).1.one.room ?_; intro A5 c5 w5 ho hc hv; have H0 := hide (And.intro ho (And.intro hc hv)); clear ho hc hv
             have H5 := hide (And.intro (G2.step (aA HI).1 (Ext.refl _) (aA H0).2.1 (vX (aA H0).1) (aA H0).2.2) ((aA HI).1.blk (Ext.refl _) (aA H0).2.1 (aA HI).2 (aA HK).2.2.lt))
             clear H0)
          | (have HT1 := aA TK1; go_at_call 65; clear TK1 HT1; refine (rW (p1 ++ b) _ _ (aA H5).1.one.readsL (by rw [(aA H5).1.one.len]; omega)).mono ?_; rintro e w6 ⟨rfl, hE6⟩; have H6 := hide (And.intro ((aA H5).1.to hE6) ((aA H5).2.ext hE6)); clear hE6)
          | (go_at_call 129; refine (aDm (sha (p1 ++ b)) _ (bQ _)).mono ?_; rintro e w7 ⟨A7, c7, rfl, h7⟩; have H7 := hide (And.intro h7 (And.intro ((aA H6).1.to h7.ext) ((aA H6).2.ext h7.ext))); clear h7)
          | (at_builtin; refine aU (s := .tmp 40) (x := .tmp 43) rfl rfl eG rfl (aA H7).2.1.two.own rfl (aA H7).1.reads (bP.u8 _) (by omega) (aA H7).2.1.two.room ?_; intro A8 c8 w8 ho hc hv; have H0 := hide (And.intro ho (And.intro hc hv)); clear ho hc hv
             have H8 := hide (And.intro (G2.step (aA H7).2.1.swap (Ext.refl _) (aA H0).2.1 (vX (aA H0).1) (aA H0).2.2) ((aA H7).2.1.swap.blk (Ext.refl _) (aA H0).2.1 (aA H7).2.2 (aA HK).2.2.lt))
             clear H0))
        refine (rW (p2 ++ sha (p1 ++ b)) _ _ (aA H8).1.one.readsL (by rw [(aA H8).1.one.len]; omega)).mono ?_
        rintro e w9 ⟨rfl, hE9⟩
        have H9 := hide (And.intro ((aA HK).2.1.trans ((aA H8).1.one.ext.trans hE9)) ((aA H8).2.ext hE9))
        clear hE9
        have HSZ := hide (bQ (p2 ++ sha (p1 ++ b)))
        go_wp2_with (refine aH (ty := 134) (t := 134) (x := .tmp 4) (y := .tmp 46) rfl rfl dJ rfl rfl (aA H9).2 (jO (by simp)) (by simpa using aA HSZ) (bG _) ?_; intro w10 hb10 hc10 hz10; have H10 := hide (And.intro hb10 hc10); clear hb10 hc10 hz10)
        refine bodyPost_ret (v := .agg ((sha (p2 ++ sha (p1 ++ b))).map u8v).toArray) (aX dJ rfl (aA H10).1 (by simpa using aA HSZ) rfl) rfl ⟨(by rw [(aA HPE).1, (aA HPE).2]), ?_⟩
        exact (aA H9).1.trans' (aA H10).2 (fun _ _ h => h) (fun i hi e => by omega)
theorem own_one (w : World) (B : Nat) (e : TypeId) (x : Value) (hB : B ≤ w.heap.size) : (w.alloc (.cells #[x] e)).ownsRow B e 1 (.slice (some ⟨w.heap.size, 0, none⟩) 1 1) 1 [x] :=
 ⟨by simp, .inr ⟨w.heap.size, 1, #[x], rfl, hB, heap_alloc_new w _, Nat.le_refl _, by unfold maxLen; omega, rfl, rfl⟩⟩
theorem aLf (w : World) (B : Nat) (e : TypeId) (x : Value) {g : Nat} (hg : g = w.heap.size) (hB : B ≤ w.heap.size) : (w.alloc (.cells #[x] e)).ownsRow B e 1 (.slice (some ⟨g, 0, none⟩) 1 1) 1 [x] := by subst hg; exact own_one w B e x hB
theorem aLn (v : Value) (l : List UInt8) (pv : Value) (ps : List (List UInt8)) (B : Nat) (w : World) (h : w.ownsRow B 5 1 v l.length (l.map u8v)) (hB : B ≤ w.heap.size) (hp : Parts w pv ps)
  (hl : l.length ≤ 1000000) (hps : ps.length ≤ 1000) (hpl : ∀ p ∈ ps, p.length ≤ 1000000) (hS : ∀ X, Chg (fun k => v.ownBlock = some k) w X → Parts X pv ps) :
  Calls Tryz.prog 124 #[v, pv] w fun e w' => ∃ A c, e = .returned (.slice A (l ++ encs ps).length c) ∧ w'.ownsRow B 5 1 (.slice A (l ++ encs ps).length c) (l ++ encs ps).length ((l ++ encs ps).map u8v) ∧ Onto w v w' (.slice A (l ++ encs ps).length c) := by
 have H0 := hide h
 have HP := hide hp
 have HS := hide hS
 have HPL := hide hpl
 obtain ⟨A1, c1, rfl⟩ : ∃ A c, pv = .slice A ps.length c := by obtain ⟨vs, _, ⟨_, A, c, h, _⟩, _⟩ := hp; exact ⟨A, c, h⟩
 obtain ⟨A0, c0, rfl⟩ := iO h
 clear h hp hS hpl
 go_enter Tryz.func124, Tryz.ntmps124
 go_wp2
 go_loopw [0, 9] (fun b i wr => ∃ (k n : Nat) (A : Option Addr) (c : Nat), k ≤ ps.length ∧ i = .int .i64 k ∧ b = .slice A n c ∧ n ≤ 1000000 + k * 1000010 ∧ Hid (n = (l ++ encs (ps.take k)).length ∧ wr.ownsRow B 5 1 (.slice A n c) n ((l ++ encs (ps.take k)).map u8v) ∧ Onto w (.slice A0 l.length c0) wr (.slice A n c))) (fun _ i _ => ps.length - (intOf i).toNat)
 case atStart => exact ⟨0, l.length, A0, c0, Nat.zero_le _, rfl, rfl, by omega, hide ⟨by simp [encs], by simpa [encs] using aA H0, Onto.refl _ _⟩⟩
 case round =>
  obtain ⟨k, n, A, c, hk, rfl, rfl, hn, HI⟩ := hrel
  by_cases hlt : k < ps.length
  ·have hpw : Parts wr (.slice A1 ps.length c1) ps := aA HS wr (aA HI).2.2.chg
   obtain ⟨vs, q1, q2, q3⟩ := hpw
   obtain ⟨u, q4, q5⟩ := q3 k ps[k] (zH hlt)
   obtain ⟨b, o, c', u', hv, _, _, hb, hu, hcc⟩ := q2.at1 hlt
   cases hv
   rw [q4] at hu
   cases hu
   obtain ⟨Au, cu, rfl⟩ : ∃ A c, u = .slice A ps[k].length c := by obtain ⟨_, A, c, h, _⟩ := q5; exact ⟨A, c, h⟩
   have hpk := aA HPL ps[k] (List.getElem_mem hlt)
   have HQ5 := hide q5
   have HE := hide (aAg ps k hlt)
   clear q1 q2 q3 q4 q5
   have hwl := iZ ps[k]
   generalize ps[k] = p at *
   have HW := hide (fun w => aBi (strOf p) w (by rw [rU]; omega))
   rw [vP] at HW
   go_wp2_with (first
    | (refine qK (src := 40) (dst := 9) (x := .tmp 14) (l := p) rfl rfl Tryz.underlying40 Tryz.underlying5 Tryz.underlying9 rfl (aA HQ5) ?_)
    | (go_at_call 128; refine (aA HW _).mono ?_; rintro e w3 ⟨A3, c3, rfl, ho3, hE3⟩; have H3 := hide (And.intro ho3 hE3); clear ho3 hE3)
    | (at_builtin; refine aU rfl rfl eG rfl (aQ (aA HI).2.1 (aA H3).2) rfl (Reads.of_own (aA H3).1) (bP.u8 _) (by omega) (Nat.le_trans hB (Nat.le_trans (aA HI).2.2.chg.size (aA H3).2.size')) ?_; intro A' c4 w4 ho hc hv; have H4 := hide (And.intro ho (((aA HI).2.2.ext (aA H3).2).trans (Onto.app hc hv))); clear ho hc hv))
   go_roundw
   case rel =>
    refine ⟨k + 1, n + (iH p).length, A', c4, by omega, by go_num, rfl, by rw [Nat.succ_mul]; omega, hide ⟨?_, ?_, (aA H4).2⟩⟩
    ·rw [aA HE, ← List.append_assoc, List.length_append, ← (aA HI).1]
    ·rw [aA HE, ← List.append_assoc, List.map_append]
     exact (aA H4).1
   case measure => simp [intOf]; omega
  ·obtain rfl : k = ps.length := by omega
   go_wp2
   go_ret
   obtain ⟨h1, h2, h3⟩ := aA HI
   rw [List.take_length] at h1 h2
   subst h1
   exact ⟨A, c, rfl, h2, h3⟩
def tC (t : Int) : UInt8 := UInt8.ofNat (t % 256).toNat
theorem aKt (t : Int) : t % 256 = ((tC t).toNat : Int) := by
 unfold tC; simp; omega
def fP (tag : Int) (ps : List (List UInt8)) : List UInt8 := (sha ([tC tag] ++ encs ps)).take 16
def rH (key label : List UInt8) (ps : List (List UInt8)) : List UInt8 := mac key (iH label ++ encs ps)
theorem bY (tag : Int) (ps : List (List UInt8)) : (fP tag ps).length = 16 := by unfold fP; rw [List.length_take, bQ]; omega
theorem nY (key label : List UInt8) (ps : List (List UInt8)) : (rH key label ps).length = 16 := oL _ _
theorem aHj (tag : Int) (ps : List (List UInt8)) (w : World) : Calls Tryz.prog 122 #[.agg ((sha ([tC tag] ++ encs ps)).map u8v).toArray] w fun e w' => e = .returned (.agg ((fP tag ps).map u8v).toArray) ∧ Ext w w' := short_any _ _ (bQ _)
theorem lS (tag : Int) (ps : List (List UInt8)) (pv : Value) (w : World) (hM : ShaMem w) (hp : Parts w pv ps) (hps : ps.length ≤ 1000) (hpl : ∀ p ∈ ps, p.length ≤ 10000) :
  Calls Tryz.prog 113 #[.int .i64 tag, pv] w fun e w' => e = .returned (.agg ((fP tag ps).map u8v).toArray) ∧ Ext w w' := by
 have HM := hide hM
 have HP := hide hp
 have HPL := hide hpl
 have HT := hide (aKt tag)
 have HB := hide (aCn ps 10000 hpl)
 clear hM hp hpl
 go_enter Tryz.func113, Tryz.ntmps113
 go_wp2_with fail
 rw [aA HT]
 refine (aLn _ [tC tag] _ ps (w.heap.size + 1) _ ?h1 ?h2 ?h3 (by simp) hps ?h4 ?h5).mono ?_
 case h1 => exact aLf _ _ _ _ (by simp) (by simp)
 case h2 => simp
 case h3 => exact (aA HP).ext (((Ext.refl w).alloc _).alloc _)
 case h4 => intro p hp; have := aA HPL p hp; omega
 case h5 =>
  intro X hX
  refine (aA HP).ext ((((Ext.refl w).alloc _).alloc _).trans' hX (fun _ _ h => h) (fun i hi e => ?_))
  simp [Value.ownBlock] at e
  omega
 rintro e w1 ⟨A, c, rfl, ho, hO⟩
 have hE : Ext w w1 := (((Ext.refl w).alloc _).alloc _).trans' hO.chg (fun _ _ h => h) (fun i hi e => by simp [Value.ownBlock] at e; omega)
 have hB : Blk w1 w.heap.size 23 (Array.replicate 16 (.int .u8 0)) := ((Blk.new w 23 (Array.replicate 16 (.int .u8 0))).alloc _).chg hO.chg (by intro e; simp [Value.ownBlock] at e)
 have H1 := hide (And.intro ho (And.intro hE hB))
 clear ho hO hE hB
 go_wp2_with fail
 refine (sum_any ([tC tag] ++ encs ps) _ _ ((aA HM).ext (aA H1).2.1) ?hr ?hl).mono ?_
 case hr => have := Reads.of_own (aA H1).1; first | exact this | (rw [List.length_append] at this; rw [List.length_append]; exact this) | (simp only [List.length_append, List.length_cons, List.length_nil] at this ⊢; exact this)
 case hl =>
  have := aA HB
  have h2 : ps.length * (10000 + 10) ≤ 1000 * (10000 + 10) := Nat.mul_le_mul_right _ hps
  simp
  omega
 rintro e w2 ⟨rfl, hE2⟩
 go_wp2_with fail
 refine (aHj tag ps _).mono ?_
 rintro e w3 ⟨rfl, hE3⟩
 have H3 := hide (And.intro ((aA H1).2.1.trans (hE2.trans hE3)) ((aA H1).2.2.ext (hE2.trans hE3)))
 clear hE2 hE3
 go_wp2_with (refine aH (ty := 23) (t := 23) (x := .tmp 4) (y := .tmp 11) rfl rfl aC rfl rfl (aA H3).2 (by simp) ?_ (bG _) ?_; (focus (simpa using bY tag ps)); intro w4 hb4 hc4 hz4; have H4 := hide (And.intro hb4 hc4); clear hb4 hc4 hz4)
 refine bodyPost_ret (v := .agg ((fP tag ps).map u8v).toArray) (aX aC rfl (aA H4).1 (by simpa using bY tag ps) rfl) rfl ⟨rfl, ?_⟩
 exact (aA H3).1.trans' (aA H4).2 (fun _ _ h => h) (fun i hi e => by omega)
theorem aPq (key : List UInt8) (kv : Value) (label : ByteArray) (ps : List (List UInt8)) (pv : Value) (w : World) (hM : ShaMem w) (hk : Reads w 1 kv key.length (key.map u8v)) (hkl : key.length ≤ 10000) (hll : label.size ≤ 10000) (hp : Parts w pv ps) (hps : ps.length ≤ 90) (hpl : ∀ p ∈ ps, p.length ≤ 10000) :
  Calls Tryz.prog 119 #[kv, .string label, pv] w fun e w' => e = .returned (.agg ((rH key label.data.toList ps).map u8v).toArray) ∧ Ext w w' := by
 have HM := hide hM
 have HK := hide hk
 have HP := hide hp
 have HPL := hide hpl
 have HB := hide (aCn ps 10000 hpl)
 have HW := hide (fun w => aBi label w (by omega))
 have HWL := hide (show (iH label.data.toList).length ≤ 10 + label.size from iZ label.data.toList)
 clear hM hp hpl hk
 go_enter Tryz.func119, Tryz.ntmps119
 go_wp2_with fail
 refine (aA HW _).mono ?_
 rintro e w1 ⟨A1, c1, rfl, ho1, hE1⟩
 have H1 := hide (And.intro ho1 hE1)
 clear ho1 hE1
 have hge : Hid (∀ k, (Value.slice A1 (iH label.data.toList).length c1).ownBlock = some k → w.heap.size + 1 ≤ k) := hide (fun k hk => by have := ((aA H1).1.lt k hk).1; simp at this; omega)
 go_wp2_with fail
 refine (aLn _ (iH label.data.toList) _ ps (w.heap.size + 1) _ ?h1 ?h2 ?h3 ?h6 (by omega) ?h4 ?h5).mono ?_
 case h1 => have := (aA H1).1; simp only [World.size_alloc] at this; exact this
 case h2 => have := (aA H1).2.size'; simp at this; omega
 case h3 => exact (aA HP).ext (((Ext.refl w).alloc _).trans (aA H1).2)
 case h6 => have := aA HWL; omega
 case h4 => intro p hp; have := aA HPL p hp; omega
 case h5 =>
  intro X hX
  refine (aA HP).ext ((((Ext.refl w).alloc _).trans (aA H1).2).trans' hX (fun _ _ h => h) (fun i hi e => ?_))
  have := aA hge i e
  omega
 rintro e w2 ⟨A, c, rfl, ho, hO⟩
 have hE : Ext w w2 := (((Ext.refl w).alloc _).trans (aA H1).2).trans' hO.chg (fun _ _ h => h) (fun i hi e => by have := aA hge i e; omega)
 have hB : Blk w2 w.heap.size 23 (Array.replicate 16 (.int .u8 0)) := ((Blk.new w 23 (Array.replicate 16 (.int .u8 0))).ext (aA H1).2).chg hO.chg (by intro e; have := aA hge _ e; omega)
 have H2 := hide (And.intro ho (And.intro hE hB))
 clear ho hO hE hB
 go_wp2_with fail
 refine (mac_any key (iH label.data.toList ++ encs ps) _ _ _ ((aA HM).ext (aA H2).2.1) ((aA HK).ext (aA H2).2.1) ?hr (by omega) ?hl).mono ?_
 case hr => have := Reads.of_own (aA H2).1; rw [List.length_append] at this; rw [List.length_append]; exact this
 case hl =>
  have := aA HB
  have := aA HWL
  have h2 : ps.length * (10000 + 10) ≤ 90 * (10000 + 10) := Nat.mul_le_mul_right _ hps
  simp
  omega
 rintro e w3 ⟨rfl, hE3⟩
 have H3 := hide (And.intro ((aA H2).2.1.trans hE3) ((aA H2).2.2.ext hE3))
 clear hE3
 go_wp2_with (refine aH (ty := 23) (t := 23) (x := .tmp 6) (y := .tmp 12) rfl rfl aC rfl rfl (aA H3).2 (by simp) ?_ (bG _) ?_; (focus (first | (simpa using nY _ _ _) | (simpa using oL _ _))); intro w4 hb4 hc4 hz4; have H4 := hide (And.intro hb4 hc4); clear hb4 hc4 hz4)
 refine bodyPost_ret (v := .agg ((rH key label.data.toList ps).map u8v).toArray) (aX aC rfl (aA H4).1 (by simpa using nY _ _ _) rfl) rfl ⟨rfl, ?_⟩
 exact (aA H3).1.trans' (aA H4).2 (fun _ _ h => h) (fun i hi e => by omega)
theorem rmac_any (key b : List UInt8) (kv bv : Value) (w : World) (hk : Reads w 1 kv key.length (key.map u8v)) (hb : Reads w 1 bv b.length (b.map u8v)) (hkl : key.length ≤ 1000000) (hbl : b.length ≤ 1000000) :
  Calls Tryz.prog 112 #[kv, bv] w fun e w' => e = .returned (.agg ((mac key b).map u8v).toArray) ∧ Ext w w' := by
 have HH := hide (aRp key b kv bv _ (hk.ext ((Ext.refl w).alloc (.cells (Array.replicate 16 (.int .u8 0)) 23))) (hb.ext ((Ext.refl w).alloc _)) hkl hbl)
 have HL := hide (oL key b)
 clear hk hb
 go_enter Tryz.func112, Tryz.ntmps112
 go_wp2_with fail
 refine (aA HH).mono ?_
 rintro e w1 ⟨rfl, hE1⟩
 go_wp2_with fail
 refine (aBu (hmac key b) _ (tV _ _)).mono ?_
 rintro e w2 ⟨rfl, hE2⟩
 have hB := (Blk.new w 23 (Array.replicate 16 (.int .u8 0))).ext (hE1.trans hE2)
 have HB := hide (And.intro hB (hE1.trans hE2))
 clear hB hE1 hE2
 rw [show (hmac key b).take 16 = mac key b from rfl]
 go_wp2_with (refine aH (ty := 23) (t := 23) (x := .tmp 4) (y := .tmp 8) rfl rfl aC rfl rfl (aA HB).1 (by simp) ?_ (bG _) ?_; (focus (simpa using aA HL)); intro w3 hb3 hc3 hz3; have H3 := hide (And.intro hb3 hc3); clear hb3 hc3 hz3)
 refine bodyPost_ret (v := .agg ((mac key b).map u8v).toArray) (aX aC rfl (aA H3).1 (by simpa using aA HL) rfl) rfl ⟨rfl, ?_⟩
 exact (((Ext.refl w).alloc _).trans (aA HB).2).trans' (aA H3).2 (fun _ _ h => h) (fun i hi e => by omega)
theorem gb_one (w : World) (o : Obj) (x : UInt8) : GB w (w.heap.size + 1) (.slice (some ⟨w.heap.size + 1, 0, none⟩) 1 1) 1 [x] ((w.alloc o).alloc (.cells #[.int .u8 (x.toNat : Int)] 5)) :=
 ⟨aLf _ _ _ _ (by simp) (by simp), ((Ext.refl w).alloc _).alloc _, by omega, by simp⟩
theorem gb_empty (w : World) (o : Obj) : GB w (w.heap.size + 1) (.slice (some ⟨w.heap.size + 1, 0, none⟩) 0 0) 0 [] ((w.alloc o).alloc (.cells #[] 5)) :=
 ⟨aBv _ _ _ _ (by simp) (by simp), ((Ext.refl w).alloc _).alloc _, by omega, by simp⟩
theorem jK (tag : Int) (ps : List (List UInt8)) (pv : Value) (w : World) (hp : Parts w pv ps) (hps : ps.length ≤ 1000) (hpl : ∀ p ∈ ps, p.length ≤ 10000) :
  Calls Tryz.prog 45 #[.int .i64 tag, pv] w fun e w' => e = .returned (.agg ((fP tag ps).map u8v).toArray) ∧ Ext w w' := by
 have HP := hide hp
 have HPL := hide hpl
 obtain ⟨A1, c1, rfl⟩ : ∃ A c, pv = .slice A ps.length c := by obtain ⟨vs, _, ⟨_, A, c, h, _⟩, _⟩ := hp; exact ⟨A, c, h⟩
 clear hp hpl
 obtain ⟨l0, hl0⟩ : ∃ l, l = [tC tag] := ⟨_, rfl⟩
 have HL0 := hide hl0
 have HI0 := hide (show GB w (w.heap.size + 1) (.slice (some ⟨w.heap.size + 1, 0, none⟩) 1 1) 1 (l0 ++ encs (ps.take 0)) ((w.alloc (.cells (cZ 16 []) 23)).alloc (.cells #[.int .u8 (tag % 256)] 5)) ∧ Blk ((w.alloc (.cells (cZ 16 []) 23)).alloc (.cells #[.int .u8 (tag % 256)] 5)) w.heap.size 23 (cZ 16 []) from by
  rw [hl0, aKt, List.take_zero, show encs [] = [] from rfl, List.append_nil]
  exact ⟨gb_one _ _ _, (Blk.new _ _ _).alloc _⟩)
 clear hl0
 go_enter Tryz.func45, Tryz.ntmps45
 go_wp2
 go_loopw [5, 6] (fun b i wr => ∃ (k n : Nat) (A : Option Addr) (c : Nat), k ≤ ps.length ∧ i = .int .i64 k ∧ b = .slice A n c ∧ n ≤ 90000 + k * 10010 ∧ Hid (GB w (w.heap.size + 1) (.slice A n c) n (l0 ++ encs (ps.take k)) wr ∧ Blk wr w.heap.size 23 (cZ 16 []))) (fun _ i _ => ps.length - (intOf i).toNat)
 case atStart => exact ⟨0, _, _, _, Nat.zero_le _, rfl, rfl, by omega, HI0⟩
 case round =>
  clear HI0
  obtain ⟨k, n, A, c, hk, rfl, rfl, hn, HI⟩ := hrel
  by_cases hlt : k < ps.length
  ·have hpw : Parts wr (.slice A1 ps.length c1) ps := (aA HP).ext (aA HI).1.ext
   obtain ⟨vs, q1, q2, q3⟩ := hpw
   obtain ⟨u, q4, q5⟩ := q3 k ps[k] (zH hlt)
   obtain ⟨b, o, c', u', hv, _, _, hb, hu, hcc⟩ := q2.at1 hlt
   cases hv
   rw [q4] at hu
   cases hu
   obtain ⟨Au, cu, rfl⟩ : ∃ A c, u = .slice A ps[k].length c := by obtain ⟨_, A, c, h, _⟩ := q5; exact ⟨A, c, h⟩
   have hpk := aA HPL ps[k] (List.getElem_mem hlt)
   have HQ5 := hide q5
   have HE := hide (aAg ps k hlt)
   clear q1 q2 q3 q4 q5
   have hwl := iZ ps[k]
   generalize ps[k] = p at *
   have HW := hide (fun w => vT (strOf p) w (by rw [rU]; omega))
   rw [vP] at HW
   go_wp2_with (first
    | (refine qK (src := 40) (dst := 9) (x := .tmp 20) (l := p) rfl rfl Tryz.underlying40 Tryz.underlying5 Tryz.underlying9 rfl (aA HQ5) ?_)
    | (go_at_call 63; refine (aA HW _).mono ?_; rintro e w3 ⟨A3, c3, rfl, ho3, hE3⟩; have H3 := hide (And.intro ho3 hE3); clear ho3 hE3)
    | (at_builtin; refine aU rfl rfl eG rfl (aQ (aA HI).1.own (aA H3).2) rfl (Reads.of_own (aA H3).1) (bP.u8 _) (by omega) (Nat.le_trans (aA HI).1.room (aA H3).2.size') ?_; intro A' c4 w4 ho hc hv; have H4 := hide (And.intro ho hc); clear ho hc hv))
   go_roundw
   case rel =>
    refine ⟨k + 1, n + (iH p).length, A', c4, by omega, by go_num, rfl, by rw [Nat.succ_mul]; omega, hide ⟨?_, (aA HI).1.blk (aA H3).2 (aA H4).2 (aA HI).2 (Nat.lt_succ_self _)⟩⟩
    rw [aA HE, ← List.append_assoc]
    exact (aA HI).1.step (aA H3).2 (aA H4).2 (vX (aA H4).1)
   case measure => simp [intOf]; omega
  ·obtain rfl : k = ps.length := by omega
   clear hlt hk
   rw [List.take_length] at HI
   obtain ⟨ll, hll⟩ : ∃ l, l0 ++ encs ps = l := ⟨_, rfl⟩
   rw [hll] at HI
   have HLL := hide hll
   clear hll
   have hn' : n ≤ 100000000 := by omega
   go_wp2_with fail
   refine (rW ll _ _ (aA HI).1.readsL (by rw [(aA HI).1.len]; exact hn')).mono ?_
   rintro e w8 ⟨rfl, hE8⟩
   have HE8 := hide hE8
   clear hE8
   go_wp2_with fail
   refine (aBu (sha ll) _ (bQ _)).mono ?_
   rintro e w9 ⟨rfl, hE9'⟩
   have hE9 := (aA HE8).trans hE9'
   clear hE9'
   obtain ⟨rr, hrr⟩ : ∃ r, (sha ll).take 16 = r := ⟨_, rfl⟩
   have hrl : rr.length = 16 := by rw [← hrr, List.length_take, bQ]; rfl
   rw [hrr]
   have HRR := hide hrr
   clear hrr
   have HSZ := hide hrl
   have H9 := hide (And.intro ((aA HI).1.ext.trans hE9) ((aA HI).2.ext hE9))
   clear hE9
   go_wp2_with (refine aH (ty := 23) (t := 23) (x := .tmp 4) (y := .tmp 26) rfl rfl aC rfl rfl (aA H9).2 (jO (by simp)) (by simpa using aA HSZ) (bG _) ?_; intro w10 hb10 hc10 hz10; have H10 := hide (And.intro hb10 hc10); clear hb10 hc10 hz10)
   refine bodyPost_ret (aX aC rfl (aA H10).1 (by simpa using aA HSZ) rfl) rfl ⟨(by unfold fP; rw [← aA HL0, aA HLL, aA HRR]), ?_⟩
   exact (aA H9).1.trans' (aA H10).2 (fun _ _ h => h) (fun i hi e => by omega)
theorem aIx (key : List UInt8) (kv : Value) (label : ByteArray) (ps : List (List UInt8)) (pv : Value) (w : World) (hk : Reads w 1 kv key.length (key.map u8v)) (hkl : key.length ≤ 10000) (hll : label.size ≤ 10000) (hp : Parts w pv ps) (hps : ps.length ≤ 90) (hpl : ∀ p ∈ ps, p.length ≤ 10000) :
  Calls Tryz.prog 91 #[kv, .string label, pv] w fun e w' => e = .returned (.agg ((rH key label.data.toList ps).map u8v).toArray) ∧ Ext w w' := by
 have HP := hide hp
 have HPL := hide hpl
 have HK := hide hk
 obtain ⟨A1, c1, rfl⟩ : ∃ A c, pv = .slice A ps.length c := by obtain ⟨vs, _, ⟨_, A, c, h, _⟩, _⟩ := hp; exact ⟨A, c, h⟩
 clear hp hpl hk
 have hl0l : (iH label.data.toList).length ≤ 10 + label.size := iZ label.data.toList
 have HW0 := hide (fun w => vT label w (by omega))
 obtain ⟨l0, hl0⟩ : ∃ l, iH label.data.toList = l := ⟨_, rfl⟩
 rw [hl0] at HW0 hl0l
 have HL0 := hide hl0
 clear hl0
 go_enter Tryz.func91, Tryz.ntmps91
 go_wp2_with fail
 refine (aA HW0 _).mono ?_
 rintro e w1 ⟨A0, c0, rfl, ho0, hE0⟩
 have H1 := hide (show GB w (w.heap.size + 1) (.slice (some ⟨w.heap.size + 1, 0, none⟩) 0 0) 0 [] w1 ∧ Blk w1 w.heap.size 23 (cZ 16 []) ∧ Reads w1 1 (.slice A0 l0.length c0) l0.length (l0.map u8v) from
  ⟨(gb_empty w _).to hE0, ((Blk.new w _ _).alloc _).ext hE0, Reads.of_own ho0⟩)
 clear ho0 hE0
 go_wp2_with (at_builtin; refine aU rfl rfl eG rfl (aA H1).1.own rfl (aA H1).2.2 (bP.u8 _) (by omega) (aA H1).1.room ?_; intro A2 c2 w2 ho hc hv; have H2 := hide (And.intro ho hc); clear ho hc hv)
 have HI0 := hide (show GB w (w.heap.size + 1) (.slice A2 (0 + l0.length) c2) (0 + l0.length) (l0 ++ encs (ps.take 0)) w2 ∧ Blk w2 w.heap.size 23 (cZ 16 []) from
  ⟨by rw [List.take_zero, show encs [] = [] from rfl, List.append_nil]; exact (aA H1).1.step (Ext.refl _) (aA H2).2 (aA H2).1, (aA H1).1.blk (Ext.refl _) (aA H2).2 (aA H1).2.1 (Nat.lt_succ_self _)⟩)
 rw [Nat.zero_add] at HI0
 clear H1 H2
 go_loopw [7, 8] (fun b i wr => ∃ (k n : Nat) (A : Option Addr) (c : Nat), k ≤ ps.length ∧ i = .int .i64 k ∧ b = .slice A n c ∧ n ≤ 90000 + k * 10010 ∧ Hid (GB w (w.heap.size + 1) (.slice A n c) n (l0 ++ encs (ps.take k)) wr ∧ Blk wr w.heap.size 23 (cZ 16 []))) (fun _ i _ => ps.length - (intOf i).toNat)
 case atStart => exact ⟨0, _, _, _, Nat.zero_le _, rfl, rfl, by omega, HI0⟩
 case round =>
  clear HI0
  obtain ⟨k, n, A, c, hk, rfl, rfl, hn, HI⟩ := hrel
  by_cases hlt : k < ps.length
  ·have hpw : Parts wr (.slice A1 ps.length c1) ps := (aA HP).ext (aA HI).1.ext
   obtain ⟨vs, q1, q2, q3⟩ := hpw
   obtain ⟨u, q4, q5⟩ := q3 k ps[k] (zH hlt)
   obtain ⟨b, o, c', u', hv, _, _, hb, hu, hcc⟩ := q2.at1 hlt
   cases hv
   rw [q4] at hu
   cases hu
   obtain ⟨Au, cu, rfl⟩ : ∃ A c, u = .slice A ps[k].length c := by obtain ⟨_, A, c, h, _⟩ := q5; exact ⟨A, c, h⟩
   have hpk := aA HPL ps[k] (List.getElem_mem hlt)
   have HQ5 := hide q5
   have HE := hide (aAg ps k hlt)
   clear q1 q2 q3 q4 q5
   have hwl := iZ ps[k]
   generalize ps[k] = p at *
   have HW := hide (fun w => vT (strOf p) w (by rw [rU]; omega))
   rw [vP] at HW
   go_wp2_with (first
    | (refine qK (src := 40) (dst := 9) (x := .tmp 23) (l := p) rfl rfl Tryz.underlying40 Tryz.underlying5 Tryz.underlying9 rfl (aA HQ5) ?_)
    | (go_at_call 63; refine (aA HW _).mono ?_; rintro e w3 ⟨A3, c3, rfl, ho3, hE3⟩; have H3 := hide (And.intro ho3 hE3); clear ho3 hE3)
    | (at_builtin; refine aU rfl rfl eG rfl (aQ (aA HI).1.own (aA H3).2) rfl (Reads.of_own (aA H3).1) (bP.u8 _) (by omega) (Nat.le_trans (aA HI).1.room (aA H3).2.size') ?_; intro A' c4 w4 ho hc hv; have H4 := hide (And.intro ho hc); clear ho hc hv))
   go_roundw
   case rel =>
    refine ⟨k + 1, n + (iH p).length, A', c4, by omega, by go_num, rfl, by rw [Nat.succ_mul]; omega, hide ⟨?_, (aA HI).1.blk (aA H3).2 (aA H4).2 (aA HI).2 (Nat.lt_succ_self _)⟩⟩
    rw [aA HE, ← List.append_assoc]
    exact (aA HI).1.step (aA H3).2 (aA H4).2 (vX (aA H4).1)
   case measure => simp [intOf]; omega
  ·obtain rfl : k = ps.length := by omega
   clear hlt hk
   rw [List.take_length] at HI
   obtain ⟨ll, hll⟩ : ∃ l, l0 ++ encs ps = l := ⟨_, rfl⟩
   rw [hll] at HI
   have HLL := hide hll
   clear hll
   have hn' : n ≤ 1000000 := by omega
   go_wp2_with fail
   refine (rmac_any key ll _ _ _ ((aA HK).ext (aA HI).1.ext) (aA HI).1.readsL (by omega) (by rw [(aA HI).1.len]; exact hn')).mono ?_
   rintro e w9 ⟨rfl, hE9⟩
   have HSZ := hide (oL key ll)
   have H9 := hide (And.intro ((aA HI).1.ext.trans hE9) ((aA HI).2.ext hE9))
   clear hE9
   go_wp2_with (refine aH (ty := 23) (t := 23) (x := .tmp 6) (y := .tmp 29) rfl rfl aC rfl rfl (aA H9).2 (jO (by simp)) (by simpa using aA HSZ) (bG _) ?_; intro w10 hb10 hc10 hz10; have H10 := hide (And.intro hb10 hc10); clear hb10 hc10 hz10)
   refine bodyPost_ret (aX aC rfl (aA H10).1 (by simpa using aA HSZ) rfl) rfl ⟨(by unfold rH; rw [aA HL0, aA HLL]), ?_⟩
   exact (aA H9).1.trans' (aA H10).2 (fun _ _ h => h) (fun i hi e => by omega)
theorem ylm {S : World → Prop} {ops : Array Oper} {o : Oper} {a : Act} {T : TypeId} {n : Nat} (Wd : Wide Tryz.prog T n) {x : Operand} (ho : o.op = .load T x) (hw : Region.wanted o (yielded ops a.tmps) = true) {g off : Nat} {cs : List Value} (hx : a.eval x = .pointer (some ⟨g, off, none⟩)) (hn : cs.length = n) (hB : ∀ w, S w → w.rangeAt g off cs) : YieldsIf Tryz.prog ops S o (.agg cs.toArray) a := by
 obtain ⟨d, hu, hd⟩ := Wd.und
 exact yieldsIf_load_mid (P := Tryz.prog) (S := S) hw T x ho g off hx cs d hB hu hd (by rw [hn]; exact Wd.info)
theorem ylb {S : World → Prop} {ops : Array Oper} {o : Oper} {a : Act} {T : TypeId} {n : Nat} (Wd : Wide Tryz.prog T n) {x : Operand} (ho : o.op = .load T x) (hw : Region.wanted o (yielded ops a.tmps) = true) {g : Nat} {t : TypeId} {cs : Array Value} (hx : a.eval x = .pointer (some ⟨g, 0, none⟩)) (hn : cs.size = n) (hB : ∀ w, S w → Blk w g t cs) : YieldsIf Tryz.prog ops S o (.agg cs) a := by
 have := ylm (S := S) (ops := ops) (o := o) (a := a) Wd ho hw (cs := cs.toList) hx (by rw [Array.length_toList, hn]) (fun w h => (hB w h).range)
 rwa [Array.toArray_toList] at this
theorem zN {w w' : World} {g o : Nat} {cs : List Value} (h : w.rangeAt g o cs) (hE : Ext w w') : w'.rangeAt g o cs := fun j v hj => Ext.cellv hE (h j v hj)
theorem aLh {w w1 w2 : World} {o : Obj} (h : Ext w w1) (hc : Chg (fun k => k = w1.heap.size) (w1.alloc o) w2) : Ext w w2 := (h.alloc _).trans' hc (fun _ _ h => h) (fun i hi e => by have := h.size'; omega)
theorem aSv {w1 w2 : World} {o : Obj} (hc : Chg (fun k => k = w1.heap.size) (w1.alloc o) w2) : Ext w1 w2 := aLh (Ext.refl w1) hc
theorem uI {P : Program} {ops : Array Oper} {rest : List Oper} {o : Oper} {a : Act} {w : World} {Q : Exit → Act → World → Prop} (hgd : Region.wanted o (yielded ops a.tmps) = true) {ty : TypeId} {x : Operand} (ho : o.op = .load ty x) {n : Nat} (W : Wide P ty n)
  {g off : Nat} (hx : a.eval x = .pointer (some ⟨g, off, none⟩)) {cs : List Value} (hB : w.rangeAt g off cs) (hn : cs.length = n) (h : wpList P ops Q rest (a.put o.dst (.agg cs.toArray)) w) : wpList P ops Q (o :: rest) a w := by
 obtain ⟨d, hu, hd⟩ := W.und
 exact Go.BigFrame.wpList_want hgd fun _ hK => wp_load_mid ty x ho g off hx cs d hB hu hd (by rw [hn]; exact W.info) (hK _ _ h)
def iP (ds : List (List UInt8)) : List Value := ds.flatMap fun d => d.map u8v
def D16 (ds : List (List UInt8)) : Prop := ∀ d ∈ ds, d.length = 16
theorem D16.cons {d : List UInt8} {ds : List (List UInt8)} (h : D16 (d :: ds)) : d.length = 16 ∧ D16 ds := ⟨h d List.mem_cons_self, fun x hx => h x (List.mem_cons_of_mem _ hx)⟩
theorem D16.nil : D16 [] := fun d h => by cases h
theorem D16.append {a b : List (List UInt8)} (h : D16 a) (k : D16 b) : D16 (a ++ b) := fun d hd => (List.mem_append.1 hd).elim (h d) (k d)
theorem D16.one {d : List UInt8} (h : d.length = 16) : D16 [d] := fun x hx => by simp at hx; subst hx; exact h
theorem D16.get {ds : List (List UInt8)} (h : D16 ds) {k : Nat} (hk : k < ds.length) : ds[k].length = 16 := h _ (List.getElem_mem hk)
theorem qA (a b : List (List UInt8)) : iP (a ++ b) = iP a ++ iP b := List.flatMap_append
theorem wH (d : List UInt8) : iP [d] = d.map u8v := by unfold iP; simp
theorem lK : ∀ {ds : List (List UInt8)}, D16 ds → (iP ds).length = ds.length * 16
 | [], _ => rfl
 | d :: ds, h => by
  have := lK h.cons.2
  unfold iP at this ⊢
  rw [List.flatMap_cons, List.length_append, this, List.length_map, h.cons.1, List.length_cons]
  omega
theorem rJ : ∀ {ds : List (List UInt8)}, D16 ds → ∀ (k : Nat) (hk : k < ds.length) (j : Nat), j < 16 → (iP ds)[k * 16 + j]? = (ds[k].map u8v)[j]?
 | [], _, k, hk, _, _ => by simp at hk
 | d :: ds, h, 0, _, j, hj => by
  unfold iP
  rw [List.flatMap_cons, List.getElem?_append_left (by rw [List.length_map, h.cons.1]; omega)]
  simp
 | d :: ds, h, k + 1, hk, j, hj => by
  have := rJ h.cons.2 k (by simpa using hk) j hj
  unfold iP at this ⊢
  rw [List.flatMap_cons, List.getElem?_append_right (by rw [List.length_map, h.cons.1]; omega), List.length_map, h.cons.1, show (k + 1) * 16 + j - 16 = k * 16 + j from by omega, this]
  rfl
def Digs (w : World) (v : Value) (ds : List (List UInt8)) : Prop := D16 ds ∧ Reads w 16 v ds.length (iP ds)
section
variable {w w' : World} {v : Value} {ds : List (List UInt8)}
theorem Digs.ext (h : Digs w v ds) (hE : Ext w w') : Digs w' v ds := ⟨h.1, h.2.ext hE⟩
theorem Digs.nil (w : World) : Digs w (.slice none 0 0) [] := ⟨D16.nil, Reads.nil w 16⟩
theorem Digs.form (h : Digs w v ds) : ∃ A c, v = .slice A ds.length c ∧ ds.length ≤ c ∧ c ≤ maxLen := by
 obtain ⟨_, _, A, c, h, h1, h2, _⟩ := h
 exact ⟨A, c, h, h1, h2⟩
theorem Digs.at (h : Digs w v ds) {k : Nat} (hk : k < ds.length) : ∃ b o c, v = .slice (some ⟨b, o, none⟩) ds.length c ∧ ds.length ≤ c ∧ c ≤ maxLen ∧ b < w.heap.size ∧ w.rangeAt b (o + k * 16) (ds[k].map u8v) := by
 obtain ⟨hd, hl, A, c, rfl, h1, h2, h3⟩ := h
 obtain ⟨b, o, rfl, hc⟩ := h3 (by omega)
 have hlk := hd.get hk
 refine ⟨b, o, c, rfl, h1, h2, ?_, fun j u hu => ?_⟩
 ·have e := rJ hd k hk 0 (by omega)
  have e2 : (ds[k].map u8v)[0]? = some (u8v (ds[k][0]'(by omega))) := by rw [List.getElem?_map, zH (show 0 < ds[k].length by omega)]; rfl
  exact lt_of_cell (hc _ _ (e.trans e2))
 ·have hj : j < 16 := by
   rcases Nat.lt_or_ge j 16 with h | h
   ·exact h
   ·rw [List.getElem?_eq_none (by rw [List.length_map]; omega)] at hu; cases hu
  rw [Nat.add_assoc]
  exact hc _ _ ((rJ hd k hk j hj).trans hu)
theorem Digs.sub (h : Digs w v ds) (i m c' : Nat) (hi : i + m ≤ ds.length) (hm : 0 < m) (hc1 : m ≤ c') (hc2 : c' ≤ maxLen) :
  ∃ b o c, v = .slice (some ⟨b, o, none⟩) ds.length c ∧ Digs w (.slice (some ⟨b, o + i * 16, none⟩) m c') ((ds.drop i).take m) := by
 obtain ⟨b, o, c, rfl, h1, h2, hb, _⟩ := h.at (k := i) (by omega)
 obtain ⟨hd, hl, A, c2, e, _, _, h3⟩ := h
 cases e
 obtain ⟨b', o', e, hc⟩ := h3 (by omega)
 cases e
 have hd' : D16 ((ds.drop i).take m) := fun d hx => hd d (List.mem_of_mem_drop (List.mem_of_mem_take hx))
 have hlen : ((ds.drop i).take m).length = m := by simp; omega
 refine ⟨b, o, c, rfl, hd', ?_⟩
 rw [hlen]
 refine ⟨by rw [lK hd', hlen], _, c', rfl, hc1, hc2, fun _ => ⟨b, o + i * 16, rfl, fun j u hu => ?_⟩⟩
 have hj : j < m * 16 := by
  rcases Nat.lt_or_ge j (m * 16) with h | h
  ·exact h
  ·rw [List.getElem?_eq_none (by rw [lK hd', hlen]; omega)] at hu; cases hu
 have e1 := rJ hd' (j / 16) (by rw [hlen]; omega) (j % 16) (by omega)
 have e2 := rJ hd (i + j / 16) (by omega) (j % 16) (by omega)
 rw [show j / 16 * 16 + j % 16 = j from by omega, hu] at e1
 have e3 : ((ds.drop i).take m)[j / 16]'(by rw [hlen]; omega) = ds[i + j / 16]'(by omega) := by simp
 rw [e3, ← e2] at e1
 have := hc _ _ e1.symm
 rw [show (o + i * 16 + j) = o + ((i + j / 16) * 16 + j % 16) from by omega]
 exact this
end
theorem gY : SlTy Tryz.prog 30 23 16 16 := SlTy.mk' (z := .agg (Array.replicate 16 (.int .u8 0))) (by kernel_rfl) (by kernel_rfl) rfl (by omega) (by omega)
theorem aLu : ∀ (l : List Value) (pre old : List Value), old.length = l.length → (l.zipIdx pre.length).foldl (fun (acc : Array Value) x => acc.setIfInBounds (0 + x.2) x.1) (pre ++ old).toArray = (pre ++ l).toArray
 | [], pre, old, h => by cases old with | nil => rfl | cons => simp at h
 | v :: l, pre, old, h => by
  cases old with
  | nil => simp at h
  | cons x old =>
   rw [List.zipIdx_cons, List.foldl_cons]
   have e : (pre ++ x :: old).toArray.setIfInBounds (0 + pre.length) v = ((pre ++ [v]) ++ old).toArray := by simp
   have := aLu l (pre ++ [v]) old (by simpa using h)
   simp only [List.length_append, List.length_cons, List.length_nil, Nat.zero_add, List.append_assoc, List.singleton_append] at this e ⊢
   rw [e]
   exact this
theorem aLx (old cs : Array Value) (n : Nat) (ho : old.size = n) (hc : cs.size = n) : Instr.fill (fun i => some (i * n, n)) old [(0, .agg cs)] = some cs := by
 unfold Instr.fill
 simp only [Nat.zero_mul]
 have h1 : (Value.agg cs).cells = cs := rfl
 rw [h1, if_neg (by simp; omega)]
 unfold Instr.fill
 have := aLu cs.toList [] old.toList (by simp; omega)
 simp only [List.length_nil, List.nil_append, Array.toArray_toList] at this
 rw [← Array.foldl_toList, Array.toList_zipIdx]
 exact congrArg some this
section
variable {P : Program}
theorem uH {o : Oper} {a : Act} {w : World} {K : Act → World → Prop} {Q : Exit → Act → World → Prop} {t e : TypeId} {size bytes : Nat} (T : SlTy P t e size bytes) (hsz : size ≤ 1000) {x : Operand} (ho : o.op = .buildSlice t 1 #[(0, x)]) {cs : Array Value} (hx : a.eval x = .agg cs) (hn : cs.size = size)
  (h : K (a.put o.dst (.slice (some ⟨w.heap.size, 0, none⟩) 1 1)) (w.alloc (.cells cs e))) : o.wp P a w K Q := by
 obtain ⟨ht, ⟨i, z, hi, hz, hsize, _, hzs⟩, h0, _⟩ := T
 refine wp_buildSlice t e 1 #[(0, x)] ho cs i z ht hi hz (by rw [hsize]; omega) (by rw [hsize]; omega) ?_ h
 rw [hsize]
 have := aLx ((Array.range (1 * size)).map (z.cells[· % z.cells.size]!)) cs size (by simp) hn
 simpa [hx] using this
theorem kX {ops : Array Oper} {rest : List Oper} {o : Oper} {a : Act} {w : World} {Q : Exit → Act → World → Prop} (hgd : o.guard = none) {t e : TypeId} {size bytes : Nat} (T : SlTy P t e size bytes) (hsz : size ≤ 1000) {x : Operand} (ho : o.op = .buildSlice t 1 #[(0, x)]) {cs : Array Value} (hx : a.eval x = .agg cs) (hn : cs.size = size)
  (h : wpList P ops Q rest (a.put o.dst (.slice (some ⟨w.heap.size, 0, none⟩) 1 1)) (w.alloc (.cells cs e))) : wpList P ops Q (o :: rest) a w :=
 wpList_plain hgd fun _ hK => uH T hsz ho hx hn (hK _ _ h)
end
theorem Reads.newD (w : World) (e : TypeId) (d : List UInt8) (h : d.length = 16) {g : Nat} (hg : g = w.heap.size) : Reads (w.alloc (.cells (d.map u8v).toArray e)) 16 (.slice (some ⟨g, 0, none⟩) 1 1) 1 (d.map u8v) := by
 subst hg
 refine ⟨by rw [List.length_map, h], _, 1, rfl, Nat.le_refl _, by unfold maxLen; omega, fun _ => ⟨_, 0, rfl, fun j u hu => ?_⟩⟩
 rw [Nat.zero_add, (Blk.new w e _).cell]
 simpa using hu
structure GD (w0 : World) (B : Nat) (v : Value) (n : Nat) (ds : List (List UInt8)) (wr : World) : Prop where
 own : wr.ownsRow B 23 16 v n (iP ds)
 all : D16 ds
 ext : Ext w0 wr
 base : w0.heap.size ≤ B
 room : B ≤ wr.heap.size
theorem GD.nil {w0 wr : World} {B : Nat} (hE : Ext w0 wr) (hB : w0.heap.size ≤ B) (hR : B ≤ wr.heap.size) : GD w0 B (.slice none 0 0) 0 [] wr := ⟨World.ownsRow_nil _ _ _ _, D16.nil, hE, hB, hR⟩
theorem GD.len {w0 wr : World} {B n : Nat} {v : Value} {ds : List (List UInt8)} (h : GD w0 B v n ds wr) : ds.length = n := by have := h.own.1; rw [lK h.all] at this; omega
theorem GD.to {w0 wr w1 : World} {B n : Nat} {v : Value} {ds : List (List UInt8)} (h : GD w0 B v n ds wr) (hE : Ext wr w1) : GD w0 B v n ds w1 := ⟨aQ h.own hE, h.all, h.ext.trans hE, h.base, Nat.le_trans h.room hE.size'⟩
theorem GD.step {w0 wr w1 w2 : World} {B n n' : Nat} {v v' : Value} {ds : List (List UInt8)} {d : List UInt8} (hd : d.length = 16) (h : GD w0 B v n ds wr) (hE : Ext wr w1) (hc : Chg (fun k => v.ownBlock = some k) w1 w2) (ho : w2.ownsRow B 23 16 v' n' (iP ds ++ d.map u8v)) : GD w0 B v' n' (ds ++ [d]) w2 :=
 ⟨by rw [qA, wH]; exact ho, h.all.append (D16.one hd), (h.ext.trans hE).trans' hc (fun _ _ h => h) (fun i hi e => by have := (h.own.lt i e).1; have := h.base; omega), h.base, Nat.le_trans h.room (Nat.le_trans hE.size' hc.size)⟩
theorem GD.digs {w0 wr : World} {B n : Nat} {v : Value} {ds : List (List UInt8)} (h : GD w0 B v n ds wr) : Digs wr v ds := ⟨h.all, by have := Reads.of_own h.own; rwa [← h.len] at this⟩
end Go.Proofs.YtihghljfmlbfhaaGreatDoor
namespace Go.Proofs.YtihghljfmlbfhaaGreatDoor
open Go.RowKit
theorem Parts.two {w : World} {pv a b : Value} {la lb : List UInt8} (h : Reads w 1 pv 2 [a, b]) (ha : Reads w 1 a la.length (la.map u8v)) (hb : Reads w 1 b lb.length (lb.map u8v)) : Parts w pv [la, lb] :=
 ⟨[a, b], rfl, h, fun i p hp => by
  match i, hp with
  | 0, hp => cases hp; exact ⟨_, rfl, ha⟩
  | 1, hp => cases hp; exact ⟨_, rfl, hb⟩
  | i + 2, hp => simp at hp⟩
theorem Parts.one {w : World} {pv a : Value} {la : List UInt8} (h : Reads w 1 pv 1 [a]) (ha : Reads w 1 a la.length (la.map u8v)) : Parts w pv [la] :=
 ⟨[a], rfl, h, fun i p hp => by
  match i, hp with
  | 0, hp => cases hp; exact ⟨_, rfl, ha⟩
  | i + 1, hp => simp at hp⟩
theorem Blk.digR {w : World} {g : Nat} {t : TypeId} {d : List UInt8} (h : Blk w g t (d.map u8v).toArray) (hd : d.length = 16) : Reads w 1 (.slice (some ⟨g, 0, none⟩) 16 16) d.length (d.map u8v) := by
 have := Reads.of_blk h (i := 0) (n := 16) (c := 16) (by simp; omega) (by omega) (by unfold maxLen; omega)
 simp only [List.drop_zero] at this
 rw [List.take_of_length_le (by simp; omega)] at this
 rw [hd]
 exact this
theorem Reads.new2 (w : World) (a b : Value) (e : TypeId) {g : Nat} (hg : g = w.heap.size) : Reads (w.alloc (.cells #[a, b] e)) 1 (.slice (some ⟨g, 0, none⟩) 2 2) 2 [a, b] := by
 subst hg
 exact Reads.of_blk (Blk.new w e #[a, b]) (i := 0) (n := 2) (c := 2) (by simp) (by omega) (by unfold maxLen; omega)
theorem ShaMem.lt {w : World} (h : ShaMem w) : 1 < w.heap.size ∧ 0 < w.heap.size := ⟨lt_of_cell (h.k 0 _ rfl), lt_of_cell (h.h 0 _ rfl)⟩
theorem ShaMem.past {w0 w w' : World} {B : Nat} (h0 : ShaMem w0) (hB : w0.heap.size ≤ B) (h : ShaMem w) (hc : Chg (fun k => B ≤ k) w w') : ShaMem w' := h.chg hc (by have := h0.lt; omega) (by have := h0.lt; omega)
theorem mkfun (fn : Fn) (first cap : Array Value) (w : World) : (Instr.makeFunc fn first cap).run Tryz.prog w = .ok (.func fn first cap) w := rfl
theorem Digs.chg {S : Nat → Prop} {w w' : World} {v : Value} {ds : List (List UInt8)} (h : Digs w v ds) (hc : Chg S w w') (hS : ∀ k, v.ownBlock = some k → ¬ S k) : Digs w' v ds := ⟨h.1, h.2.chg hc (fun k _ hk => hS k hk)⟩
theorem ownsRow_base {w : World} {B B' : Nat} {e : TypeId} {size : Nat} {v : Value} {n : Nat} {xs : List Value} (h : w.ownsRow B e size v n xs) (hb : B' ≤ B) : w.ownsRow B' e size v n xs := by
 refine ⟨h.1, ?_⟩
 rcases h.2 with h | ⟨g, cap, cur, h1, h2, h3⟩
 ·exact .inl h
 ·exact .inr ⟨g, cap, cur, h1, Nat.le_trans hb h2, h3⟩
theorem gG {P : Program} {fn : Func} {i j : Tmp} {T : TypeId} {n : Nat} (W : Wide P T n) (hf : fn.results = #[.cell i T, .tmp j]) {tmps : Array Value} {w : World} {b : Nat} {t : TypeId} {cs : Array Value} (hB : Blk w b t cs) (hn : cs.size = n) (ei : tmps.getD i undef = .pointer (some ⟨b, 0, none⟩)) {v : Value} (ej : tmps.getD j undef = v) :
  (results fn tmps).run P w = .ok (.tuple #[.agg cs, v]) w := by
 have h1 := kD hB W hn
 subst ej
 simp only [Array.getD_eq_getD_getElem?] at ei
 simp [results, hf, ei, asAddr, h1]
theorem Digs.own_lt {w : World} {v : Value} {ds : List (List UInt8)} (h : Digs w v ds) (hn : 0 < ds.length) : ∀ k, v.ownBlock = some k → k < w.heap.size := h.2.own_lt (by omega) hn
theorem Reads.new1' (w : World) (u : Value) (e : TypeId) {g : Nat} (hg : g = w.heap.size) : Reads (w.alloc (.cells #[u] e)) 1 (.slice (some ⟨g, 0, none⟩) 1 1) 1 [u] := by subst hg; exact Reads.new1 w u e
end Go.Proofs.YtihghljfmlbfhaaGreatDoor
namespace Go.Proofs.YtihghljfmlbfhaaGreatDoor
def mY : Nat → Nat → Nat → Nat
 | 0, k, _ => k
 | f + 1, k, n => if k < n - k then mY f (2 * k) n else k
def aG (n : Nat) : Nat := mY n 1 n
theorem uO : ∀ (f k n : Nat), 0 < k → k < n → 0 < mY f k n ∧ mY f k n < n
 | 0, k, n, h1, h2 => ⟨h1, h2⟩
 | f + 1, k, n, h1, h2 => by
  rw [mY]
  split
  ·exact uO f (2 * k) n (by omega) (by omega)
  ·exact ⟨h1, h2⟩
theorem eY (n : Nat) (h : 1 < n) : 0 < aG n ∧ aG n < n := uO n 1 n (by omega) h
def oM (d : List UInt8) : List UInt8 := fP 1 [d]
def aDs (l r : List UInt8) : List UInt8 := fP 2 [l, r]
theorem rD (d : List UInt8) : (oM d).length = 16 := bY _ _
theorem rC (l r : List UInt8) : (aDs l r).length = 16 := bY _ _
def aGa : Nat → List (List UInt8) → List UInt8
 | _, [] => fP 1 []
 | _, [d] => oM d
 | 0, _ => []
 | f + 1, l => aDs (aGa f (l.take (aG l.length))) (aGa f (l.drop (aG l.length)))
def iC (l : List (List UInt8)) : List UInt8 := aGa l.length l
theorem rX : ∀ (f g : Nat) (l : List (List UInt8)), l.length ≤ f → l.length ≤ g → aGa f l = aGa g l
 | f, g, [], _, _ => by cases f <;> cases g <;> rfl
 | f, g, [d], _, _ => by cases f <;> cases g <;> rfl
 | 0, g, a :: b :: l, h, _ => by simp at h
 | f + 1, 0, a :: b :: l, _, h => by simp at h
 | f + 1, g + 1, a :: b :: l, h1, h2 => by
  have hb := eY (a :: b :: l).length (by simp)
  rw [aGa, aGa]
  rw [rX f g ((a :: b :: l).take _) (by rw [List.length_take]; omega) (by rw [List.length_take]; omega), rX f g ((a :: b :: l).drop _) (by rw [List.length_drop]; omega) (by rw [List.length_drop]; omega)]
  all_goals simp
theorem yY (l : List (List UInt8)) (h : 1 < l.length) : iC l = aDs (iC (l.take (aG l.length))) (iC (l.drop (aG l.length))) := by
 have hb := eY l.length h
 match l, h with
 | a :: b :: l, h =>
  unfold iC
  rw [show (a :: b :: l).length = (b :: l).length + 1 from rfl, aGa]
  rw [rX _ _ ((a :: b :: l).take _) (by rw [List.length_take]; simp at hb ⊢; omega) (Nat.le_refl _), rX _ _ ((a :: b :: l).drop _) (by rw [List.length_drop]; simp at hb ⊢; omega) (Nat.le_refl _)]
  all_goals simp
end Go.Proofs.YtihghljfmlbfhaaGreatDoor
namespace Go.Proofs.YtihghljfmlbfhaaGreatDoor
def nH : Nat → List (List UInt8) → Nat → List (List UInt8)
 | 0, _, _ => []
 | f + 1, l, i =>
  if l.length ≤ 1 then []
  else if i < aG l.length then nH f (l.take (aG l.length)) i ++ [iC (l.drop (aG l.length))]
  else nH f (l.drop (aG l.length)) (i - aG l.length) ++ [iC (l.take (aG l.length))]
def dI (l : List (List UInt8)) (i : Nat) : List (List UInt8) := nH l.length l i
theorem pK : ∀ (f g : Nat) (l : List (List UInt8)) (i : Nat), l.length ≤ f → l.length ≤ g → nH f l i = nH g l i
 | 0, 0, _, _, _, _ => rfl
 | 0, g + 1, l, i, h, _ => by rw [nH, nH, if_pos (by omega)]
 | f + 1, 0, l, i, _, h => by rw [nH, nH, if_pos (by omega)]
 | f + 1, g + 1, l, i, h1, h2 => by
  rw [nH, nH]
  by_cases h : l.length ≤ 1
  ·rw [if_pos h, if_pos h]
  ·have hb := eY l.length (by omega)
   rw [if_neg h, if_neg h]
   rw [pK f g (l.take _) i (by rw [List.length_take]; omega) (by rw [List.length_take]; omega), pK f g (l.drop _) _ (by rw [List.length_drop]; omega) (by rw [List.length_drop]; omega)]
theorem oI (l : List (List UInt8)) (i : Nat) (h : l.length ≤ 1) : dI l i = [] := by
 unfold dI
 rcases hl : l.length with _ | n
 ·rfl
 ·rw [nH, if_pos (by omega)]
theorem tH (l : List (List UInt8)) (i : Nat) (h : 1 < l.length) (hi : i < aG l.length) : dI l i = dI (l.take (aG l.length)) i ++ [iC (l.drop (aG l.length))] := by
 have hb := eY l.length h
 have hn : l.length = (l.length - 1) + 1 := by omega
 unfold dI
 rw [hn, nH, ← hn, if_neg (by omega), if_pos hi, pK _ _ (l.take _) i (by rw [List.length_take]; omega) (Nat.le_refl _)]
theorem qW (l : List (List UInt8)) (i : Nat) (h : 1 < l.length) (hi : ¬ i < aG l.length) : dI l i = dI (l.drop (aG l.length)) (i - aG l.length) ++ [iC (l.take (aG l.length))] := by
 have hb := eY l.length h
 have hn : l.length = (l.length - 1) + 1 := by omega
 unfold dI
 rw [hn, nH, ← hn, if_neg (by omega), if_neg hi, pK _ _ (l.drop _) _ (by rw [List.length_drop]; omega) (Nat.le_refl _)]
theorem yZ (d : List UInt8) : iC [d] = oM d := rfl
theorem bW (l : List (List UInt8)) : (iC l).length = 16 := by
 rcases Nat.lt_or_ge 1 l.length with h | h
 ·rw [yY l h]; exact rC _ _
 ·match l with
  | [] => exact bY _ _
  | [d] => exact rD d
  | a :: b :: l => simp at h
end Go.Proofs.YtihghljfmlbfhaaGreatDoor
