/-
  The reference's Sum.
-/
import Derived.Test.YtjemfefkgfoikaaDoorRefC
import Derived.Test.YtjemfefkgfoikaaDoorRefD
import Derived.Test.YtjemfefkgfoikaaDoorShaF
namespace Go.Proofs.YtjemfefkgfoikaaDoor
open Go.RowKit

def hexFirst : ByteArray := { data := #[54, 97, 48, 57, 101, 54, 54, 55, 98, 98, 54, 55, 97, 101, 56, 53, 51, 99, 54, 101, 102, 51, 55, 50, 97, 53, 52, 102, 102, 53, 51, 97, 53, 49, 48, 101, 53, 50, 55, 102, 57, 98, 48, 53, 54, 56, 56, 99, 49, 102, 56, 51, 100, 57, 97, 98, 53, 98, 101, 48, 99, 100, 49, 57] }
def hexConsts : ByteArray := { data := ((([52, 50, 56, 97, 50, 102, 57, 56, 55, 49, 51, 55, 52, 52, 57, 49, 98, 53, 99, 48, 102, 98, 99, 102, 101, 57, 98, 53, 100, 98, 97, 53, 51, 57, 53, 54, 99, 50, 53, 98, 53, 57, 102, 49, 49, 49, 102, 49, 57, 50, 51, 102, 56, 50, 97, 52, 97, 98, 49, 99, 53, 101, 100, 53].append [100, 56, 48, 55, 97, 97, 57, 56, 49, 50, 56, 51, 53, 98, 48, 49, 50, 52, 51, 49, 56, 53, 98, 101, 53, 53, 48, 99, 55, 100, 99, 51, 55, 50, 98, 101, 53, 100, 55, 52, 56, 48, 100, 101, 98, 49, 102, 101, 57, 98, 100, 99, 48, 54, 97, 55, 99, 49, 57, 98, 102, 49, 55, 52]).append ([101, 52, 57, 98, 54, 57, 99, 49, 101, 102, 98, 101, 52, 55, 56, 54, 48, 102, 99, 49, 57, 100, 99, 54, 50, 52, 48, 99, 97, 49, 99, 99, 50, 100, 101, 57, 50, 99, 54, 102, 52, 97, 55, 52, 56, 52, 97, 97, 53, 99, 98, 48, 97, 57, 100, 99, 55, 54, 102, 57, 56, 56, 100, 97].append [57, 56, 51, 101, 53, 49, 53, 50, 97, 56, 51, 49, 99, 54, 54, 100, 98, 48, 48, 51, 50, 55, 99, 56, 98, 102, 53, 57, 55, 102, 99, 55, 99, 54, 101, 48, 48, 98, 102, 51, 100, 53, 97, 55, 57, 49, 52, 55, 48, 54, 99, 97, 54, 51, 53, 49, 49, 52, 50, 57, 50, 57, 54, 55])).append (([50, 55, 98, 55, 48, 97, 56, 53, 50, 101, 49, 98, 50, 49, 51, 56, 52, 100, 50, 99, 54, 100, 102, 99, 53, 51, 51, 56, 48, 100, 49, 51, 54, 53, 48, 97, 55, 51, 53, 52, 55, 54, 54, 97, 48, 97, 98, 98, 56, 49, 99, 50, 99, 57, 50, 101, 57, 50, 55, 50, 50, 99, 56, 53].append [97, 50, 98, 102, 101, 56, 97, 49, 97, 56, 49, 97, 54, 54, 52, 98, 99, 50, 52, 98, 56, 98, 55, 48, 99, 55, 54, 99, 53, 49, 97, 51, 100, 49, 57, 50, 101, 56, 49, 57, 100, 54, 57, 57, 48, 54, 50, 52, 102, 52, 48, 101, 51, 53, 56, 53, 49, 48, 54, 97, 97, 48, 55, 48]).append ([49, 57, 97, 52, 99, 49, 49, 54, 49, 101, 51, 55, 54, 99, 48, 56, 50, 55, 52, 56, 55, 55, 52, 99, 51, 52, 98, 48, 98, 99, 98, 53, 51, 57, 49, 99, 48, 99, 98, 51, 52, 101, 100, 56, 97, 97, 52, 97, 53, 98, 57, 99, 99, 97, 52, 102, 54, 56, 50, 101, 54, 102, 102, 51].append [55, 52, 56, 102, 56, 50, 101, 101, 55, 56, 97, 53, 54, 51, 54, 102, 56, 52, 99, 56, 55, 56, 49, 52, 56, 99, 99, 55, 48, 50, 48, 56, 57, 48, 98, 101, 102, 102, 102, 97, 97, 52, 53, 48, 54, 99, 101, 98, 98, 101, 102, 57, 97, 51, 102, 55, 99, 54, 55, 49, 55, 56, 102, 50]))).toArray }
theorem hex_first : (List.range 8).map (hexWord hexFirst.data.toList) = shaH0 := by decide +kernel
theorem hex_consts : (List.range 64).map (hexWord hexConsts.data.toList) = shaK := by decide +kernel
theorem first_any (w : World) : Calls Tryd.prog 84 #[.string hexFirst, .int .i64 8] w fun e w' => ∃ A c, e = .returned (.slice A 8 c) ∧ Reads w' 1 (.slice A 8 c) 8 (shaH0.map w32) ∧ Ext w w' := by
  refine (words_any hexFirst 8 8 rfl w (by decide +kernel) (by decide +kernel)).mono ?_
  rintro e w' ⟨A, c, rfl, ho, hE⟩
  rw [hex_first] at ho
  exact ⟨A, c, rfl, Reads.of_own ho, hE⟩
theorem consts_any (w : World) : Calls Tryd.prog 84 #[.string hexConsts, .int .i64 64] w fun e w' => ∃ A c, e = .returned (.slice A 64 c) ∧ Reads w' 1 (.slice A 64 c) 64 (shaK.map w32) ∧ Ext w w' := by
  refine (words_any hexConsts 64 64 rfl w (by decide +kernel) (by decide +kernel)).mono ?_
  rintro e w' ⟨A, c, rfl, ho, hE⟩
  rw [hex_consts] at ho
  exact ⟨A, c, rfl, Reads.of_own ho, hE⟩

theorem own_empty' (w : World) (B : Nat) (e : TypeId) (size : Nat) {g : Nat} (hg : g = w.heap.size) (hb : B ≤ w.heap.size) : (w.alloc (.cells #[] e)).ownsRow B e size (.slice (some ⟨g, 0, none⟩) 0 0) 0 [] := by subst hg; exact own_empty w B e size hb
/-- A new slice of bytes, copied into an empty one. -/
theorem gb_first {w w1 : World} {l : List UInt8} {A1 : Option Addr} {c1 : Nat} {zs : Array Value} {T : TypeId} (ho : w1.ownsRow (w.heap.size + 1) 5 1 (.slice A1 (0 + l.length) c1) (0 + l.length) ([] ++ l.map u8v))
    (hc : Chg (fun k => (Value.slice (some ⟨w.heap.size + 1, 0, none⟩) 0 0).ownBlock = some k) ((w.alloc (.cells zs T)).alloc (.cells #[] 5)) w1) :
    GB w (w.heap.size + 1) (.slice A1 l.length c1) l.length l w1 ∧ Blk w1 w.heap.size T zs := by
  rw [Nat.zero_add, List.nil_append] at ho
  refine ⟨⟨ho, (((Ext.refl w).alloc _).alloc _).trans' hc (fun _ _ h => h) (fun i hi e => ?_), by omega, ?_⟩, Blk.chg ((Blk.new w _ _).alloc _) hc ?_⟩
  · simp [Value.ownBlock] at e; omega
  · have := hc.size; simp at this; omega
  · simp [Value.ownBlock]
def zerosFor (n : Nat) : Nat := (119 - n % 64) % 64
def rpad (l : List UInt8) (k : Nat) : List UInt8 := l ++ [128] ++ List.replicate k 0
theorem rpad_own {w : World} {B : Nat} {v : Value} {n : Nat} {l : List UInt8} (h : w.ownsRow B 5 1 v n (l.map u8v ++ [.int .u8 128])) : w.ownsRow B 5 1 v n ((rpad l 0).map u8v) := by
  unfold rpad; rw [List.replicate_zero, List.append_nil, List.map_append]; exact h
theorem rpad_step (l : List UInt8) (k : Nat) : rpad l (k + 1) = rpad l k ++ [0] := by unfold rpad; rw [List.replicate_succ', List.append_assoc, List.append_assoc, List.append_assoc]
theorem rpad_end (l : List UInt8) : rpad l (zerosFor l.length) ++ beBytes (8 * l.length) 8 = shaPad l := rfl
theorem rpad_length (l : List UInt8) (k : Nat) : (rpad l k).length = l.length + 1 + k := by simp [rpad]; omega

theorem flat4_length (st : List UInt32) : (st.flatMap fun w => beBytes w.toNat 4).length = 4 * st.length := by
  induction st with
  | nil => rfl
  | cons x l ih => rw [List.flatMap_cons, List.length_append, ih, beBytes_length, List.length_cons]; omega
theorem flat4_get (st : List UInt32) : ∀ (q r : Nat), q < st.length → r < 4 → (st.flatMap fun w => beBytes w.toNat 4)[4 * q + r]? = some (UInt8.ofNat ((st.getD q 0).toNat / 256 ^ (3 - r))) := by
  induction st with
  | nil => intro q r h; simp at h
  | cons x l ih =>
    intro q r hq hr
    rw [List.flatMap_cons]
    cases q with
    | zero =>
      rw [Nat.mul_zero, Nat.zero_add, List.getElem?_append_left (by rw [beBytes_length]; exact hr), beBytes_get _ _ _ hr]
      rfl
    | succ q =>
      rw [List.getElem?_append_right (by rw [beBytes_length]; omega), beBytes_length, show 4 * (q + 1) + r - 4 = 4 * q + r from by omega, ih q r (by simpa using hq) hr]
      rfl
theorem flat4_step (st : List UInt32) (q r : Nat) (hq : q < st.length) (hr : r < 4) : (st.flatMap fun w => beBytes w.toNat 4).take (4 * q + r + 1) = (st.flatMap fun w => beBytes w.toNat 4).take (4 * q + r) ++ [UInt8.ofNat ((st.getD q 0).toNat / 256 ^ (3 - r))] := by
  rw [List.take_add_one, flat4_get st q r hq hr]
  rfl

set_option maxRecDepth 100000 in
set_option maxHeartbeats 4000000 in
theorem rsum_any (l : List UInt8) (v : Value) (w : World) (hr : Reads w 1 v l.length (l.map u8v)) (hl : l.length ≤ 100000000) :
    Calls Tryd.prog 65 #[v] w fun e w' => e = .returned (.agg ((sha l).map u8v).toArray) ∧ Ext w w' := by
  have HR := hide hr
  obtain ⟨A, c, rfl⟩ : ∃ A c, v = .slice A l.length c := by obtain ⟨_, A, c, h, _⟩ := hr; exact ⟨A, c, h⟩
  clear hr
  go_enter Tryd.func65, Tryd.ntmps65
  go_wp2_with (first
    | (at_builtin; refine wpList_app (s := .tmp 11) (x := .tmp 12) rfl rfl u8_row rfl (own_empty' _ (w.heap.size + 1) _ _ (by simp) (by simp)) rfl ((unhide HR).ext (((Ext.refl w).alloc _).alloc _)) (AllOne.u8 l) (by omega) (by simp) ?_; intro A1 c1 w1 ho hc hv; have H0 := hide (And.intro ho hc); clear ho hc hv
       have H1 := hide (gb_first (unhide H0).1 (unhide H0).2)
       clear H0)
    | (at_builtin; refine wpList_app (s := .tmp 13) (x := .tmp 14) rfl rfl u8_row rfl (ownsRow_ext (unhide H1).1.own ((Ext.refl _).alloc _)) rfl (Reads.new1 _ _ _) (AllOne.one rfl) (by omega) (Nat.le_trans (unhide H1).1.room (by simp)) ?_; intro A2 c2 w2 ho hc hv; have H0 := hide (And.intro ho hc); clear ho hc hv
       have H2 := hide (And.intro (GB.step (l' := rpad l 0) (unhide H1).1 ((Ext.refl _).alloc _) (unhide H0).2 (rpad_own (unhide H0).1)) ((unhide H1).1.blk ((Ext.refl _).alloc _) (unhide H0).2 (unhide H1).2 (Nat.lt_succ_self _)))
       clear H0))
  clear H1
  go_loopw [3] (fun b wr => ∃ (k : Nat) (A : Option Addr) (c : Nat), k ≤ zerosFor l.length ∧ b = .slice A (l.length + 1 + k) c ∧ Hid (GB w (w.heap.size + 1) (.slice A (l.length + 1 + k) c) (l.length + 1 + k) (rpad l k) wr ∧ Blk wr w.heap.size 78 (bytesTo 32 []))) (fun b _ => match b with | .slice _ n _ => l.length + 1 + zerosFor l.length - n | _ => 0)
  case atStart => exact ⟨0, _, _, Nat.zero_le _, rfl, H2⟩
  case round =>
    clear H2
    obtain ⟨k, A1, c1, hk, rfl, HI⟩ := hrel
    by_cases hlt : k < zerosFor l.length
    · have ht2 : ((((l.length + 1 + k : Nat) : Int) % 64) == 56) = false := by unfold zerosFor at hlt; simp; omega
      have hkb : k < 64 := by unfold zerosFor at hlt; omega
      go_wp2_with (at_builtin; refine wpList_app rfl rfl u8_row rfl (ownsRow_ext (unhide HI).1.own ((Ext.refl _).alloc _)) rfl (Reads.new1 _ _ _) (AllOne.one rfl) (by omega) (Nat.le_trans (unhide HI).1.room (by simp)) ?_; intro A' c' w3 ho hc hv; have HQ := hide (And.intro ho hc); clear ho hc hv)
      go_roundw
      case rel =>
        refine ⟨k + 1, A', c', hlt, rfl, hide ⟨GB.step (unhide HI).1 ((Ext.refl _).alloc _) (unhide HQ).2 ?_, (unhide HI).1.blk ((Ext.refl _).alloc _) (unhide HQ).2 (unhide HI).2 (Nat.lt_succ_self _)⟩⟩
        rw [rpad_step, List.map_append]
        exact (unhide HQ).1
      case measure => simp; omega
    · obtain rfl : k = zerosFor l.length := by omega
      have ht2 : ((((l.length + 1 + zerosFor l.length : Nat) : Int) % 64) == 56) = true := by unfold zerosFor; simp; omega
      have ht3 : (((l.length : Int) + 1 + (zerosFor l.length : Int)) % 64 != 56) = false := by unfold zerosFor; simp; omega
      have hkb : zerosFor l.length < 64 := by unfold zerosFor; omega
      have HN := hide (show (l.length + 1 + zerosFor l.length) % 64 = 56 from by unfold zerosFor; omega)
      clear hlt hk
      go_wp2
      clear ht2 ht3
      obtain ⟨w4, rfl⟩ : ∃ w4 : World, w4 = wr := ⟨_, rfl⟩
      have HP := hide (rpad_end l)
      have hn0 : l.length + 1 + zerosFor l.length ≤ 100000100 := by omega
      generalize rpad l (zerosFor l.length) = pl at *
      generalize l.length + 1 + zerosFor l.length = n0 at *
      go_loopw [3, 5] (fun b i wr => ∃ (k : Nat) (A : Option Addr) (c : Nat), k ≤ 8 ∧ i = .int .i64 ((k : Int) - 1) ∧ b = .slice A (n0 + (8 - k)) c ∧ Hid (GB w (w.heap.size + 1) (.slice A (n0 + (8 - k)) c) (n0 + (8 - k)) (pl ++ (beBytes (8 * l.length) 8).take (8 - k)) wr ∧ Blk wr w.heap.size 78 (bytesTo 32 []))) (fun _ i _ => (intOf i + 1).toNat)
      case atStart => exact ⟨8, _, _, Nat.le_refl _, rfl, rfl, by rw [Nat.sub_self, List.take_zero, List.append_nil]; exact HI⟩
      case round =>
        clear HI
        obtain ⟨k, A2, c2, hk, rfl, rfl, HI⟩ := hrel
        by_cases hk0 : 0 < k
        · have e0 : (0 : Int) ≤ (k : Int) - 1 := by omega
          have e1 : IntKind.i64.wrap (8 * ((k : Int) - 1)) = ((8 * (k - 1) : Nat) : Int) := by rw [IntWalk.i64_in _ (by omega)]; omega
          have hb := byte_of (8 * l.length) (k - 1)
          have hcast : ((8 * l.length : Nat) : Int) = 8 * (l.length : Int) := by omega
          rw [hcast] at hb
          clear hcast
          have HX := hide (beBytes_step (8 * l.length) 8 k hk0 hk)
          generalize UInt8.ofNat (8 * l.length / 256 ^ (k - 1)) = z at *
          go_wp2_with (at_builtin; refine wpList_app rfl rfl u8_row rfl (ownsRow_ext (unhide HI).1.own ((Ext.refl _).alloc _)) rfl (Reads.new1 _ _ _) (AllOne.one rfl) (by omega) (Nat.le_trans (unhide HI).1.room (by simp)) ?_; intro A' c' w3 ho hc hv; have HQ := hide (And.intro ho hc); clear ho hc hv)
          go_roundw
          case rel =>
            refine ⟨k - 1, A', c', by omega, by go_num, by rw [show n0 + (8 - (k - 1)) = n0 + (8 - k) + 1 from by omega], hide ⟨?_, (unhide HI).1.blk ((Ext.refl _).alloc _) (unhide HQ).2 (unhide HI).2 (Nat.lt_succ_self _)⟩⟩
            rw [show n0 + (8 - (k - 1)) = n0 + (8 - k) + 1 from by omega]
            refine GB.step (unhide HI).1 ((Ext.refl _).alloc _) (unhide HQ).2 ?_
            rw [unhide HX, ← List.append_assoc, List.map_append]
            exact (unhide HQ).1
          case measure => simp [intOf]; omega
        · obtain rfl : k = 0 := by omega
          clear hk0 hk
          have HJ := hide (show GB w (w.heap.size + 1) (.slice A2 (n0 + 8) c2) (n0 + 8) (shaPad l) wr ∧ Blk wr w.heap.size 78 (bytesTo 32 []) from by
            have := unhide HI
            rw [Nat.sub_zero, List.take_of_length_le (by rw [beBytes_length]; exact Nat.le_refl _), unhide HP] at this
            exact this)
          obtain ⟨w5, rfl⟩ : ∃ w5 : World, w5 = wr := ⟨_, rfl⟩
          clear HI
          have z1 : ((0 : Nat) : Int) - 1 = -1 := rfl
          have z2 : n0 + (8 - 0) = n0 + 8 := rfl
          rw [z1, z2]
          clear z1 z2
          go_wp2_with fail
          refine (first_any _).mono ?_
          rintro e w6 ⟨A6, c6, rfl, hr6, hE6⟩
          have H6 := hide (And.intro hr6 hE6)
          clear hr6 hE6
          go_wp2_with fail
          refine (consts_any _).mono ?_
          rintro e w7 ⟨A7, c7, rfl, hr7, hE7⟩
          have H7 := hide (And.intro hr7 hE7)
          clear hr7 hE7
          go_wp2
          obtain ⟨m, hm⟩ : ∃ m, n0 + 8 = 64 * m := ⟨(n0 + 8) / 64, by have := unhide HN; omega⟩
          have HLN := hide (unhide HJ).1.len
          have HB7 := hide (show Reads w7 1 (.slice A2 (n0 + 8) c2) (n0 + 8) ((shaPad l).map u8v) ∧ Blk w7 w.heap.size 78 (bytesTo 32 []) ∧ Ext w w7 ∧ Reads w7 1 (.slice A6 8 c6) 8 (shaH0.map w32) ∧ Reads w7 1 (.slice A7 64 c7) 64 (shaK.map w32) from
            ⟨(unhide HJ).1.reads.ext ((unhide H6).2.trans (unhide H7).2), (unhide HJ).2.ext ((unhide H6).2.trans (unhide H7).2), (unhide HJ).1.ext.trans ((unhide H6).2.trans (unhide H7).2), (unhide H6).1.ext (unhide H7).2, (unhide H7).1⟩)
          obtain ⟨g2, o2, c2', hA2, hc2, hc2m, _, _⟩ := (unhide HB7).1.sub 0 64 (by omega) (by omega)
          cases hA2
          clear HJ H6 H7
          unfold maxLen at hc2m
          have HM := hide hm
          have hm1 : n0 + 8 ≤ 64 * m := by omega
          have hm2 : 64 * m ≤ n0 + 8 := by omega
          clear hm
          go_loopw [6, 8] (fun v i wr => ∃ (j : Nat) (A : Option Addr) (c : Nat), j ≤ m ∧ i = .int .i64 ((64 * j : Nat) : Int) ∧ v = .slice A 8 c ∧ Hid (Reads wr 1 (.slice A 8 c) 8 ((shaFold (shaPad l) (List.range j) shaH0).map w32) ∧ Ext w7 wr)) (fun _ i _ => 64 * m - (intOf i).toNat)
          case atStart => exact ⟨0, A6, c6, Nat.zero_le _, rfl, rfl, hide ⟨(unhide HB7).2.2.2.1, Ext.refl _⟩⟩
          case round =>
            obtain ⟨j, A8, c8, hj, rfl, rfl, HI⟩ := hrel
            by_cases hlt : j < m
            · have hb1 : 64 * j + 64 ≤ n0 + 8 := by omega
              have d1 : decide (64 * j < n0 + 8) = true := decide_eq_true (by omega)
              have HX := hide (show shaFold (shaPad l) (List.range (j + 1)) shaH0 = shaBlock (shaFold (shaPad l) (List.range j) shaH0) (((shaPad l).drop (64 * j)).take 64) from by unfold shaFold; rw [List.range_succ, List.foldl_append]; rfl)
              have HL8 := hide (shaFold_length (shaPad l) (List.range j) shaH0 rfl)
              have HBL := hide (show (((shaPad l).drop (64 * j)).take 64).length = 64 from by have := unhide HLN; simp; omega)
              have HBR := hide (show Reads wr 1 (.slice (some ⟨g2, o2 + 64 * j, none⟩) 64 (c2 - 64 * j)) 64 ((((shaPad l).drop (64 * j)).take 64).map u8v) from by
                obtain ⟨b, o, c, e, _, _, _, h⟩ := ((unhide HB7).1.ext (unhide HI).2).sub (64 * j) 64 (by omega) (by omega)
                cases e
                rw [List.map_take, List.map_drop]
                exact h)
              go_wp2_with fail
              refine (rcompress_any _ _ _ _ _ _ (unhide HL8) (unhide HBL) (unhide HI).1 (unhide HBR) ((unhide HB7).2.2.2.2.ext (unhide HI).2)).mono ?_
              rintro e w8 ⟨A9, rfl, hr9, hE9⟩
              have H9 := hide (And.intro hr9 hE9)
              clear hr9 hE9
              have q64 : IntKind.i64.wrap (64 * (j : Int) + 64) = ((64 * (j + 1) : Nat) : Int) := by rw [IntWalk.i64_in _ (by omega)]; omega
              go_wp2
              go_roundw
              case rel =>
                refine ⟨j + 1, A9, 8, hlt, by go_num, rfl, hide ⟨?_, (unhide HI).2.trans (unhide H9).2⟩⟩
                rw [unhide HX]
                exact (unhide H9).1
              case measure => simp [intOf]; omega
            --BEGINX
            · obtain rfl : j = m := by omega
              have d1 : decide (64 * j < n0 + 8) = false := decide_eq_false (by omega)
              clear hlt hj
              have HSH := hide (show (shaFold (shaPad l) (List.range j) shaH0).flatMap (fun w => beBytes w.toNat 4) = sha l from by
                rw [shaFold_blocks]
                unfold sha
                rw [unhide HLN, unhide HM, Nat.mul_div_cancel_left _ (by omega)])
              have HL8 := hide (shaFold_length (shaPad l) (List.range j) shaH0 rfl)
              generalize shaFold (shaPad l) (List.range j) shaH0 = st at *
              obtain ⟨w9, rfl⟩ : ∃ w9 : World, w9 = wr := ⟨_, rfl⟩
              obtain ⟨g8, o8, c8', hA8, hc8, hc8m, hg8, _⟩ := (unhide HI).1.sub 0 8 (by omega) (by omega)
              cases hA8
              go_wp2_with (refine wpList_storeB (ty := 78) (t := 78) (x := .tmp 9) (y := .tmp 55) rfl rfl arr32_wide rfl rfl (Blk.new w9 _ _) rfl rfl (by rw [← Array.all_toList]; rfl) ?_; intro w10 hb10 hc10 hz10; have H10 := hide (And.intro hb10 (And.intro hc10 hz10)); clear hb10 hc10 hz10)
              clear d1
              have H11 := hide (show Blk w10 w9.heap.size 78 (bytesTo 32 []) ∧ Blk w10 w.heap.size 78 (bytesTo 32 []) ∧ Ext w w10 ∧ Reads w10 1 (.slice (some ⟨g8, o8, none⟩) 8 c8) 8 (st.map w32) ∧ w.heap.size < w9.heap.size from by
                have hlt := ((unhide HB7).2.1.ext (unhide HI).2).lt
                have hE : Ext w9 w10 := ((Ext.refl w9).alloc _).trans' (unhide H10).2.1 (fun _ _ h => h) (fun i hi e => by omega)
                exact ⟨(unhide H10).1, ((unhide HB7).2.1.ext (unhide HI).2).ext hE, ((unhide HB7).2.2.1.trans (unhide HI).2).trans hE, (unhide HI).1.ext hE, hlt⟩)
              have HSL := hide (sha_length l)
              clear H10 HI
              go_loopw [10] (fun i wr => ∃ k : Nat, k ≤ 32 ∧ i = .int .i64 k ∧ Hid (Blk wr w9.heap.size 78 (bytesTo 32 ((sha l).take k)) ∧ Blk wr w.heap.size 78 (bytesTo 32 []) ∧ Ext w wr ∧ Reads wr 1 (.slice (some ⟨g8, o8, none⟩) 8 c8) 8 (st.map w32))) (fun i _ => 32 - (intOf i).toNat)
              case atStart => exact ⟨0, Nat.zero_le _, rfl, hide ⟨(unhide H11).1, (unhide H11).2.1, (unhide H11).2.2.1, (unhide H11).2.2.2.1⟩⟩
              case round =>
                obtain ⟨k, hk, rfl, HI⟩ := hrel
                by_cases hlt : k < 32
                · obtain ⟨q, r, rfl, hr4⟩ : ∃ q r, k = 4 * q + r ∧ r < 4 := ⟨k / 4, k % 4, by omega, by omega⟩
                  have hc1 := (unhide HI).2.2.2.wordAt (j := q) (by rw [unhide HL8]; omega)
                  have hc2 : wr.cell? ⟨w9.heap.size, 4 * q + r, none⟩ = some (.int .u8 0) := by
                    rw [(unhide HI).1.cell]
                    exact bytesTo_zero_at (by rw [List.length_take, unhide HSL]; omega) hlt
                  have hf := (unhide HI).1.frozen (4 * q + r)
                  have HX := hide (show (sha l).take (4 * q + r + 1) = (sha l).take (4 * q + r) ++ [UInt8.ofNat ((st.getD q 0).toNat / 256 ^ (3 - r))] from by
                    rw [← unhide HSH]
                    exact flat4_step st q r (by rw [unhide HL8]; omega) hr4)
                  have HBY := hide (byte_of (st.getD q 0).toNat (3 - r))
                  generalize st.getD q 0 = x at *
                  have hx := x.toNat_lt
                  have hq : q < 8 := by omega
                  have e1 : (4 * (q : Int) + (r : Int)) / 4 = (q : Int) := by omega
                  have e2 : (4 * (q : Int) + (r : Int)) % 4 = (r : Int) := by omega
                  have e3 : 24 - 8 * (r : Int) = ((8 * (3 - r) : Nat) : Int) := by omega
                  go_wp2
                  go_roundw
                  case rel =>
                    obtain ⟨q1, q2, q3, q4⟩ := unhide HI
                    have h1 := q1.set_ (4 * q + r) (.int .u8 ((UInt8.ofNat (x.toNat / 256 ^ (3 - r))).toNat : Int))
                    rw [bytesTo_set _ (by rw [List.length_take, unhide HSL]; omega) hlt, ← unhide HX] at h1
                    refine ⟨4 * q + r + 1, by omega, by go_num, hide ?_⟩
                    rw [unhide HBY]
                    have hlw := (unhide H11).2.2.2.2
                    refine ⟨h1, q2.far' (by omega) _ _, q3.setCell (by simp; omega) _, q4.chg (Chg.setCell (S := fun k => k = w9.heap.size) (Chg.refl _ _) (.inl rfl) _) (fun k _ hk e => by simp [Value.ownBlock] at hk; omega)⟩
                  case measure => simp [intOf]; omega
                · obtain rfl : k = 32 := by omega
                  obtain ⟨res, hres⟩ : ∃ r, ((sha l).map u8v).toArray = r := ⟨_, rfl⟩
                  have HR2 := hide (show bytesTo 32 ((sha l).take 32) = res from by rw [List.take_of_length_le (by rw [unhide HSL]; omega), bytesTo_all (unhide HSL), hres])
                  have HS := hide (show res.size = 32 ∧ res.all (·.oneCell') = true from by rw [← hres]; exact ⟨by simpa using unhide HSL, bytes_one _⟩)
                  have HRE := hide hres
                  clear hres
                  rw [unhide HR2] at HI
                  go_wp2_with (first
                    | (refine wpList_loadB (ty := 78) (t := 78) (x := .tmp 9) rfl rfl arr32_wide rfl (unhide HI).1 (unhide HS).1 ?_)
                    | (refine wpList_storeB (ty := 78) (t := 78) (x := .tmp 2) (y := .tmp 73) rfl rfl arr32_wide rfl rfl (unhide HI).2.1 (bytesTo_size (by simp)) (unhide HS).1 (unhide HS).2 ?_; intro w12 hb12 hc12 hz12; have H12 := hide (And.intro hb12 hc12); clear hb12 hc12 hz12))
                  refine bodyPost_ret (v := .agg res) (results_blk arr32_wide rfl (unhide H12).1 (unhide HS).1 rfl) rfl ⟨by rw [unhide HRE], ?_⟩
                  exact (unhide HI).2.2.1.trans' (unhide H12).2 (fun _ _ h => h) (fun i hi e => by omega)
            --ENDX

end Go.Proofs.YtjemfefkgfoikaaDoor
