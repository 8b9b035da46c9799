/-
  Several texts in one file: each has its own heading below.
-/
import Derived.Test.YtgndblhpfjkfhaaDoorQaI
import Derived.Deep.DeepCutAuto
import Derived.Test.YtgndblhpfjkfhaaDoorQaG
import Derived.Test.YtgndblhpfjkfhaaDoorQaH
import Derived.StillTailTactics
import Derived.Laws.MakeOwn
import Derived.Great.BuildSlice

/-
  The reference's HMAC.
-/
namespace Go.Proofs.YtgndblhpfjkfhaaDoor
open Go.RowKit

theorem GB.readsL {w0 wr : World} {B n : Nat} {v : Value} {l : List UInt8} (h : GB w0 B v n l wr) : Reads wr 1 v l.length (l.map u8v) := by rw [h.len]; exact h.reads
/-- Two slices of bytes that grow side by side. -/
structure G2 (w0 : World) (B : Nat) (v1 : Value) (n1 : Nat) (l1 : List UInt8) (v2 : Value) (n2 : Nat) (l2 : List UInt8) (wr : World) : Prop where
  one : GB w0 B v1 n1 l1 wr
  two : GB w0 B v2 n2 l2 wr
  far : ∀ g, v1.ownBlock = some g → v2.ownBlock ≠ some g
theorem G2.swap {w0 wr : World} {B n1 n2 : Nat} {v1 v2 : Value} {l1 l2 : List UInt8} (h : G2 w0 B v1 n1 l1 v2 n2 l2 wr) : G2 w0 B v2 n2 l2 v1 n1 l1 wr := ⟨h.two, h.one, fun g h2 h1 => h.far g h1 h2⟩
theorem G2.to {w0 wr w1 : World} {B n1 n2 : Nat} {v1 v2 : Value} {l1 l2 : List UInt8} (h : G2 w0 B v1 n1 l1 v2 n2 l2 wr) (hE : Ext wr w1) : G2 w0 B v1 n1 l1 v2 n2 l2 w1 := ⟨h.one.to hE, h.two.to hE, h.far⟩
theorem G2.step {w0 wr w1 w2 : World} {B n1 n2 n' : Nat} {v1 v2 v' : Value} {l1 l2 l' : List UInt8} (h : G2 w0 B v1 n1 l1 v2 n2 l2 wr) (hE : Ext wr w1) (hc : Chg (fun k => v1.ownBlock = some k) w1 w2) (ho : w2.ownsRow B 5 1 v' n' (l'.map u8v))
    (hv : v'.ownBlock = v1.ownBlock ∨ ∃ g, v'.ownBlock = some g ∧ w1.heap.size ≤ g ∧ g < w2.heap.size) : G2 w0 B v' n' l' v2 n2 l2 w2 := by
  have h2 := h.two.to hE
  refine ⟨h.one.step hE hc ho, ⟨ownsRow_chg h2.own hc (fun k hk e => h.far k e hk), ((h.one.step hE hc ho).ext), h2.base, Nat.le_trans h2.room hc.size⟩, fun g hg hg2 => ?_⟩
  rcases hv with hv | ⟨g', hv, hge, _⟩
  · exact h.far g (hv ▸ hg) hg2
  · rw [hv] at hg
    cases hg
    have := (h2.own.lt _ hg2).2
    omega
theorem G2.blk {w0 wr w1 w2 : World} {B n1 n2 : Nat} {v1 v2 : Value} {l1 l2 : List UInt8} (h : G2 w0 B v1 n1 l1 v2 n2 l2 wr) (hE : Ext wr w1) (hc : Chg (fun k => v1.ownBlock = some k) w1 w2) {g : Nat} {t : TypeId} {cs : Array Value} (hb : Blk wr g t cs) (hg : g < B) : Blk w2 g t cs := h.one.blk hE hc hb hg

def padTake (key : List UInt8) (x : UInt8) (k : Nat) : List UInt8 := (List.range k).map fun i => key.getD i 0 ^^^ x
theorem padTake_step (key : List UInt8) (x : UInt8) (k : Nat) : padTake key x (k + 1) = padTake key x k ++ [key.getD k 0 ^^^ x] := by unfold padTake; rw [List.range_succ, List.map_append]; rfl
theorem padTake_end (key : List UInt8) (x : UInt8) : padTake key x 64 = padOf key x := rfl
theorem own_push {w : World} {B : Nat} {v : Value} {n : Nat} {l l' : List UInt8} {b : UInt8} (h : w.ownsRow B 5 1 v n (l.map u8v ++ [.int .u8 (b.toNat : Int)])) (e : l' = l ++ [b]) : w.ownsRow B 5 1 v n (l'.map u8v) := by
  rw [e, List.map_append]; exact h
theorem own_cat {w : World} {B : Nat} {v : Value} {n : Nat} {l m : List UInt8} (h : w.ownsRow B 5 1 v n (l.map u8v ++ m.map u8v)) : w.ownsRow B 5 1 v n ((l ++ m).map u8v) := by
  rw [List.map_append]; exact h

set_option maxRecDepth 100000 in
set_option maxHeartbeats 4000000 in
theorem rhmac_any (key b : List UInt8) (kv bv : Value) (w : World) (hk : Reads w 1 kv key.length (key.map u8v)) (hb : Reads w 1 bv b.length (b.map u8v)) (hkl : key.length ≤ 1000000) (hbl : b.length ≤ 1000000) :
    Calls Tryd.prog 135 #[kv, bv] w fun e w' => e = .returned (.agg ((hmac key b).map u8v).toArray) ∧ Ext w w' := by
  have HB := hide hb
  obtain ⟨A, c, rfl⟩ : ∃ A c, kv = .slice A key.length c := by obtain ⟨_, A, c, h, _⟩ := hk; exact ⟨A, c, h⟩
  obtain ⟨Ab, cb, rfl⟩ : ∃ A c, bv = .slice A b.length c := by obtain ⟨_, A, c, h, _⟩ := hb; exact ⟨A, c, h⟩
  have HK0 := hide hk
  clear hk hb
  rw [hmac_eq]
  by_cases hlen : key.length > 64
  · have d64 : decide ((64 : Int) < (key.length : Int)) = true := decide_eq_true (by omega)
    rw [if_pos hlen]
    go_enter Tryd.func135, Tryd.ntmps135
    go_wp2_with (first
      | (go_at_call 154; refine (rsum_any key _ _ ((unhide HK0).ext ((Ext.refl w).alloc _)) (by omega)).mono ?_; rintro e w1 ⟨rfl, hE1⟩; have H1 := hide hE1; clear hE1)
      | (go_at_call 153; refine (rall_any (sha key) _ (sha_length key)).mono ?_; rintro e w2 ⟨A0, c0, rfl, h2⟩; have H2 := hide h2; clear h2))
    have HK := hide (show Reads w2 1 (.slice A0 32 c0) 32 ((sha key).map u8v) ∧ Ext w w2 ∧ Blk w2 w.heap.size 95 (bytesTo 32 []) from
      ⟨(unhide H2).reads, (((Ext.refl w).alloc _).trans (unhide H1)).trans (unhide H2).ext, (Blk.new w _ _).ext ((unhide H1).trans (unhide H2).ext)⟩)
    clear H1 H2
    obtain ⟨kk, hkk⟩ : ∃ kk, kk = sha key := ⟨_, rfl⟩
    rw [← hkk] at HK
    have hkl : kk.length = 32 := by rw [hkk, sha_length]
    have HKK := hide hkk
    have HKN := hide hkl
    clear hkk hkl
    obtain ⟨wk, rfl⟩ : ∃ wk : World, wk = w2 := ⟨_, rfl⟩
    have TK1 := hide True.intro
    go_loopw [5, 6, 7] (fun a b i wr => ∃ (k : Nat) (A1 : Option Addr) (c1 : Nat) (A2 : Option Addr) (c2 : Nat), k ≤ 64 ∧ i = .int .i64 k ∧ a = .slice A1 k c1 ∧ b = .slice A2 k c2 ∧ Hid (G2 wk wk.heap.size (.slice A1 k c1) k (padTake kk 54 k) (.slice A2 k c2) k (padTake kk 92 k) wr ∧ Blk wr w.heap.size 95 (bytesTo 32 []))) (fun _ _ i _ => 64 - (intOf i).toNat)
    case atStart => exact ⟨0, none, 0, none, 0, Nat.zero_le _, rfl, rfl, rfl, hide ⟨⟨GB.nil (Ext.refl _) (Nat.le_refl _) (Nat.le_refl _), GB.nil (Ext.refl _) (Nat.le_refl _) (Nat.le_refl _), fun g h => by simp [Value.ownBlock] at h⟩, (unhide HK).2.2⟩⟩
    case round =>
      obtain ⟨k, A1, c1, A2, c2, hk, rfl, rfl, rfl, HI⟩ := hrel
      by_cases hlt : k < 64
      · have HS1 := hide (padTake_step kk 54 k)
        have HS2 := hide (padTake_step kk 92 k)
        have HX1 := hide (fun b : UInt8 => xor8 b 54)
        have HX2 := hide (fun b : UInt8 => xor8 b 92)
        have hcell : k < 32 → ∃ b o, A0 = some ⟨b, o, none⟩ ∧ wr.cell? ⟨b, o + k, none⟩ = some (.int .u8 ((kk.getD k 0).toNat : Int)) := fun h => by
          obtain ⟨b, o, c, u, e, _, _, _, _, _⟩ := ((unhide HK).1.ext (unhide HI).1.one.ext).at1 h
          cases e
          exact ⟨b, o, rfl, ((unhide HK).1.ext (unhide HI).1.one.ext).byteAt (by first | exact h | (rw [unhide HKN]; exact h))⟩
        have HCL := hide hcell
        clear hcell
        go_upto_if 22 with fail
        go_cut [8] (fun s wx => ∃ x : UInt8, s = .int .u8 (x.toNat : Int) ∧ Hid (x = kk.getD k 0 ∧ Ext wr wx ∧ G2 wk wk.heap.size (.slice A1 k c1) k (padTake kk 54 k) (.slice A2 k c2) k (padTake kk 92 k) wx ∧ Blk wx w.heap.size 95 (bytesTo 32 [])))
        case first =>
          by_cases hin : k < 32
          · obtain ⟨g, o, rfl, hc⟩ := unhide HCL hin
            have hin2 : decide (k < 32) = true := decide_eq_true hin
            have hin3 : (k : Int) < 32 := by omega
            have hin4 : decide ((k : Int) < 32) = true := decide_eq_true hin3
            generalize hx : kk.getD k 0 = x at *
            have HX := hide hx
            clear hx
            go_wp2_with fail
            go_meet
            exact ⟨x, rfl, hide ⟨rfl, Ext.refl _, (unhide HI).1, (unhide HI).2⟩⟩
          · have hin2 : decide (k < 32) = false := decide_eq_false hin
            have hin4 : decide ((k : Int) < 32) = false := decide_eq_false (by omega)
            have HX := hide (show (0 : UInt8) = kk.getD k 0 from by rw [List.getD_eq_getElem?_getD, List.getElem?_eq_none (by first | omega | (rw [unhide HKN]; omega))]; rfl)
            go_wp2_with fail
            go_meet
            exact ⟨0, rfl, hide ⟨unhide HX, Ext.refl _, (unhide HI).1, (unhide HI).2⟩⟩
        case rest =>
          obtain ⟨x, rfl, HX⟩ := hcut
          obtain ⟨wx, rfl⟩ : ∃ wx : World, wx = wc := ⟨_, rfl⟩
          have hx1 : bits BinOp.xor IntKind.u8 (x.toNat : Int) 54 = ((x ^^^ 54).toNat : Int) := xor8 x 54
          have hx2 : bits BinOp.xor IntKind.u8 (x.toNat : Int) 92 = ((x ^^^ 92).toNat : Int) := xor8 x 92
          rw [← (unhide HX).1] at HS1 HS2
          go_wp2_with (first
            | (at_builtin; refine wpList_app (s := .tmp 27) (x := .tmp 30) rfl rfl u8_row rfl (ownsRow_ext (unhide HX).2.2.1.one.own ((Ext.refl _).alloc _)) rfl (Reads.new1 _ _ _) (AllOne.one rfl) (by omega) (Nat.le_trans (unhide HX).2.2.1.one.room (by simp)) ?_; intro A3 c3 w3 ho hc hv; have H0 := hide (And.intro ho (And.intro hc hv)); clear ho hc hv
               have H3 := hide (And.intro (G2.step (unhide HX).2.2.1 ((Ext.refl _).alloc _) (unhide H0).2.1 (own_push (unhide H0).1 (unhide HS1)) (unhide H0).2.2) ((unhide HX).2.2.1.blk ((Ext.refl _).alloc _) (unhide H0).2.1 (unhide HX).2.2.2 (unhide HK).2.2.lt))
               clear H0)
            | (at_builtin; refine wpList_app (s := .tmp 32) (x := .tmp 35) rfl rfl u8_row rfl (ownsRow_ext (unhide H3).1.two.own ((Ext.refl _).alloc _)) rfl (Reads.new1 _ _ _) (AllOne.one rfl) (by omega) (Nat.le_trans (unhide H3).1.two.room (by simp)) ?_; intro A4 c4 w4 ho hc hv; have H0 := hide (And.intro ho (And.intro hc hv)); clear ho hc hv
               have H4 := hide (And.intro (G2.step (unhide H3).1.swap ((Ext.refl _).alloc _) (unhide H0).2.1 (own_push (unhide H0).1 (unhide HS2)) (unhide H0).2.2) ((unhide H3).1.swap.blk ((Ext.refl _).alloc _) (unhide H0).2.1 (unhide H3).2 (unhide HK).2.2.lt))
               clear H0))
          go_roundw
          case rel => exact ⟨k + 1, A3, c3, A4, c4, hlt, by go_num, rfl, rfl, hide ⟨(unhide H4).1.swap, (unhide H4).2⟩⟩
          case measure => simp [intOf]; omega
      · obtain rfl : k = 64 := by omega
        rw [padTake_end, padTake_end] at HI
        have HPL := hide (And.intro (padOf_length kk 54) (padOf_length kk 92))
        obtain ⟨p1, hp1⟩ : ∃ p, padOf kk 54 = p := ⟨_, rfl⟩
        obtain ⟨p2, hp2⟩ : ∃ p, padOf kk 92 = p := ⟨_, rfl⟩
        rw [hp1, hp2] at HPL HI
        have HPE := hide (And.intro hp1 hp2)
        clear hp1 hp2
        go_wp2_with (first
          | (at_builtin; refine wpList_app (s := .tmp 37) (x := .tmp 38) rfl rfl u8_row rfl (unhide HI).1.one.own rfl ((unhide HB).ext ((unhide HK).2.1.trans (unhide HI).1.one.ext)) (AllOne.u8 b) (by omega) (unhide HI).1.one.room ?_; intro A5 c5 w5 ho hc hv; have H0 := hide (And.intro ho (And.intro hc hv)); clear ho hc hv
             have H5 := hide (And.intro (G2.step (unhide HI).1 (Ext.refl _) (unhide H0).2.1 (own_cat (unhide H0).1) (unhide H0).2.2) ((unhide HI).1.blk (Ext.refl _) (unhide H0).2.1 (unhide HI).2 (unhide HK).2.2.lt))
             clear H0)
          | (have HT1 := unhide TK1; go_at_call 154; clear TK1 HT1; refine (rsum_any (p1 ++ b) _ _ (unhide H5).1.one.readsL (by rw [(unhide H5).1.one.len]; omega)).mono ?_; rintro e w6 ⟨rfl, hE6⟩; have H6 := hide (And.intro ((unhide H5).1.to hE6) ((unhide H5).2.ext hE6)); clear hE6)
          | (go_at_call 153; refine (rall_any (sha (p1 ++ b)) _ (sha_length _)).mono ?_; rintro e w7 ⟨A7, c7, rfl, h7⟩; have H7 := hide (And.intro h7 (And.intro ((unhide H6).1.to h7.ext) ((unhide H6).2.ext h7.ext))); clear h7)
          | (at_builtin; refine wpList_app (s := .tmp 40) (x := .tmp 43) rfl rfl u8_row rfl (unhide H7).2.1.two.own rfl (unhide H7).1.reads (AllOne.u8 _) (by omega) (unhide H7).2.1.two.room ?_; intro A8 c8 w8 ho hc hv; have H0 := hide (And.intro ho (And.intro hc hv)); clear ho hc hv
             have H8 := hide (And.intro (G2.step (unhide H7).2.1.swap (Ext.refl _) (unhide H0).2.1 (own_cat (unhide H0).1) (unhide H0).2.2) ((unhide H7).2.1.swap.blk (Ext.refl _) (unhide H0).2.1 (unhide H7).2.2 (unhide HK).2.2.lt))
             clear H0))
        refine (rsum_any (p2 ++ sha (p1 ++ b)) _ _ (unhide H8).1.one.readsL (by rw [(unhide H8).1.one.len]; omega)).mono ?_
        rintro e w9 ⟨rfl, hE9⟩
        have H9 := hide (And.intro ((unhide HK).2.1.trans ((unhide H8).1.one.ext.trans hE9)) ((unhide H8).2.ext hE9))
        clear hE9
        have HSZ := hide (sha_length (p2 ++ sha (p1 ++ b)))
        go_wp2_with (refine wpList_storeB (ty := 95) (t := 95) (x := .tmp 4) (y := .tmp 46) rfl rfl arr32_wide rfl rfl (unhide H9).2 (bytesTo_size (by simp)) (by simpa using unhide HSZ) (bytes_one _) ?_; intro w10 hb10 hc10 hz10; have H10 := hide (And.intro hb10 hc10); clear hb10 hc10 hz10)
        refine bodyPost_ret (v := .agg ((sha (p2 ++ sha (p1 ++ b))).map u8v).toArray) (results_blk arr32_wide rfl (unhide H10).1 (by simpa using unhide HSZ) rfl) rfl ⟨(by rw [← (unhide HPE).1, ← (unhide HPE).2, unhide HKK]), ?_⟩
        exact (unhide H9).1.trans' (unhide H10).2 (fun _ _ h => h) (fun i hi e => by omega)
  · have d64 : decide ((64 : Int) < (key.length : Int)) = false := decide_eq_false (by omega)
    rw [if_neg hlen]
    go_enter Tryd.func135, Tryd.ntmps135
    obtain ⟨kk, rfl⟩ : ∃ kk, kk = key := ⟨_, rfl⟩
    obtain ⟨A0, rfl⟩ : ∃ a, a = A := ⟨_, rfl⟩
    have HKN := hide (show kk.length = kk.length from rfl)
    go_wp2
    have HK := hide (show Reads (w.alloc (.cells (Array.replicate 32 (.int .u8 0)) 95)) 1 (.slice A0 kk.length c) kk.length (kk.map u8v) ∧ Ext w (w.alloc (.cells (Array.replicate 32 (.int .u8 0)) 95)) ∧ Blk (w.alloc (.cells (Array.replicate 32 (.int .u8 0)) 95)) w.heap.size 95 (bytesTo 32 []) from
      ⟨(unhide HK0).ext ((Ext.refl w).alloc _), (Ext.refl w).alloc _, by rw [bytesTo_nil]; exact Blk.new w _ _⟩)
    change Code.wp _ _ _ _ (w.alloc (.cells (Array.replicate 32 (.int .u8 0)) 95))
    generalize w.alloc (.cells (Array.replicate 32 (.int .u8 0)) 95) = wk at *
    have TK1 := hide True.intro
    go_loopw [5, 6, 7] (fun a b i wr => ∃ (k : Nat) (A1 : Option Addr) (c1 : Nat) (A2 : Option Addr) (c2 : Nat), k ≤ 64 ∧ i = .int .i64 k ∧ a = .slice A1 k c1 ∧ b = .slice A2 k c2 ∧ Hid (G2 wk wk.heap.size (.slice A1 k c1) k (padTake kk 54 k) (.slice A2 k c2) k (padTake kk 92 k) wr ∧ Blk wr w.heap.size 95 (bytesTo 32 []))) (fun _ _ i _ => 64 - (intOf i).toNat)
    case atStart => exact ⟨0, none, 0, none, 0, Nat.zero_le _, rfl, rfl, rfl, hide ⟨⟨GB.nil (Ext.refl _) (Nat.le_refl _) (Nat.le_refl _), GB.nil (Ext.refl _) (Nat.le_refl _) (Nat.le_refl _), fun g h => by simp [Value.ownBlock] at h⟩, (unhide HK).2.2⟩⟩
    case round =>
      obtain ⟨k, A1, c1, A2, c2, hk, rfl, rfl, rfl, HI⟩ := hrel
      by_cases hlt : k < 64
      · have HS1 := hide (padTake_step kk 54 k)
        have HS2 := hide (padTake_step kk 92 k)
        have HX1 := hide (fun b : UInt8 => xor8 b 54)
        have HX2 := hide (fun b : UInt8 => xor8 b 92)
        have hcell : k < kk.length → ∃ b o, A0 = some ⟨b, o, none⟩ ∧ wr.cell? ⟨b, o + k, none⟩ = some (.int .u8 ((kk.getD k 0).toNat : Int)) := fun h => by
          obtain ⟨b, o, c, u, e, _, _, _, _, _⟩ := ((unhide HK).1.ext (unhide HI).1.one.ext).at1 h
          cases e
          exact ⟨b, o, rfl, ((unhide HK).1.ext (unhide HI).1.one.ext).byteAt (by first | exact h | (rw [unhide HKN]; exact h))⟩
        have HCL := hide hcell
        clear hcell
        go_upto_if 22 with fail
        go_cut [8] (fun s wx => ∃ x : UInt8, s = .int .u8 (x.toNat : Int) ∧ Hid (x = kk.getD k 0 ∧ Ext wr wx ∧ G2 wk wk.heap.size (.slice A1 k c1) k (padTake kk 54 k) (.slice A2 k c2) k (padTake kk 92 k) wx ∧ Blk wx w.heap.size 95 (bytesTo 32 [])))
        case first =>
          by_cases hin : k < kk.length
          · obtain ⟨g, o, rfl, hc⟩ := unhide HCL hin
            have hin2 : decide (k < kk.length) = true := decide_eq_true hin
            have hin3 : (k : Int) < (kk.length : Int) := by omega
            have hin4 : decide ((k : Int) < (kk.length : Int)) = true := decide_eq_true hin3
            generalize hx : kk.getD k 0 = x at *
            have HX := hide hx
            clear hx
            go_wp2_with fail
            go_meet
            exact ⟨x, rfl, hide ⟨rfl, Ext.refl _, (unhide HI).1, (unhide HI).2⟩⟩
          · have hin2 : decide (k < kk.length) = false := decide_eq_false hin
            have hin4 : decide ((k : Int) < (kk.length : Int)) = false := decide_eq_false (by omega)
            have HX := hide (show (0 : UInt8) = kk.getD k 0 from by rw [List.getD_eq_getElem?_getD, List.getElem?_eq_none (by first | omega | (rw [unhide HKN]; omega))]; rfl)
            go_wp2_with fail
            go_meet
            exact ⟨0, rfl, hide ⟨unhide HX, Ext.refl _, (unhide HI).1, (unhide HI).2⟩⟩
        case rest =>
          obtain ⟨x, rfl, HX⟩ := hcut
          obtain ⟨wx, rfl⟩ : ∃ wx : World, wx = wc := ⟨_, rfl⟩
          have hx1 : bits BinOp.xor IntKind.u8 (x.toNat : Int) 54 = ((x ^^^ 54).toNat : Int) := xor8 x 54
          have hx2 : bits BinOp.xor IntKind.u8 (x.toNat : Int) 92 = ((x ^^^ 92).toNat : Int) := xor8 x 92
          rw [← (unhide HX).1] at HS1 HS2
          go_wp2_with (first
            | (at_builtin; refine wpList_app (s := .tmp 27) (x := .tmp 30) rfl rfl u8_row rfl (ownsRow_ext (unhide HX).2.2.1.one.own ((Ext.refl _).alloc _)) rfl (Reads.new1 _ _ _) (AllOne.one rfl) (by omega) (Nat.le_trans (unhide HX).2.2.1.one.room (by simp)) ?_; intro A3 c3 w3 ho hc hv; have H0 := hide (And.intro ho (And.intro hc hv)); clear ho hc hv
               have H3 := hide (And.intro (G2.step (unhide HX).2.2.1 ((Ext.refl _).alloc _) (unhide H0).2.1 (own_push (unhide H0).1 (unhide HS1)) (unhide H0).2.2) ((unhide HX).2.2.1.blk ((Ext.refl _).alloc _) (unhide H0).2.1 (unhide HX).2.2.2 (unhide HK).2.2.lt))
               clear H0)
            | (at_builtin; refine wpList_app (s := .tmp 32) (x := .tmp 35) rfl rfl u8_row rfl (ownsRow_ext (unhide H3).1.two.own ((Ext.refl _).alloc _)) rfl (Reads.new1 _ _ _) (AllOne.one rfl) (by omega) (Nat.le_trans (unhide H3).1.two.room (by simp)) ?_; intro A4 c4 w4 ho hc hv; have H0 := hide (And.intro ho (And.intro hc hv)); clear ho hc hv
               have H4 := hide (And.intro (G2.step (unhide H3).1.swap ((Ext.refl _).alloc _) (unhide H0).2.1 (own_push (unhide H0).1 (unhide HS2)) (unhide H0).2.2) ((unhide H3).1.swap.blk ((Ext.refl _).alloc _) (unhide H0).2.1 (unhide H3).2 (unhide HK).2.2.lt))
               clear H0))
          go_roundw
          case rel => exact ⟨k + 1, A3, c3, A4, c4, hlt, by go_num, rfl, rfl, hide ⟨(unhide H4).1.swap, (unhide H4).2⟩⟩
          case measure => simp [intOf]; omega
      · obtain rfl : k = 64 := by omega
        rw [padTake_end, padTake_end] at HI
        have HPL := hide (And.intro (padOf_length kk 54) (padOf_length kk 92))
        obtain ⟨p1, hp1⟩ : ∃ p, padOf kk 54 = p := ⟨_, rfl⟩
        obtain ⟨p2, hp2⟩ : ∃ p, padOf kk 92 = p := ⟨_, rfl⟩
        rw [hp1, hp2] at HPL HI
        have HPE := hide (And.intro hp1 hp2)
        clear hp1 hp2
        go_wp2_with (first
          | (at_builtin; refine wpList_app (s := .tmp 37) (x := .tmp 38) rfl rfl u8_row rfl (unhide HI).1.one.own rfl ((unhide HB).ext ((unhide HK).2.1.trans (unhide HI).1.one.ext)) (AllOne.u8 b) (by omega) (unhide HI).1.one.room ?_; intro A5 c5 w5 ho hc hv; have H0 := hide (And.intro ho (And.intro hc hv)); clear ho hc hv
             have H5 := hide (And.intro (G2.step (unhide HI).1 (Ext.refl _) (unhide H0).2.1 (own_cat (unhide H0).1) (unhide H0).2.2) ((unhide HI).1.blk (Ext.refl _) (unhide H0).2.1 (unhide HI).2 (unhide HK).2.2.lt))
             clear H0)
          | (have HT1 := unhide TK1; go_at_call 154; clear TK1 HT1; refine (rsum_any (p1 ++ b) _ _ (unhide H5).1.one.readsL (by rw [(unhide H5).1.one.len]; omega)).mono ?_; rintro e w6 ⟨rfl, hE6⟩; have H6 := hide (And.intro ((unhide H5).1.to hE6) ((unhide H5).2.ext hE6)); clear hE6)
          | (go_at_call 153; refine (rall_any (sha (p1 ++ b)) _ (sha_length _)).mono ?_; rintro e w7 ⟨A7, c7, rfl, h7⟩; have H7 := hide (And.intro h7 (And.intro ((unhide H6).1.to h7.ext) ((unhide H6).2.ext h7.ext))); clear h7)
          | (at_builtin; refine wpList_app (s := .tmp 40) (x := .tmp 43) rfl rfl u8_row rfl (unhide H7).2.1.two.own rfl (unhide H7).1.reads (AllOne.u8 _) (by omega) (unhide H7).2.1.two.room ?_; intro A8 c8 w8 ho hc hv; have H0 := hide (And.intro ho (And.intro hc hv)); clear ho hc hv
             have H8 := hide (And.intro (G2.step (unhide H7).2.1.swap (Ext.refl _) (unhide H0).2.1 (own_cat (unhide H0).1) (unhide H0).2.2) ((unhide H7).2.1.swap.blk (Ext.refl _) (unhide H0).2.1 (unhide H7).2.2 (unhide HK).2.2.lt))
             clear H0))
        refine (rsum_any (p2 ++ sha (p1 ++ b)) _ _ (unhide H8).1.one.readsL (by rw [(unhide H8).1.one.len]; omega)).mono ?_
        rintro e w9 ⟨rfl, hE9⟩
        have H9 := hide (And.intro ((unhide HK).2.1.trans ((unhide H8).1.one.ext.trans hE9)) ((unhide H8).2.ext hE9))
        clear hE9
        have HSZ := hide (sha_length (p2 ++ sha (p1 ++ b)))
        go_wp2_with (refine wpList_storeB (ty := 95) (t := 95) (x := .tmp 4) (y := .tmp 46) rfl rfl arr32_wide rfl rfl (unhide H9).2 (bytesTo_size (by simp)) (by simpa using unhide HSZ) (bytes_one _) ?_; intro w10 hb10 hc10 hz10; have H10 := hide (And.intro hb10 hc10); clear hb10 hc10 hz10)
        refine bodyPost_ret (v := .agg ((sha (p2 ++ sha (p1 ++ b))).map u8v).toArray) (results_blk arr32_wide rfl (unhide H10).1 (by simpa using unhide HSZ) rfl) rfl ⟨(by rw [(unhide HPE).1, (unhide HPE).2]), ?_⟩
        exact (unhide H9).1.trans' (unhide H10).2 (fun _ _ h => h) (fun i hi e => by omega)

end Go.Proofs.YtgndblhpfjkfhaaDoor

/-
  The reference's MAC, Digest, Derive, Stream.
-/
namespace Go.Proofs.YtgndblhpfjkfhaaDoor
open Go.RowKit

set_option maxHeartbeats 1000000 in
theorem rmac_any (key b : List UInt8) (kv bv : Value) (w : World) (hk : Reads w 1 kv key.length (key.map u8v)) (hb : Reads w 1 bv b.length (b.map u8v)) (hkl : key.length ≤ 1000000) (hbl : b.length ≤ 1000000) :
    Calls Tryd.prog 100 #[kv, bv] w fun e w' => e = .returned (.agg ((mac key b).map u8v).toArray) ∧ Ext w w' := by
  have HH := hide (rhmac_any key b kv bv _ (hk.ext ((Ext.refl w).alloc (.cells (Array.replicate 16 (.int .u8 0)) 23))) (hb.ext ((Ext.refl w).alloc _)) hkl hbl)
  have HL := hide (mac_length key b)
  clear hk hb
  go_enter Tryd.func100, Tryd.ntmps100
  go_wp2_with fail
  refine (unhide HH).mono ?_
  rintro e w1 ⟨rfl, hE1⟩
  go_wp2_with fail
  refine (rshort_any (hmac key b) _ (hmac_length _ _)).mono ?_
  rintro e w2 ⟨rfl, hE2⟩
  have hB := (Blk.new w 23 (Array.replicate 16 (.int .u8 0))).ext (hE1.trans hE2)
  have HB := hide (And.intro hB (hE1.trans hE2))
  clear hB hE1 hE2
  rw [show (hmac key b).take 16 = mac key b from rfl]
  go_wp2_with (refine wpList_storeB (ty := 23) (t := 23) (x := .tmp 4) (y := .tmp 8) rfl rfl digest_wide rfl rfl (unhide HB).1 (by simp) ?_ (bytes_one _) ?_; (focus (simpa using unhide HL)); intro w3 hb3 hc3 hz3; have H3 := hide (And.intro hb3 hc3); clear hb3 hc3 hz3)
  refine bodyPost_ret (v := .agg ((mac key b).map u8v).toArray) (results_blk digest_wide rfl (unhide H3).1 (by simpa using unhide HL) rfl) rfl ⟨rfl, ?_⟩
  exact (((Ext.refl w).alloc _).trans (unhide HB).2).trans' (unhide H3).2 (fun _ _ h => h) (fun i hi e => by omega)

theorem gb_one (w : World) (o : Obj) (x : UInt8) : GB w (w.heap.size + 1) (.slice (some ⟨w.heap.size + 1, 0, none⟩) 1 1) 1 [x] ((w.alloc o).alloc (.cells #[.int .u8 (x.toNat : Int)] 5)) :=
  ⟨own_one' _ _ _ _ (by simp) (by simp), ((Ext.refl w).alloc _).alloc _, by omega, by simp⟩
theorem gb_empty (w : World) (o : Obj) : GB w (w.heap.size + 1) (.slice (some ⟨w.heap.size + 1, 0, none⟩) 0 0) 0 [] ((w.alloc o).alloc (.cells #[] 5)) :=
  ⟨own_empty' _ _ _ _ (by simp) (by simp), ((Ext.refl w).alloc _).alloc _, by omega, by simp⟩

set_option maxRecDepth 100000 in
set_option maxHeartbeats 2000000 in
theorem rdigest_any (tag : Int) (ps : List (List UInt8)) (pv : Value) (w : World) (hp : Parts w pv ps) (hps : ps.length ≤ 1000) (hpl : ∀ p ∈ ps, p.length ≤ 10000) :
    Calls Tryd.prog 139 #[.int .i64 tag, pv] w fun e w' => e = .returned (.agg ((digestS tag ps).map u8v).toArray) ∧ Ext w w' := by
  have HP := hide hp
  have HPL := hide hpl
  obtain ⟨A1, c1, rfl⟩ : ∃ A c, pv = .slice A ps.length c := by obtain ⟨vs, _, ⟨_, A, c, h, _⟩, _⟩ := hp; exact ⟨A, c, h⟩
  clear hp hpl
  obtain ⟨l0, hl0⟩ : ∃ l, l = [tagByte tag] := ⟨_, rfl⟩
  have HL0 := hide hl0
  have HI0 := hide (show GB w (w.heap.size + 1) (.slice (some ⟨w.heap.size + 1, 0, none⟩) 1 1) 1 (l0 ++ encs (ps.take 0)) ((w.alloc (.cells (bytesTo 16 []) 23)).alloc (.cells #[.int .u8 (tag % 256)] 5)) ∧ Blk ((w.alloc (.cells (bytesTo 16 []) 23)).alloc (.cells #[.int .u8 (tag % 256)] 5)) w.heap.size 23 (bytesTo 16 []) from by
    rw [hl0, tag_wrap, List.take_zero, show encs [] = [] from rfl, List.append_nil]
    exact ⟨gb_one _ _ _, (Blk.new _ _ _).alloc _⟩)
  clear hl0
  go_enter Tryd.func139, Tryd.ntmps139
  go_wp2
  go_loopw [5, 6] (fun b i wr => ∃ (k n : Nat) (A : Option Addr) (c : Nat), k ≤ ps.length ∧ i = .int .i64 k ∧ b = .slice A n c ∧ n ≤ 90000 + k * 10010 ∧ Hid (GB w (w.heap.size + 1) (.slice A n c) n (l0 ++ encs (ps.take k)) wr ∧ Blk wr w.heap.size 23 (bytesTo 16 []))) (fun _ i _ => ps.length - (intOf i).toNat)
  case atStart => exact ⟨0, _, _, _, Nat.zero_le _, rfl, rfl, by omega, HI0⟩
  case round =>
    clear HI0
    obtain ⟨k, n, A, c, hk, rfl, rfl, hn, HI⟩ := hrel
    by_cases hlt : k < ps.length
    · have hpw : Parts wr (.slice A1 ps.length c1) ps := (unhide HP).ext (unhide HI).1.ext
      obtain ⟨vs, q1, q2, q3⟩ := hpw
      obtain ⟨u, q4, q5⟩ := q3 k ps[k] (List.getElem?_eq_getElem hlt)
      obtain ⟨b, o, c', u', hv, _, _, hb, hu, hcc⟩ := q2.at1 hlt
      cases hv
      rw [q4] at hu
      cases hu
      obtain ⟨Au, cu, rfl⟩ : ∃ A c, u = .slice A ps[k].length c := by obtain ⟨_, A, c, h, _⟩ := q5; exact ⟨A, c, h⟩
      have hpk := unhide HPL ps[k] (List.getElem_mem hlt)
      have HQ5 := hide q5
      have HE := hide (encs_step ps k hlt)
      clear q1 q2 q3 q4 q5
      have hwl := wBytes_length ps[k]
      generalize ps[k] = p at *
      have HW := hide (fun w => rbytes_any (strOf p) w (by rw [strOf_size]; omega))
      rw [strOf_list] at HW
      go_wp2_with (first
        | (refine wpList_strOf (src := 29) (dst := 9) (x := .tmp 20) (l := p) rfl rfl Tryd.underlying29 Tryd.underlying5 Tryd.underlying9 rfl (unhide HQ5) ?_)
        | (go_at_call 72; refine (unhide HW _).mono ?_; rintro e w3 ⟨A3, c3, rfl, ho3, hE3⟩; have H3 := hide (And.intro ho3 hE3); clear ho3 hE3)
        | (at_builtin; refine wpList_app rfl rfl u8_row rfl (ownsRow_ext (unhide HI).1.own (unhide H3).2) rfl (Reads.of_own (unhide H3).1) (AllOne.u8 _) (by omega) (Nat.le_trans (unhide HI).1.room (unhide H3).2.size') ?_; intro A' c4 w4 ho hc hv; have H4 := hide (And.intro ho hc); clear ho hc hv))
      go_roundw
      case rel =>
        refine ⟨k + 1, n + (wBytes p).length, A', c4, by omega, by go_num, rfl, by rw [Nat.succ_mul]; omega, hide ⟨?_, (unhide HI).1.blk (unhide H3).2 (unhide H4).2 (unhide HI).2 (Nat.lt_succ_self _)⟩⟩
        rw [unhide HE, ← List.append_assoc]
        exact (unhide HI).1.step (unhide H3).2 (unhide H4).2 (own_cat (unhide H4).1)
      case measure => simp [intOf]; omega
    · obtain rfl : k = ps.length := by omega
      clear hlt hk
      rw [List.take_length] at HI
      obtain ⟨ll, hll⟩ : ∃ l, l0 ++ encs ps = l := ⟨_, rfl⟩
      rw [hll] at HI
      have HLL := hide hll
      clear hll
      have hn' : n ≤ 100000000 := by omega
      go_wp2_with fail
      refine (rsum_any ll _ _ (unhide HI).1.readsL (by rw [(unhide HI).1.len]; exact hn')).mono ?_
      rintro e w8 ⟨rfl, hE8⟩
      have HE8 := hide hE8
      clear hE8
      go_wp2_with fail
      refine (rshort_any (sha ll) _ (sha_length _)).mono ?_
      rintro e w9 ⟨rfl, hE9'⟩
      have hE9 := (unhide HE8).trans hE9'
      clear hE9'
      obtain ⟨rr, hrr⟩ : ∃ r, (sha ll).take 16 = r := ⟨_, rfl⟩
      have hrl : rr.length = 16 := by rw [← hrr, List.length_take, sha_length]; rfl
      rw [hrr]
      have HRR := hide hrr
      clear hrr
      have HSZ := hide hrl
      have H9 := hide (And.intro ((unhide HI).1.ext.trans hE9) ((unhide HI).2.ext hE9))
      clear hE9
      go_wp2_with (refine wpList_storeB (ty := 23) (t := 23) (x := .tmp 4) (y := .tmp 26) rfl rfl digest_wide rfl rfl (unhide H9).2 (bytesTo_size (by simp)) (by simpa using unhide HSZ) (bytes_one _) ?_; intro w10 hb10 hc10 hz10; have H10 := hide (And.intro hb10 hc10); clear hb10 hc10 hz10)
      refine bodyPost_ret (results_blk digest_wide rfl (unhide H10).1 (by simpa using unhide HSZ) rfl) rfl ⟨(by unfold digestS; rw [← unhide HL0, unhide HLL, unhide HRR]), ?_⟩
      exact (unhide H9).1.trans' (unhide H10).2 (fun _ _ h => h) (fun i hi e => by omega)

set_option maxRecDepth 100000 in
set_option maxHeartbeats 2000000 in
theorem rderive_any (key : List UInt8) (kv : Value) (label : ByteArray) (ps : List (List UInt8)) (pv : Value) (w : World) (hk : Reads w 1 kv key.length (key.map u8v)) (hkl : key.length ≤ 10000) (hll : label.size ≤ 10000) (hp : Parts w pv ps) (hps : ps.length ≤ 90) (hpl : ∀ p ∈ ps, p.length ≤ 10000) :
    Calls Tryd.prog 58 #[kv, .string label, pv] w fun e w' => e = .returned (.agg ((deriveS key label.data.toList ps).map u8v).toArray) ∧ Ext w w' := by
  have HP := hide hp
  have HPL := hide hpl
  have HK := hide hk
  obtain ⟨A1, c1, rfl⟩ : ∃ A c, pv = .slice A ps.length c := by obtain ⟨vs, _, ⟨_, A, c, h, _⟩, _⟩ := hp; exact ⟨A, c, h⟩
  clear hp hpl hk
  have hl0l : (wBytes label.data.toList).length ≤ 10 + label.size := wBytes_length label.data.toList
  have HW0 := hide (fun w => rbytes_any label w (by omega))
  obtain ⟨l0, hl0⟩ : ∃ l, wBytes label.data.toList = l := ⟨_, rfl⟩
  rw [hl0] at HW0 hl0l
  have HL0 := hide hl0
  clear hl0
  go_enter Tryd.func58, Tryd.ntmps58
  go_wp2_with fail
  refine (unhide HW0 _).mono ?_
  rintro e w1 ⟨A0, c0, rfl, ho0, hE0⟩
  have H1 := hide (show GB w (w.heap.size + 1) (.slice (some ⟨w.heap.size + 1, 0, none⟩) 0 0) 0 [] w1 ∧ Blk w1 w.heap.size 23 (bytesTo 16 []) ∧ Reads w1 1 (.slice A0 l0.length c0) l0.length (l0.map u8v) from
    ⟨(gb_empty w _).to hE0, ((Blk.new w _ _).alloc _).ext hE0, Reads.of_own ho0⟩)
  clear ho0 hE0
  go_wp2_with (at_builtin; refine wpList_app rfl rfl u8_row rfl (unhide H1).1.own rfl (unhide H1).2.2 (AllOne.u8 _) (by omega) (unhide H1).1.room ?_; intro A2 c2 w2 ho hc hv; have H2 := hide (And.intro ho hc); clear ho hc hv)
  have HI0 := hide (show GB w (w.heap.size + 1) (.slice A2 (0 + l0.length) c2) (0 + l0.length) (l0 ++ encs (ps.take 0)) w2 ∧ Blk w2 w.heap.size 23 (bytesTo 16 []) from
    ⟨by rw [List.take_zero, show encs [] = [] from rfl, List.append_nil]; exact (unhide H1).1.step (Ext.refl _) (unhide H2).2 (unhide H2).1, (unhide H1).1.blk (Ext.refl _) (unhide H2).2 (unhide H1).2.1 (Nat.lt_succ_self _)⟩)
  rw [Nat.zero_add] at HI0
  clear H1 H2
  go_loopw [7, 8] (fun b i wr => ∃ (k n : Nat) (A : Option Addr) (c : Nat), k ≤ ps.length ∧ i = .int .i64 k ∧ b = .slice A n c ∧ n ≤ 90000 + k * 10010 ∧ Hid (GB w (w.heap.size + 1) (.slice A n c) n (l0 ++ encs (ps.take k)) wr ∧ Blk wr w.heap.size 23 (bytesTo 16 []))) (fun _ i _ => ps.length - (intOf i).toNat)
  case atStart => exact ⟨0, _, _, _, Nat.zero_le _, rfl, rfl, by omega, HI0⟩
  case round =>
    clear HI0
    obtain ⟨k, n, A, c, hk, rfl, rfl, hn, HI⟩ := hrel
    by_cases hlt : k < ps.length
    · have hpw : Parts wr (.slice A1 ps.length c1) ps := (unhide HP).ext (unhide HI).1.ext
      obtain ⟨vs, q1, q2, q3⟩ := hpw
      obtain ⟨u, q4, q5⟩ := q3 k ps[k] (List.getElem?_eq_getElem hlt)
      obtain ⟨b, o, c', u', hv, _, _, hb, hu, hcc⟩ := q2.at1 hlt
      cases hv
      rw [q4] at hu
      cases hu
      obtain ⟨Au, cu, rfl⟩ : ∃ A c, u = .slice A ps[k].length c := by obtain ⟨_, A, c, h, _⟩ := q5; exact ⟨A, c, h⟩
      have hpk := unhide HPL ps[k] (List.getElem_mem hlt)
      have HQ5 := hide q5
      have HE := hide (encs_step ps k hlt)
      clear q1 q2 q3 q4 q5
      have hwl := wBytes_length ps[k]
      generalize ps[k] = p at *
      have HW := hide (fun w => rbytes_any (strOf p) w (by rw [strOf_size]; omega))
      rw [strOf_list] at HW
      go_wp2_with (first
        | (refine wpList_strOf (src := 29) (dst := 9) (x := .tmp 23) (l := p) rfl rfl Tryd.underlying29 Tryd.underlying5 Tryd.underlying9 rfl (unhide HQ5) ?_)
        | (go_at_call 72; refine (unhide HW _).mono ?_; rintro e w3 ⟨A3, c3, rfl, ho3, hE3⟩; have H3 := hide (And.intro ho3 hE3); clear ho3 hE3)
        | (at_builtin; refine wpList_app rfl rfl u8_row rfl (ownsRow_ext (unhide HI).1.own (unhide H3).2) rfl (Reads.of_own (unhide H3).1) (AllOne.u8 _) (by omega) (Nat.le_trans (unhide HI).1.room (unhide H3).2.size') ?_; intro A' c4 w4 ho hc hv; have H4 := hide (And.intro ho hc); clear ho hc hv))
      go_roundw
      case rel =>
        refine ⟨k + 1, n + (wBytes p).length, A', c4, by omega, by go_num, rfl, by rw [Nat.succ_mul]; omega, hide ⟨?_, (unhide HI).1.blk (unhide H3).2 (unhide H4).2 (unhide HI).2 (Nat.lt_succ_self _)⟩⟩
        rw [unhide HE, ← List.append_assoc]
        exact (unhide HI).1.step (unhide H3).2 (unhide H4).2 (own_cat (unhide H4).1)
      case measure => simp [intOf]; omega
    · obtain rfl : k = ps.length := by omega
      clear hlt hk
      rw [List.take_length] at HI
      obtain ⟨ll, hll⟩ : ∃ l, l0 ++ encs ps = l := ⟨_, rfl⟩
      rw [hll] at HI
      have HLL := hide hll
      clear hll
      have hn' : n ≤ 1000000 := by omega
      go_wp2_with fail
      refine (rmac_any key ll _ _ _ ((unhide HK).ext (unhide HI).1.ext) (unhide HI).1.readsL (by omega) (by rw [(unhide HI).1.len]; exact hn')).mono ?_
      rintro e w9 ⟨rfl, hE9⟩
      have HSZ := hide (mac_length key ll)
      have H9 := hide (And.intro ((unhide HI).1.ext.trans hE9) ((unhide HI).2.ext hE9))
      clear hE9
      go_wp2_with (refine wpList_storeB (ty := 23) (t := 23) (x := .tmp 6) (y := .tmp 29) rfl rfl digest_wide rfl rfl (unhide H9).2 (bytesTo_size (by simp)) (by simpa using unhide HSZ) (bytes_one _) ?_; intro w10 hb10 hc10 hz10; have H10 := hide (And.intro hb10 hc10); clear hb10 hc10 hz10)
      refine bodyPost_ret (results_blk digest_wide rfl (unhide H10).1 (by simpa using unhide HSZ) rfl) rfl ⟨(by unfold deriveS; rw [unhide HL0, unhide HLL]), ?_⟩
      exact (unhide H9).1.trans' (unhide H10).2 (fun _ _ h => h) (fun i hi e => by omega)

end Go.Proofs.YtgndblhpfjkfhaaDoor

/-
  The reference's Tag of a box.
-/
namespace Go.Proofs.YtgndblhpfjkfhaaDoor
open Go.RowKit

theorem reads_key {w : World} {g : Nat} {t : TypeId} {key : List UInt8} {arr : Array Value} (h : Blk w g t arr) (ha : (key.map u8v).toArray = arr) (hk : key.length = 16) : Reads w 1 (.slice (some ⟨g, 0, none⟩) 16 16) key.length (key.map u8v) := by
  have hs : arr.size = 16 := by rw [← ha]; simpa using hk
  have := Reads.of_blk h (i := 0) (n := 16) (c := 16) (by omega) (by omega) (by unfold maxLen; omega)
  rw [← ha] at this
  simp only [List.drop_zero] at this
  rw [List.take_of_length_le (by rw [List.length_map]; omega)] at this
  rw [hk]
  exact this

set_option maxRecDepth 100000 in
set_option maxHeartbeats 2000000 in
theorem rtag_any (key : List UInt8) (nonce : Int) (c : ByteArray) (w : World) (hk : key.length = 16) (h1 : -9223372036854775808 ≤ nonce) (h2 : nonce < 9223372036854775808) (hc : c.size ≤ 100000) :
    Calls Tryd.prog 99 #[.agg (key.map u8v).toArray, .int .i64 nonce, .string c] w fun e w' => e = .returned (.agg ((tagS key nonce c.data.toList).map u8v).toArray) ∧ Ext w w' := by
  obtain ⟨arr, harr⟩ : ∃ r, (key.map u8v).toArray = r := ⟨_, rfl⟩
  obtain ⟨dk, hdk⟩ : ∃ d, deriveS key labAuth.data.toList [] = d := ⟨_, rfl⟩
  obtain ⟨res, hres⟩ : ∃ d, tagS key nonce c.data.toList = d := ⟨_, rfl⟩
  have hdl : dk.length = 16 := by rw [← hdk]; exact deriveS_length _ _ _
  have hrl : res.length = 16 := by rw [← hres]; exact tagS_length _ _ _
  have HW1 := hide (fun w => rint_any nonce w h1 h2)
  have HW2 := hide (fun w => rbytes_any c w (by omega))
  have hb1 := wInt_length nonce
  have hb2 : (wBytes c.data.toList).length ≤ 10 + c.size := wBytes_length c.data.toList
  have HR := hide hres
  have HD := hide hdk
  have HA := hide harr
  have HS := hide (show ((dk.map u8v).toArray).size = 16 ∧ ((res.map u8v).toArray).size = 16 from ⟨by simpa using hdl, by simpa using hrl⟩)
  have HMR := hide (show mac dk (wInt nonce ++ wBytes c.data.toList) = res from by rw [← hres, ← hdk]; rfl)
  rw [harr, hres]
  clear harr hdk hres
  generalize wInt nonce = ni at *
  generalize wBytes c.data.toList = nc at *
  go_enter Tryd.func99, Tryd.ntmps99
  go_wp2_with fail
  refine (rderive_any key _ labAuth [] _ _ (reads_key ((Blk.new w _ _).alloc _) (unhide HA) hk) (by omega) (by decide) (Parts.nil _) (by simp) (fun p hp => by cases hp)).mono ?_
  rintro e w1 ⟨rfl, hE1⟩
  rw [unhide HD]
  have H1 := hide (show Ext w w1 ∧ Blk w1 (w.heap.size + 1) 23 (bytesTo 16 []) from ⟨(((Ext.refl w).alloc _).alloc _).trans hE1, (Blk.new' _ _ _ (by simp)).ext hE1⟩)
  clear hE1
  go_wp2_with (first
    | (refine wpList_storeB (ty := 23) (t := 23) (x := .tmp 7) (y := .tmp 10) rfl rfl digest_wide rfl rfl (Blk.new w1 _ _) rfl (unhide HS).1 (bytes_one _) ?_; intro w2 hb2 hc2 hz2; have H2 := hide (And.intro (made_ext (unhide H1).1 hc2) (And.intro ((unhide H1).2.ext (made_ext1 hc2)) hb2)); clear hb2 hc2 hz2)
    | (go_at_call 60; refine (unhide HW1 _).mono ?_; rintro e w3 ⟨A3, c3, rfl, ho3, hE3⟩; have H3 := hide (show GB w2 w2.heap.size (.slice (some ⟨w2.heap.size, 0, none⟩) 0 0) 0 [] w3 ∧ Reads w3 1 (.slice A3 ni.length c3) ni.length (ni.map u8v) from And.intro (GB.to ⟨own_empty _ _ _ _ (Nat.le_refl _), (Ext.refl w2).alloc _, Nat.le_refl _, by simp⟩ hE3) (Reads.of_own ho3)); clear ho3 hE3)
    | (at_builtin; refine wpList_app (s := .tmp 11) (x := .tmp 13) rfl rfl u8_row rfl (unhide H3).1.own rfl (unhide H3).2 (AllOne.u8 _) (by omega) (unhide H3).1.room ?_; intro A4 c4 w4 ho hc hv; have H4 := hide (GB.step (l' := [] ++ ni) (unhide H3).1 (Ext.refl _) hc (own_cat ho)); rw [Nat.zero_add, List.nil_append] at H4; clear ho hc hv)
    | (go_at_call 72; refine (unhide HW2 _).mono ?_; rintro e w5 ⟨A5, c5, rfl, ho5, hE5⟩; have H5 := hide (And.intro ((unhide H4).to hE5) (Reads.of_own ho5)); clear ho5 hE5)
    | (at_builtin; refine wpList_app (s := .tmp 14) (x := .tmp 16) rfl rfl u8_row rfl (unhide H5).1.own rfl (unhide H5).2 (AllOne.u8 _) (by omega) (unhide H5).1.room ?_; intro A6 c6 w6 ho hc hv; have H6 := hide (GB.step (l' := ni ++ nc) (unhide H5).1 (Ext.refl _) hc (own_cat ho)); clear ho hc hv))
  refine (rmac_any dk (ni ++ nc) _ _ _ (reads_key ((unhide H2).2.2.ext (unhide H6).ext) rfl hdl) (unhide H6).readsL (by omega) (by rw [(unhide H6).len]; omega)).mono ?_
  rintro e w7 ⟨rfl, hE7⟩
  rw [unhide HMR]
  have H7 := hide (And.intro ((unhide H2).1.trans ((unhide H6).ext.trans hE7)) ((unhide H2).2.1.ext ((unhide H6).ext.trans hE7)))
  clear hE7
  go_wp2_with (refine wpList_storeB (ty := 23) (t := 23) (x := .tmp 6) (y := .tmp 20) rfl rfl digest_wide rfl rfl (unhide H7).2 (bytesTo_size (by simp)) (unhide HS).2 (bytes_one _) ?_; intro w8 hb8 hc8 hz8; have H8 := hide (And.intro hb8 hc8); clear hb8 hc8 hz8)
  refine bodyPost_ret (results_blk digest_wide rfl (unhide H8).1 (unhide HS).2 rfl) rfl ⟨rfl, ?_⟩
  exact (unhide H7).1.trans' (unhide H8).2 (fun _ _ h => h) (fun i hi e => by omega)

end Go.Proofs.YtgndblhpfjkfhaaDoor

/-
  The reference of package 02: Stream.
-/
namespace Go.Proofs.YtgndblhpfjkfhaaDoor
open Go.RowKit

theorem Reads.take_own {w : World} {B : Nat} {e : TypeId} {A : Option Addr} {m c N : Nat} {l : List UInt8} (h : w.ownsRow B e 1 (.slice A m c) m (l.map u8v)) (hN : N ≤ m) : Reads w 1 (.slice A N c) N ((l.take N).map u8v) := by
  obtain ⟨h1, A', c', e1, h2, h3, h4⟩ := Reads.of_own h
  cases e1
  rw [List.length_map] at h1
  refine ⟨by rw [List.length_map, List.length_take]; omega, A, c, rfl, by omega, h3, fun h0 => ?_⟩
  obtain ⟨b, o, e2, hc⟩ := h4 (by omega)
  refine ⟨b, o, e2, fun j u hj => hc j u ?_⟩
  rw [List.map_take, List.getElem?_take] at hj
  split at hj
  · exact hj
  · cases hj

set_option maxRecDepth 100000 in
set_option maxHeartbeats 2000000 in
theorem rstream_pos (key : List UInt8) (kv : Value) (N : Nat) (w : World) (hk : Reads w 1 kv key.length (key.map u8v)) (hkl : key.length ≤ 10000) (hN : N ≤ 100000) :
    Calls Tryd.prog 133 #[kv, .int .i64 (N : Int)] w fun e w' => ∃ A c, e = .returned (.slice A N c) ∧ Reads w' 1 (.slice A N c) N ((streamS key N).map u8v) ∧ Ext w w' := by
  have HK := hide hk
  clear hk
  go_enter Tryd.func133, Tryd.ntmps133
  go_wp2
  go_loopw [5, 6] (fun b i wr => ∃ (k : Nat) (A : Option Addr) (c : Nat), 32 * k < N + 32 ∧ i = .int .i64 k ∧ b = .slice A (32 * k) c ∧ Hid (GB w w.heap.size (.slice A (32 * k) c) (32 * k) (streamCat key k) wr)) (fun b _ _ => match b with | .slice _ m _ => N - m | _ => 0)
  case atStart => exact ⟨0, none, 0, by omega, rfl, rfl, hide (GB.nil (Ext.refl _) (Nat.le_refl _) (Nat.le_refl _))⟩
  case round =>
    obtain ⟨k, A, c, hkN, rfl, rfl, HI⟩ := hrel
    by_cases hlt : 32 * k < N
    · have d1 : decide (32 * k < N) = true := decide_eq_true hlt
      have HX := hide (streamCat_step key k)
      have HW := hide (fun w => rint_any (k : Int) w (by omega) (by omega))
      have hwl := wInt_length (k : Int)
      generalize wInt (k : Int) = ik at *
      go_wp2_with (first
        | (go_at_call 60; refine (unhide HW _).mono ?_; rintro e w1 ⟨A1, c1, rfl, ho1, hE1⟩; have H1 := hide (And.intro (Reads.of_own ho1) hE1); clear ho1 hE1)
        | (go_at_call 135; refine (rhmac_any key ik _ _ _ ((unhide HK).ext ((unhide HI).ext.trans (unhide H1).2)) (unhide H1).1 (by omega) (by omega)).mono ?_; rintro e w2 ⟨rfl, hE2⟩; have H2 := hide ((unhide H1).2.trans hE2); clear hE2)
        | (go_at_call 153; refine (rall_any (hmac key ik) _ (hmac_length _ _)).mono ?_; rintro e w3 ⟨A3, c3, rfl, h3⟩; have H3 := hide (And.intro h3 ((unhide H2).trans h3.ext)); clear h3)
        | (at_builtin; refine wpList_app (s := .tmp 13) (x := .tmp 18) rfl rfl u8_row rfl (ownsRow_ext (unhide HI).own (unhide H3).2) rfl (unhide H3).1.reads (AllOne.u8 _) (by omega) (Nat.le_trans (unhide HI).room (unhide H3).2.size') ?_; intro A4 c4 w4 ho hc hv; have H4 := hide (And.intro ho hc); clear ho hc hv))
      go_roundw
      case rel =>
        refine ⟨k + 1, A4, c4, by omega, by go_num, rfl, hide ?_⟩
        rw [unhide HX]
        exact (unhide HI).step (unhide H3).2 (unhide H4).2 (own_cat (unhide H4).1)
      case measure => simp; omega
    · have d1 : decide (32 * k < N) = false := decide_eq_false hlt
      have hc : N ≤ c := by
        obtain ⟨_, A', c', e, h2, _⟩ := (unhide HI).reads
        cases e
        omega
      have hcm : c ≤ 9223372036854775807 := by
        obtain ⟨_, A', c', e, _, h3, _⟩ := (unhide HI).reads
        cases e
        unfold maxLen at h3
        exact h3
      go_wp2
      go_ret
      refine ⟨_, _, rfl, ?_, (unhide HI).ext⟩
      have := Reads.take_own (unhide HI).own (N := N) (by omega)
      rwa [streamS_of key N k (by omega)] at this

set_option maxHeartbeats 1000000 in
theorem rstream_neg (kv : Value) (n : Int) (w : World) (hn : n < 0) :
    Calls Tryd.prog 133 #[kv, .int .i64 n] w fun e w' => e = .returned (.slice none 0 0) ∧ w = w' := by
  have h1 : ¬ (0 : Int) < n := by omega
  have d1 : decide ((0 : Int) < n) = false := decide_eq_false h1
  have d2 : decide (n < (0 : Int)) = true := decide_eq_true hn
  go_enter Tryd.func133, Tryd.ntmps133
  go_wp2
  refine wp_loop_rounds 1 ?_
  rw [rounds_succ]
  go_wp2
  go_ret
  exact ⟨rfl, rfl⟩


end Go.Proofs.YtgndblhpfjkfhaaDoor

/-
  The reference's apply of a box.
-/
namespace Go.Proofs.YtgndblhpfjkfhaaDoor
open Go.RowKit

theorem made_u8 (n : Nat) : madeCells (Value.int .u8 0).cells n = bytesTo n [] := by
  rw [bytesTo_nil]
  show madeCells #[Value.int .u8 0] n = _
  unfold madeCells
  apply Array.ext
  · simp
  · intro i h1 h2
    simp [Nat.mod_one]
theorem make_u8 (n : Nat) (hn : n ≤ 1000000000) (w : World) : (Instr.makeSlice 29 (.int .i64 (n : Int)) (.int .i64 (n : Int))).run Tryd.prog w = .ok (.slice (some ⟨w.heap.size, 0, none⟩) n n) (w.alloc (.cells (bytesTo n []) 5)) := by
  obtain ⟨ht, ⟨i, z, hi, hz, hsize, hby, _⟩, _, _⟩ := u8_row
  have hz0 : i.zero = some (.int .u8 0) := by have := u8_zero; rw [hi] at this; simpa using this
  have := run_make (P := Tryd.prog) w 29 5 i (.int .u8 0) ht hi hz0 .i64 .i64 n n (by omega) (Int.le_refl _) (by rw [hby]; omega) (by omega)
  simp only [Int.toNat_natCast, hsize, Nat.mul_one] at this
  rw [this, made_u8]

set_option maxRecDepth 100000 in
set_option maxHeartbeats 2000000 in
theorem rapply_any (key : List UInt8) (nonce : Int) (s : ByteArray) (w : World) (hk : key.length = 16) (h1 : -9223372036854775808 ≤ nonce) (h2 : nonce < 9223372036854775808) (hs : s.size ≤ 10000) :
    Calls Tryd.prog 98 #[.agg (key.map u8v).toArray, .int .i64 nonce, .string s] w fun e w' => e = .returned (.string (strOf (applyS key nonce s.data.toList))) ∧ Ext w w' := by
  obtain ⟨arr, harr⟩ : ∃ r, (key.map u8v).toArray = r := ⟨_, rfl⟩
  have HW1 := hide (fun w => rint_any nonce w h1 h2)
  have HA := hide harr
  rw [harr]
  clear harr h1 h2
  have hasz : arr.size = 16 := by rw [← unhide HA]; simpa using hk
  obtain ⟨dk, hdk⟩ : ∃ d, keyS key nonce = d := ⟨_, rfl⟩
  have HD := hide hdk
  clear hdk
  go_enter Tryd.func98, Tryd.ntmps98
  go_upto_region 1 with fail
  have HKA := hide (reads_key (Blk.new w 23 arr) (unhide HA) hk)
  have HP := hide ((Ext.refl w).alloc (.cells arr 23))
  generalize w.alloc (.cells arr 23) = W0 at *
  have HPC := hide (fun (W4 : World) (pv : Value) (A3 : Option Addr) (c3 : Nat) (hX : Ext W0 W4) (hpv : Reads W4 1 pv 1 [.slice A3 (wInt nonce).length c3]) (hr : Reads W4 1 (.slice A3 (wInt nonce).length c3) (wInt nonce).length ((wInt nonce).map u8v)) => rderive_any key (.slice (some ⟨w.heap.size, 0, none⟩) 16 16) labEnc [wInt nonce] pv W4 ((unhide HKA).ext hX) (by omega) (by decide) ⟨[.slice A3 (wInt nonce).length c3], rfl, hpv, fun i p hp => by
    cases i with
    | zero => cases hp; exact ⟨_, rfl, hr⟩
    | succ i => simp at hp⟩ (by simp) (fun p hp => by simp at hp; subst hp; have := wInt_length nonce; omega))
  go_cut [7] (fun s8 wx => ∃ g, s8 = .pointer (some ⟨g, 0, none⟩) ∧ Hid (Blk wx g 23 ((dk.map u8v).toArray) ∧ Ext W0 wx ∧ W0.heap.size ≤ g))
  case first =>
    have HS := hide (show ((dk.map u8v).toArray).size = 16 from by rw [← unhide HD]; unfold keyS; simpa using deriveS_length _ _ _)
    go_region_law (first
      | (go_simp; go_at_call 60; refine (unhide HW1 _).mono ?_; rintro e w3 ⟨A3, c3, rfl, ho3, hE3⟩
         first
         | (have H3 := hide (show Reads w3 1 (.slice A3 (wInt nonce).length c3) (wInt nonce).length ((wInt nonce).map u8v) ∧ Ext W0 w3 ∧ True from And.intro (Reads.of_own ho3) (And.intro (((Ext.refl W0).drew).trans hE3) trivial)); clear ho3 hE3)
         | (have H3 := hide (show Reads w3 1 (.slice A3 (wInt nonce).length c3) (wInt nonce).length ((wInt nonce).map u8v) ∧ Ext W0 w3 ∧ Blk w3 W0.heap.size 23 (Array.replicate 16 (.int .u8 0)) from And.intro (Reads.of_own ho3) (And.intro ((((Ext.refl W0).drew).alloc _).trans hE3) ((Blk.new W0.drew _ _).ext hE3))); clear ho3 hE3))
      | (rename_i K hK; go_simp; go_at_call 58; refine (unhide HPC _ _ A3 c3 ?_ ?_ ?_).mono ?_
         (focus (first | exact (unhide H3).2.1.alloc _ | exact ((unhide H3).2.1.alloc _).alloc _))
         (focus (first | exact Reads.new1 _ _ _ | exact (Reads.new1 _ _ _).ext ((Ext.refl _).alloc _) | (have h := Reads.new1 (w3.alloc (.cells (Array.replicate 16 (.int .u8 0)) 23)) (.slice A3 (wInt nonce).length c3) 29; rw [World.size_alloc] at h; exact h)))
         (focus (first | exact (unhide H3).1.ext ((Ext.refl _).alloc _) | exact (unhide H3).1.ext (((Ext.refl _).alloc _).alloc _)))
         rintro e w5 ⟨rfl, hE5⟩
         rw [show deriveS key labEnc.data.toList [wInt nonce] = dk from unhide HD]
         have H5 := hide (show Ext W0 w5 ∧ Ext _ w5 from And.intro (by first | exact ((unhide H3).2.1.alloc _).trans hE5 | exact (((unhide H3).2.1.alloc _).alloc _).trans hE5) hE5)
         clear hE5
         dsimp only
         refine hK _ _ ?_
         clear hK K
         first
         | (refine wpAny_ready (rs := [5]) (by kernel_rfl) (by simp) (AllReady.cons rfl (fun J hJ => ?_) AllReady.nil)
            rw [if_pos (by rfl)]
            go_simp
            refine hJ _ _ ?_
            clear hJ J
            refine wpAny_ready (rs := [6]) (by kernel_rfl) (by simp) (AllReady.cons rfl (fun J hJ => ?_) AllReady.nil)
            refine step_storeB (ty := 23) (t := 23) (x := .tmp 7) (y := .tmp 15) rfl rfl digest_wide rfl rfl (Blk.new w5 _ _) ?_ ?_ ?_ ?_
            · rfl
            · exact unhide HS
            · exact bytes_one _
            intro w7 hb7 hc7 hz7
            have H7 := hide (And.intro hb7 (And.intro (((unhide H5).1.alloc _).trans' hc7 (fun _ _ h => h) (fun i hi e => by have := (unhide H5).1.size'; omega)) (unhide H5).1.size'))
            clear hb7 hc7 hz7
            refine hJ _ _ ?_
            clear hJ J)
         | (refine wpAny_ready (rs := [6]) (by kernel_rfl) (by simp) (AllReady.cons rfl (fun J hJ => ?_) AllReady.nil)
            have hz3 := (unhide H3).2.1.size'
            refine step_storeB (ty := 23) (t := 23) (x := .tmp 7) (y := .tmp 15) (old := Array.replicate 16 (.int .u8 0)) rfl rfl digest_wide rfl rfl ?_ ?_ ?_ ?_ ?_
            · first | exact (((unhide H3).2.2).alloc _).ext (unhide H5).2 | exact ((Blk.new w3 _ _).alloc _).ext (unhide H5).2 | exact (Blk.new' (w3.alloc _) _ _ (by simp)).ext (unhide H5).2
            · rfl
            · exact unhide HS
            · exact bytes_one _
            intro w7 hb7 hc7 hz7
            have H7 := hide (And.intro hb7 (And.intro ((unhide H5).1.trans' hc7 (fun _ _ h => h) (fun i hi e => by omega)) (show W0.heap.size ≤ _ by omega)))
            clear hb7 hc7 hz7 hz3
            refine hJ _ _ ?_
            clear hJ J)))
    all_goals
      go_wp2_with fail
      go_meet
      exact ⟨_, rfl, hide ⟨(unhide H7).1, (unhide H7).2.1, by have := (unhide H7).2.2; omega⟩⟩
  case rest =>
    obtain ⟨g8, rfl, H8⟩ := hcut
    have HS := hide (show ((dk.map u8v).toArray).size = 16 ∧ dk.length = 16 from by rw [← unhide HD]; unfold keyS; exact ⟨by simpa using deriveS_length _ _ _, deriveS_length _ _ _⟩)
    obtain ⟨wc', rfl⟩ : ∃ x : World, x = wc := ⟨_, rfl⟩
    go_wp2_with fail
    refine (rstream_pos dk _ s.size _ (reads_key (unhide H8).1 rfl (unhide HS).2) (by have := (unhide HS).2; omega) (by omega)).mono ?_
    rintro e w9 ⟨A9, c9, rfl, hr9, hE9⟩
    have H9 := hide (And.intro hr9 (((unhide HP).trans (unhide H8).2.1).trans hE9))
    clear hr9 hE9 H8
    have hmk := make_u8 s.size (by omega)
    go_wp2
    clear hmk
    obtain ⟨ap, hap⟩ : ∃ l, applyS key nonce s.data.toList = l := ⟨_, rfl⟩
    obtain ⟨st, hst⟩ : ∃ l, streamS dk (s.size : Int) = l := ⟨_, rfl⟩
    have hstl : st.length = s.size := by rw [← hst, streamS_length]; simp
    have hapl : ap.length = s.size := by rw [← hap, applyS_length]; exact Array.length_toList
    have HAP := hide (show ap = List.zipWith (· ^^^ ·) s.data.toList st from by rw [← hap, ← hst, ← unhide HD]; unfold applyS; rw [Array.length_toList]; rfl)
    have HAE := hide hap
    rw [hst] at H9
    have HL := hide (And.intro hstl hapl)
    clear hap hst hstl hapl
    go_loopw [10] (fun i wr => ∃ k : Nat, k ≤ s.size ∧ i = .int .i64 k ∧ Hid (Blk wr w9.heap.size 5 (bytesTo s.size (ap.take k)) ∧ Ext w9 wr)) (fun i _ => s.size - (intOf i).toNat)
    case atStart => exact ⟨0, Nat.zero_le _, rfl, hide ⟨Blk.new _ _ _, (Ext.refl w9).alloc _⟩⟩
    case round =>
      obtain ⟨k, hk', rfl, HI⟩ := hrel
      by_cases hlt : k < s.size
      · have g1 : decide (k < s.size) = true := decide_eq_true hlt
        have hr := (unhide H9).1.ext (unhide HI).2
        obtain ⟨b, o, c, u, e, -, -, -, -, -⟩ := hr.at1 hlt
        cases e
        have c1 := hr.byteAt (j := k) (by rw [(unhide HL).1]; exact hlt)
        have c2 : wr.cell? ⟨w9.heap.size, k, none⟩ = some (.int .u8 0) := by
          rw [(unhide HI).1.cell]
          exact bytesTo_zero_at (by rw [List.length_take]; omega) hlt
        have f2 := (unhide HI).1.frozen k
        clear hr
        obtain ⟨z, hz⟩ : ∃ z, s[k] ^^^ st.getD k 0 = z := ⟨_, rfl⟩
        have hxx : bits BinOp.xor IntKind.u8 (s[k].toNat : Int) ((st.getD k 0).toNat : Int) = (z.toNat : Int) := by rw [xor8, hz]
        have HT := hide (show ap.take (k + 1) = ap.take k ++ [z] from by
          rw [take_step ap k (by rw [(unhide HL).2]; exact hlt)]
          have : ap[k]'(by rw [(unhide HL).2]; exact hlt) = z := by
            have h1 : ap[k]? = some z := by
              rw [unhide HAP, List.getElem?_zipWith, List.getElem?_eq_getElem (show k < st.length by rw [(unhide HL).1]; exact hlt), Array.getElem?_toList, Array.getElem?_eq_getElem (show k < s.data.size from hlt), ← hz, List.getD_eq_getElem?_getD, List.getElem?_eq_getElem (show k < st.length by rw [(unhide HL).1]; exact hlt)]
              rfl
            rw [List.getElem?_eq_getElem (by rw [(unhide HL).2]; exact hlt)] at h1
            injection h1
          rw [this])
        have HKL := hide (show (ap.take k).length = k from by rw [List.length_take, (unhide HL).2]; omega)
        clear hz
        generalize st.getD k 0 = y at *
        have p1 : (0 : Int) ≤ (k : Int) := by omega
        have p2 : (k : Int) < (s.size : Int) := by omega
        go_upto_region 7 with fail
        go_still_tail 11, (by kernel_rfl)
        clear c1
        change wpList _ _ _ _ _ wr.drew
        go_wp2
        go_roundw
        case rel =>
          have h1 := ((unhide HI).1.set_ k (.int .u8 (z.toNat : Int))).drew
          rw [bytesTo_set _ (unhide HKL) hlt, ← unhide HT] at h1
          exact ⟨k + 1, by omega, by go_num, hide ⟨h1, ((unhide HI).2.setCell (by simp) _).drew⟩⟩
        case measure => simp [intOf]; omega
      · obtain rfl : k = s.size := by omega
        have g1 : decide (s.size < s.size) = false := decide_eq_false (by omega)
        have HRD := hide (show Reads wr 1 (.slice (some ⟨w9.heap.size, 0, none⟩) s.size s.size) s.size (ap.map byteV) from by
          have h1 := (unhide HI).1
          rw [List.take_of_length_le (by rw [(unhide HL).2]; omega), bytesTo_all (unhide HL).2] at h1
          have := Reads.of_blk h1 (i := 0) (n := s.size) (c := s.size) (by simp [(unhide HL).2]) (by omega) (by unfold maxLen; omega)
          simp only [List.drop_zero] at this
          rw [List.take_of_length_le (by rw [List.length_map, (unhide HL).2]; omega)] at this
          exact this)
        go_wp2_with (refine wpList_strOf (src := 29) (dst := 9) (x := .tmp 40) (l := ap) rfl rfl Tryd.underlying29 Tryd.underlying5 Tryd.underlying9 rfl (unhide HRD) ?_)
        go_ret
        exact ⟨by rw [unhide HAE]; rfl, (unhide H9).2.trans (unhide HI).2⟩

end Go.Proofs.YtgndblhpfjkfhaaDoor

/-
  The reference's Seal and Open.
-/
namespace Go.Proofs.YtgndblhpfjkfhaaDoor
open Go.RowKit

set_option maxRecDepth 100000 in
set_option maxHeartbeats 2000000 in
theorem rseal_any (key : List UInt8) (nonce : Int) (s : ByteArray) (w : World) (hk : key.length = 16) (h1 : -9223372036854775808 ≤ nonce) (h2 : nonce < 9223372036854775808) (hs : s.size ≤ 10000) :
    Calls Tryd.prog 57 #[.agg (key.map u8v).toArray, .int .i64 nonce, .string s] w fun e w' => e = .returned (.agg (boxV nonce (strOf (applyS key nonce s.data.toList)) (tagS key nonce (applyS key nonce s.data.toList)))) ∧ Ext w w' := by
  obtain ⟨arr, harr⟩ : ∃ r, (key.map u8v).toArray = r := ⟨_, rfl⟩
  have HAp := hide (fun W => rapply_any key nonce s W hk h1 h2 (by omega))
  rw [harr] at HAp ⊢
  have hasz : arr.size = 16 := by rw [← harr]; simpa using hk
  have h1c : arr.all (·.oneCell') = true := by rw [← harr]; exact bytes_one _
  have HA := hide harr
  clear harr
  go_enter Tryd.func57, Tryd.ntmps57
  obtain ⟨cs, hcs⟩ : ∃ c, strOf (applyS key nonce s.data.toList) = c := ⟨_, rfl⟩
  have hcl : cs.data.toList = applyS key nonce s.data.toList := by rw [← hcs]; exact strOf_list _
  have hcz : cs.size ≤ 100000 := by have h : cs.data.toList.length = s.data.toList.length := by rw [hcl, applyS_length]
                                    rw [Array.length_toList, Array.length_toList] at h
                                    have h2 : cs.size = s.size := h
                                    omega
  have HTg := hide (fun W => rtag_any key nonce cs W hk h1 h2 hcz)
  rw [unhide HA, hcl] at HTg
  rw [hcs] at HAp ⊢
  have HTL := hide (tagS_length key nonce (applyS key nonce s.data.toList))
  generalize tagS key nonce (applyS key nonce s.data.toList) = tg at *
  clear hcs hcl
  obtain ⟨t0, t1, t2, t3, t4, t5, t6, t7, t8, t9, t10, t11, t12, t13, t14, t15, rfl⟩ := list16 (unhide HTL)
  go_wp2_with (first
    | (refine wpList_loadB (x := .tmp 3) rfl rfl digest_wide rfl (cs := arr) (g := w.heap.size) (by first | exact (Blk.new w _ _).alloc _ | assumption) hasz ?_)
    | (go_at_call 98; refine (unhide HAp _).mono ?_; rintro e w1 ⟨rfl, hE1⟩
       have hba : Blk w1 w.heap.size 23 arr := ((Blk.new w _ _).alloc _).ext hE1
       have hbb := (Blk.new' (g := w.heap.size + 1) (w.alloc (.cells arr 23)) _ _ (by simp)).ext hE1
       have H1 := hide (show Ext w w1 ∧ Blk w1 (w.heap.size + 1) 27 (#[.int .i64 0, .string { data := #[] }] ++ Array.replicate 16 (.int .u8 0)) from And.intro ((((Ext.refl w).alloc _).alloc _).trans hE1) hbb); clear hE1 hbb)
    | (go_at_call 99; refine (unhide HTg _).mono ?_; rintro e w2 ⟨rfl, hE2⟩; have H2 := hide (And.intro ((unhide H1).1.trans hE2) ((unhide H1).2.ext hE2)); clear hE2)
    | (refine wpList_storeB (ty := 27) (t := 27) (x := .tmp 6) (y := .tmp 18) rfl rfl box_wide rfl rfl (unhide H2).2 (by simp) rfl (by rw [← Array.all_toList]; rfl) ?_; intro w3 hb3 hc3 hz3; have H3 := hide (And.intro hb3 hc3); clear hb3 hc3 hz3))
  refine bodyPost_ret (results_blk box_wide rfl (unhide H3).1 rfl rfl) rfl ⟨rfl, ?_⟩
  exact (unhide H2).1.trans' (unhide H3).2 (fun _ _ h => h) (fun i hi e => by omega)


set_option maxRecDepth 100000 in
set_option maxHeartbeats 2000000 in
theorem ropen_no (key : List UInt8) (nonce : Int) (c : ByteArray) (t : List UInt8) (w : World) (hk : key.length = 16) (ht : t.length = 16) (h1 : -9223372036854775808 ≤ nonce) (h2 : nonce < 9223372036854775808) (hs : c.size ≤ 10000)
    (hno : ¬ tagS key nonce c.data.toList = t) :
    Calls Tryd.prog 61 #[.agg (key.map u8v).toArray, .agg (boxV nonce c t)] w fun e w' => e = .returned (.tuple #[.string { data := #[] }, .int .i64 8]) ∧ Ext w w' := by
  obtain ⟨arr, harr⟩ : ∃ r, (key.map u8v).toArray = r := ⟨_, rfl⟩
  have HAp := hide (fun W => rapply_any key nonce c W hk h1 h2 hs)
  have HTg := hide (fun W => rtag_any key nonce c W hk h1 h2 (by omega))
  rw [harr] at HAp HTg ⊢
  have hasz : arr.size = 16 := by rw [← harr]; simpa using hk
  have hne := fun W => ne16 (tagS_length key nonce c.data.toList) ht W
  rw [decide_eq_false hno] at hne
  obtain ⟨tv, htv⟩ : ∃ l, t.map u8v = l := ⟨_, rfl⟩
  have HTL := hide (show tv.length = 16 from by rw [← htv]; simpa using ht)
  rw [boxV_eq, htv]
  obtain ⟨tg, htg⟩ : ∃ l, ((tagS key nonce c.data.toList).map u8v).toArray = l := ⟨_, rfl⟩
  have HTG := hide (show tg.size = 16 ∧ tg.all (·.oneCell') = true from by rw [← htg]; exact ⟨by simpa using tagS_length _ _ _, bytes_one _⟩)
  rw [htg] at HTg
  rw [htg, htv] at hne
  have HQ := hide (show Blk ((w.alloc (.cells arr 23)).alloc (.cells (boxL nonce c tv) 27)) w.heap.size 23 arr ∧
      Blk ((w.alloc (.cells arr 23)).alloc (.cells (boxL nonce c tv) 27)) (w.heap.size + 1) 27 (boxL nonce c tv) from ⟨(Blk.new w _ _).alloc _, Blk.new' _ _ _ (by simp)⟩)
  have c1 : ((w.alloc (.cells arr 23)).alloc (.cells (boxL nonce c tv) 27)).cell? ⟨w.heap.size + 1, 0, none⟩ = some (.int .i64 nonce) := by rw [(unhide HQ).2.cell]; rfl
  have c2 : ((w.alloc (.cells arr 23)).alloc (.cells (boxL nonce c tv) 27)).cell? ⟨w.heap.size + 1, 1, none⟩ = some (.string c) := by rw [(unhide HQ).2.cell]; rfl
  have HP := hide (((Ext.refl w).alloc (.cells arr 23)).alloc (.cells (boxL nonce c tv) 27))
  clear harr htv htg
  go_enter Tryd.func61, Tryd.ntmps61
  go_upto_region 1 with fail
  generalize (w.alloc (.cells arr 23)).alloc (.cells (boxL nonce c tv) 27) = W0 at *
  go_upto_region 2 with (first
    | (refine wpList_loadB (x := .tmp 2) rfl rfl digest_wide rfl (cs := arr) (unhide HQ).1 hasz ?_)
    | (go_at_call 99; refine (unhide HTg _).mono ?_; rintro e w1 ⟨rfl, hE1⟩; have H1 := hide (And.intro ((unhide HP).trans hE1) (And.intro ((unhide HQ).1.ext hE1) ((unhide HQ).2.ext hE1))); clear hE1)
    | (refine wpList_storeB (ty := 23) (t := 23) (x := .tmp 6) (y := .tmp 12) rfl rfl digest_wide rfl rfl (Blk.new w1 _ _) rfl (unhide HTG).1 (unhide HTG).2 ?_; intro w2 hb2 hc2 hz2; have H2 := hide (And.intro (made_ext (unhide H1).1 hc2) (And.intro ((unhide H1).2.1.ext (made_ext1 hc2)) (And.intro ((unhide H1).2.2.ext (made_ext1 hc2)) hb2))); clear hb2 hc2 hz2))
  clear c1 c2
  have c1 : w2.cell? ⟨w.heap.size + 1, 0, none⟩ = some (.int .i64 nonce) := by rw [(unhide H2).2.2.1.cell]; rfl
  have c2 : w2.cell? ⟨w.heap.size + 1, 1, none⟩ = some (.string c) := by rw [(unhide H2).2.2.1.cell]; rfl
  go_wp2_with (first
    | (refine wpList_loadB (x := .tmp 2) rfl rfl digest_wide rfl (cs := arr) (unhide H2).2.1 hasz ?_)
    | (refine wpList_loadB (x := .tmp 6) rfl rfl digest_wide rfl (cs := tg) (unhide H2).2.2.2 (unhide HTG).1 ?_)
    | (refine wpList_loadMG (x := .tmp 14) (by rfl) rfl digest_wide rfl (boxL_range (unhide H2).2.2.1) (unhide HTL) ?_)
    | (go_at_call 98; refine (unhide HAp _).mono ?_; rintro e w6 ⟨rfl, hE6⟩; have H6 := hide ((unhide H2).1.trans hE6); clear hE6))
  go_ret2
  exact ⟨rfl, (unhide H2).1⟩

set_option maxRecDepth 100000 in
set_option maxHeartbeats 2000000 in
theorem ropen_yes (key : List UInt8) (nonce : Int) (c : ByteArray) (t : List UInt8) (w : World) (hk : key.length = 16) (ht : t.length = 16) (h1 : -9223372036854775808 ≤ nonce) (h2 : nonce < 9223372036854775808) (hs : c.size ≤ 10000)
    (hyes : tagS key nonce c.data.toList = t) :
    Calls Tryd.prog 61 #[.agg (key.map u8v).toArray, .agg (boxV nonce c t)] w fun e w' => e = .returned (.tuple #[.string (strOf (applyS key nonce c.data.toList)), .int .i64 0]) ∧ Ext w w' := by
  obtain ⟨arr, harr⟩ : ∃ r, (key.map u8v).toArray = r := ⟨_, rfl⟩
  have HAp := hide (fun W => rapply_any key nonce c W hk h1 h2 hs)
  have HTg := hide (fun W => rtag_any key nonce c W hk h1 h2 (by omega))
  rw [harr] at HAp HTg ⊢
  have hasz : arr.size = 16 := by rw [← harr]; simpa using hk
  have hne := fun W => ne16 (tagS_length key nonce c.data.toList) ht W
  rw [decide_eq_true hyes] at hne
  obtain ⟨tv, htv⟩ : ∃ l, t.map u8v = l := ⟨_, rfl⟩
  have HTL := hide (show tv.length = 16 from by rw [← htv]; simpa using ht)
  rw [boxV_eq, htv]
  obtain ⟨tg, htg⟩ : ∃ l, ((tagS key nonce c.data.toList).map u8v).toArray = l := ⟨_, rfl⟩
  have HTG := hide (show tg.size = 16 ∧ tg.all (·.oneCell') = true from by rw [← htg]; exact ⟨by simpa using tagS_length _ _ _, bytes_one _⟩)
  rw [htg] at HTg
  rw [htg, htv] at hne
  have HQ := hide (show Blk ((w.alloc (.cells arr 23)).alloc (.cells (boxL nonce c tv) 27)) w.heap.size 23 arr ∧
      Blk ((w.alloc (.cells arr 23)).alloc (.cells (boxL nonce c tv) 27)) (w.heap.size + 1) 27 (boxL nonce c tv) from ⟨(Blk.new w _ _).alloc _, Blk.new' _ _ _ (by simp)⟩)
  have c1 : ((w.alloc (.cells arr 23)).alloc (.cells (boxL nonce c tv) 27)).cell? ⟨w.heap.size + 1, 0, none⟩ = some (.int .i64 nonce) := by rw [(unhide HQ).2.cell]; rfl
  have c2 : ((w.alloc (.cells arr 23)).alloc (.cells (boxL nonce c tv) 27)).cell? ⟨w.heap.size + 1, 1, none⟩ = some (.string c) := by rw [(unhide HQ).2.cell]; rfl
  have HP := hide (((Ext.refl w).alloc (.cells arr 23)).alloc (.cells (boxL nonce c tv) 27))
  clear harr htv htg
  go_enter Tryd.func61, Tryd.ntmps61
  go_upto_region 1 with fail
  generalize (w.alloc (.cells arr 23)).alloc (.cells (boxL nonce c tv) 27) = W0 at *
  go_upto_region 2 with (first
    | (refine wpList_loadB (x := .tmp 2) rfl rfl digest_wide rfl (cs := arr) (unhide HQ).1 hasz ?_)
    | (go_at_call 99; refine (unhide HTg _).mono ?_; rintro e w1 ⟨rfl, hE1⟩; have H1 := hide (And.intro ((unhide HP).trans hE1) (And.intro ((unhide HQ).1.ext hE1) ((unhide HQ).2.ext hE1))); clear hE1)
    | (refine wpList_storeB (ty := 23) (t := 23) (x := .tmp 6) (y := .tmp 12) rfl rfl digest_wide rfl rfl (Blk.new w1 _ _) rfl (unhide HTG).1 (unhide HTG).2 ?_; intro w2 hb2 hc2 hz2; have H2 := hide (And.intro (made_ext (unhide H1).1 hc2) (And.intro ((unhide H1).2.1.ext (made_ext1 hc2)) (And.intro ((unhide H1).2.2.ext (made_ext1 hc2)) hb2))); clear hb2 hc2 hz2))
  clear c1 c2
  have c1 : w2.cell? ⟨w.heap.size + 1, 0, none⟩ = some (.int .i64 nonce) := by rw [(unhide H2).2.2.1.cell]; rfl
  have c2 : w2.cell? ⟨w.heap.size + 1, 1, none⟩ = some (.string c) := by rw [(unhide H2).2.2.1.cell]; rfl
  go_wp2_with (first
    | (refine wpList_loadB (x := .tmp 2) rfl rfl digest_wide rfl (cs := arr) (unhide H2).2.1 hasz ?_)
    | (refine wpList_loadB (x := .tmp 6) rfl rfl digest_wide rfl (cs := tg) (unhide H2).2.2.2 (unhide HTG).1 ?_)
    | (refine wpList_loadMG (x := .tmp 14) (by rfl) rfl digest_wide rfl (boxL_range (unhide H2).2.2.1) (unhide HTL) ?_)
    | (go_at_call 98; refine (unhide HAp _).mono ?_; rintro e w6 ⟨rfl, hE6⟩; have H6 := hide ((unhide H2).1.trans hE6); clear hE6))
  go_ret2
  exact ⟨rfl, unhide H6⟩

set_option maxRecDepth 100000 in
theorem eq_in (l : List UInt8) (hl : l.length = 16) (w : World) : (Op.equalIn 9999 23 (.agg (l.map byteV).toArray) (.agg (l.map byteV).toArray)).run Tryd.prog w = .ok true w := by
  obtain ⟨inf, hi⟩ : ∃ inf, Tryd.prog.info? 5 = some inf := ⟨_, rfl⟩
  have h := run_equalIn_array (P := Tryd.prog) w 9998 (l.map byteV).toArray (l.map byteV).toArray Tryd.underlying23 hi
  rw [u8_one, run_eqItems_u8 Tryd.underlying5 u8_plain 9997 l l w _ (fun i hm => by rw [List.mem_range] at hm; omega), all_eq l l 16 hl hl] at h
  simpa using h
theorem box_eql (n : Int) (c : ByteArray) (l : List UInt8) (hl : l.length = 16) : ∀ W, (binOp .eql 27 (.agg (boxL n c (l.map u8v))) (.agg (boxL n c (l.map u8v)))).run Tryd.prog W = .ok (.bool true) W := by
  have hin := fun W => eq_in l hl W
  obtain ⟨t0, t1, t2, t3, t4, t5, t6, t7, t8, t9, t10, t11, t12, t13, t14, t15, rfl⟩ := list16 hl
  intro W
  simp only [boxL, List.map_cons, List.map_nil, u8v]
  simp only [List.map_cons, List.map_nil, byteV] at hin
  go_simp

end Go.Proofs.YtgndblhpfjkfhaaDoor

/-
  Slices of digests: cells, elements, appending.
-/
namespace Go.Proofs.YtgndblhpfjkfhaaDoor
open Go.RowKit

/-- The cells of a list of digests. -/
def dcells (ds : List (List UInt8)) : List Value := ds.flatMap fun d => d.map u8v
def D16 (ds : List (List UInt8)) : Prop := ∀ d ∈ ds, d.length = 16
theorem D16.cons {d : List UInt8} {ds : List (List UInt8)} (h : D16 (d :: ds)) : d.length = 16 ∧ D16 ds := ⟨h d List.mem_cons_self, fun x hx => h x (List.mem_cons_of_mem _ hx)⟩
theorem D16.nil : D16 [] := fun d h => by cases h
theorem D16.append {a b : List (List UInt8)} (h : D16 a) (k : D16 b) : D16 (a ++ b) := fun d hd => (List.mem_append.1 hd).elim (h d) (k d)
theorem D16.one {d : List UInt8} (h : d.length = 16) : D16 [d] := fun x hx => by simp at hx; subst hx; exact h
theorem D16.get {ds : List (List UInt8)} (h : D16 ds) {k : Nat} (hk : k < ds.length) : ds[k].length = 16 := h _ (List.getElem_mem hk)
theorem dcells_append (a b : List (List UInt8)) : dcells (a ++ b) = dcells a ++ dcells b := List.flatMap_append
theorem dcells_one (d : List UInt8) : dcells [d] = d.map u8v := by unfold dcells; simp
theorem dcells_length : ∀ {ds : List (List UInt8)}, D16 ds → (dcells ds).length = ds.length * 16
  | [], _ => rfl
  | d :: ds, h => by
    have := dcells_length h.cons.2
    unfold dcells at this ⊢
    rw [List.flatMap_cons, List.length_append, this, List.length_map, h.cons.1, List.length_cons]
    omega
theorem dcells_at : ∀ {ds : List (List UInt8)}, D16 ds → ∀ (k : Nat) (hk : k < ds.length) (j : Nat), j < 16 → (dcells ds)[k * 16 + j]? = (ds[k].map u8v)[j]?
  | [], _, k, hk, _, _ => by simp at hk
  | d :: ds, h, 0, _, j, hj => by
    unfold dcells
    rw [List.flatMap_cons, List.getElem?_append_left (by rw [List.length_map, h.cons.1]; omega)]
    simp
  | d :: ds, h, k + 1, hk, j, hj => by
    have := dcells_at h.cons.2 k (by simpa using hk) j hj
    unfold dcells at this ⊢
    rw [List.flatMap_cons, List.getElem?_append_right (by rw [List.length_map, h.cons.1]; omega), List.length_map, h.cons.1, show (k + 1) * 16 + j - 16 = k * 16 + j from by omega, this]
    rfl
theorem dcells_one' : ∀ {ds : List (List UInt8)}, AllOne (dcells ds)
  | [] => fun v h => by cases h
  | d :: ds => fun v h => by
    unfold dcells at h
    rw [List.flatMap_cons, List.mem_append] at h
    rcases h with h | h
    · exact AllOne.u8 d v h
    · exact dcells_one' (ds := ds) v h

/-- The slice value reads as a list of digests. -/
def Digs (w : World) (v : Value) (ds : List (List UInt8)) : Prop := D16 ds ∧ Reads w 16 v ds.length (dcells ds)
section
variable {w w' : World} {v : Value} {ds : List (List UInt8)}
theorem Digs.ext (h : Digs w v ds) (hE : Ext w w') : Digs w' v ds := ⟨h.1, h.2.ext hE⟩
theorem Digs.nil (w : World) : Digs w (.slice none 0 0) [] := ⟨D16.nil, Reads.nil w 16⟩
theorem Digs.form (h : Digs w v ds) : ∃ A c, v = .slice A ds.length c ∧ ds.length ≤ c ∧ c ≤ maxLen := by
  obtain ⟨_, _, A, c, h, h1, h2, _⟩ := h
  exact ⟨A, c, h, h1, h2⟩
theorem Digs.at (h : Digs w v ds) {k : Nat} (hk : k < ds.length) : ∃ b o c, v = .slice (some ⟨b, o, none⟩) ds.length c ∧ ds.length ≤ c ∧ c ≤ maxLen ∧ b < w.heap.size ∧ w.rangeAt b (o + k * 16) (ds[k].map u8v) := by
  obtain ⟨hd, hl, A, c, rfl, h1, h2, h3⟩ := h
  obtain ⟨b, o, rfl, hc⟩ := h3 (by omega)
  have hlk := hd.get hk
  refine ⟨b, o, c, rfl, h1, h2, ?_, fun j u hu => ?_⟩
  · have e := dcells_at hd k hk 0 (by omega)
    have e2 : (ds[k].map u8v)[0]? = some (u8v (ds[k][0]'(by omega))) := by rw [List.getElem?_map, List.getElem?_eq_getElem (show 0 < ds[k].length by omega)]; rfl
    exact lt_of_cell (hc _ _ (e.trans e2))
  · have hj : j < 16 := by
      rcases Nat.lt_or_ge j 16 with h | h
      · exact h
      · rw [List.getElem?_eq_none (by rw [List.length_map]; omega)] at hu; cases hu
    rw [Nat.add_assoc]
    exact hc _ _ ((dcells_at hd k hk j hj).trans hu)
/-- A part of the list. -/
theorem Digs.sub (h : Digs w v ds) (i m c' : Nat) (hi : i + m ≤ ds.length) (hm : 0 < m) (hc1 : m ≤ c') (hc2 : c' ≤ maxLen) :
    ∃ b o c, v = .slice (some ⟨b, o, none⟩) ds.length c ∧ Digs w (.slice (some ⟨b, o + i * 16, none⟩) m c') ((ds.drop i).take m) := by
  obtain ⟨b, o, c, rfl, h1, h2, hb, _⟩ := h.at (k := i) (by omega)
  obtain ⟨hd, hl, A, c2, e, _, _, h3⟩ := h
  cases e
  obtain ⟨b', o', e, hc⟩ := h3 (by omega)
  cases e
  have hd' : D16 ((ds.drop i).take m) := fun d hx => hd d (List.mem_of_mem_drop (List.mem_of_mem_take hx))
  have hlen : ((ds.drop i).take m).length = m := by simp; omega
  refine ⟨b, o, c, rfl, hd', ?_⟩
  rw [hlen]
  refine ⟨by rw [dcells_length hd', hlen], _, c', rfl, hc1, hc2, fun _ => ⟨b, o + i * 16, rfl, fun j u hu => ?_⟩⟩
  have hj : j < m * 16 := by
    rcases Nat.lt_or_ge j (m * 16) with h | h
    · exact h
    · rw [List.getElem?_eq_none (by rw [dcells_length hd', hlen]; omega)] at hu; cases hu
  have e1 := dcells_at hd' (j / 16) (by rw [hlen]; omega) (j % 16) (by omega)
  have e2 := dcells_at hd (i + j / 16) (by omega) (j % 16) (by omega)
  rw [show j / 16 * 16 + j % 16 = j from by omega, hu] at e1
  have e3 : ((ds.drop i).take m)[j / 16]'(by rw [hlen]; omega) = ds[i + j / 16]'(by omega) := by simp
  rw [e3, ← e2] at e1
  have := hc _ _ e1.symm
  rw [show (o + i * 16 + j) = o + ((i + j / 16) * 16 + j % 16) from by omega]
  exact this
end
theorem digs_row : SlTy Tryd.prog 38 23 16 16 := SlTy.mk' (z := .agg (Array.replicate 16 (.int .u8 0))) (by kernel_rfl) (by kernel_rfl) rfl (by omega) (by omega)
theorem fold_set : ∀ (l : List Value) (pre old : List Value), old.length = l.length → (l.zipIdx pre.length).foldl (fun (acc : Array Value) x => acc.setIfInBounds (0 + x.2) x.1) (pre ++ old).toArray = (pre ++ l).toArray
  | [], pre, old, h => by cases old with | nil => rfl | cons => simp at h
  | v :: l, pre, old, h => by
    cases old with
    | nil => simp at h
    | cons x old =>
      rw [List.zipIdx_cons, List.foldl_cons]
      have e : (pre ++ x :: old).toArray.setIfInBounds (0 + pre.length) v = ((pre ++ [v]) ++ old).toArray := by simp
      have := fold_set l (pre ++ [v]) old (by simpa using h)
      simp only [List.length_append, List.length_cons, List.length_nil, Nat.zero_add, List.append_assoc, List.singleton_append] at this e ⊢
      rw [e]
      exact this
theorem fill_one (old cs : Array Value) (n : Nat) (ho : old.size = n) (hc : cs.size = n) : Instr.fill (fun i => some (i * n, n)) old [(0, .agg cs)] = some cs := by
  unfold Instr.fill
  simp only [Nat.zero_mul]
  have h1 : (Value.agg cs).cells = cs := rfl
  rw [h1, if_neg (by simp; omega)]
  unfold Instr.fill
  have := fold_set cs.toList [] old.toList (by simp; omega)
  simp only [List.length_nil, List.nil_append, Array.toArray_toList] at this
  rw [← Array.foldl_toList, Array.toList_zipIdx]
  exact congrArg some this
section
variable {P : Program}
theorem wp_build1 {o : Oper} {a : Act} {w : World} {K : Act → World → Prop} {Q : Exit → Act → World → Prop} {t e : TypeId} {size bytes : Nat} (T : SlTy P t e size bytes) (hsz : size ≤ 1000) {x : Operand} (ho : o.op = .buildSlice t 1 #[(0, x)]) {cs : Array Value} (hx : a.eval x = .agg cs) (hn : cs.size = size)
    (h : K (a.put o.dst (.slice (some ⟨w.heap.size, 0, none⟩) 1 1)) (w.alloc (.cells cs e))) : o.wp P a w K Q := by
  obtain ⟨ht, ⟨i, z, hi, hz, hsize, _, hzs⟩, h0, _⟩ := T
  refine wp_buildSlice t e 1 #[(0, x)] ho cs i z ht hi hz (by rw [hsize]; omega) (by rw [hsize]; omega) ?_ h
  rw [hsize]
  have := fill_one ((Array.range (1 * size)).map (z.cells[· % z.cells.size]!)) cs size (by simp) hn
  simpa [hx] using this
theorem wpList_build1 {ops : Array Oper} {rest : List Oper} {o : Oper} {a : Act} {w : World} {Q : Exit → Act → World → Prop} (hgd : o.guard = none) {t e : TypeId} {size bytes : Nat} (T : SlTy P t e size bytes) (hsz : size ≤ 1000) {x : Operand} (ho : o.op = .buildSlice t 1 #[(0, x)]) {cs : Array Value} (hx : a.eval x = .agg cs) (hn : cs.size = size)
    (h : wpList P ops Q rest (a.put o.dst (.slice (some ⟨w.heap.size, 0, none⟩) 1 1)) (w.alloc (.cells cs e))) : wpList P ops Q (o :: rest) a w :=
  wpList_plain hgd fun _ hK => wp_build1 T hsz ho hx hn (hK _ _ h)
end
/-- A new block of one digest. -/
theorem Reads.newD (w : World) (e : TypeId) (d : List UInt8) (h : d.length = 16) {g : Nat} (hg : g = w.heap.size) : Reads (w.alloc (.cells (d.map u8v).toArray e)) 16 (.slice (some ⟨g, 0, none⟩) 1 1) 1 (d.map u8v) := by
  subst hg
  refine ⟨by rw [List.length_map, h], _, 1, rfl, Nat.le_refl _, by unfold maxLen; omega, fun _ => ⟨_, 0, rfl, fun j u hu => ?_⟩⟩
  rw [Nat.zero_add, (Blk.new w e _).cell]
  simpa using hu
/-- A slice of digests of the call's own, that grows. -/
structure GD (w0 : World) (B : Nat) (v : Value) (n : Nat) (ds : List (List UInt8)) (wr : World) : Prop where
  own : wr.ownsRow B 23 16 v n (dcells ds)
  all : D16 ds
  ext : Ext w0 wr
  base : w0.heap.size ≤ B
  room : B ≤ wr.heap.size
theorem GD.nil {w0 wr : World} {B : Nat} (hE : Ext w0 wr) (hB : w0.heap.size ≤ B) (hR : B ≤ wr.heap.size) : GD w0 B (.slice none 0 0) 0 [] wr := ⟨World.ownsRow_nil _ _ _ _, D16.nil, hE, hB, hR⟩
theorem GD.len {w0 wr : World} {B n : Nat} {v : Value} {ds : List (List UInt8)} (h : GD w0 B v n ds wr) : ds.length = n := by have := h.own.1; rw [dcells_length h.all] at this; omega
theorem GD.to {w0 wr w1 : World} {B n : Nat} {v : Value} {ds : List (List UInt8)} (h : GD w0 B v n ds wr) (hE : Ext wr w1) : GD w0 B v n ds w1 := ⟨ownsRow_ext h.own hE, h.all, h.ext.trans hE, h.base, Nat.le_trans h.room hE.size'⟩
theorem GD.step {w0 wr w1 w2 : World} {B n n' : Nat} {v v' : Value} {ds : List (List UInt8)} {d : List UInt8} (hd : d.length = 16) (h : GD w0 B v n ds wr) (hE : Ext wr w1) (hc : Chg (fun k => v.ownBlock = some k) w1 w2) (ho : w2.ownsRow B 23 16 v' n' (dcells ds ++ d.map u8v)) : GD w0 B v' n' (ds ++ [d]) w2 :=
  ⟨by rw [dcells_append, dcells_one]; exact ho, h.all.append (D16.one hd), (h.ext.trans hE).trans' hc (fun _ _ h => h) (fun i hi e => by have := (h.own.lt i e).1; have := h.base; omega), h.base, Nat.le_trans h.room (Nat.le_trans hE.size' hc.size)⟩
theorem GD.digs {w0 wr : World} {B n : Nat} {v : Value} {ds : List (List UInt8)} (h : GD w0 B v n ds wr) : Digs wr v ds := ⟨h.all, by have := Reads.of_own h.own; rwa [← h.len] at this⟩
theorem GD.form {w0 wr : World} {B n : Nat} {v : Value} {ds : List (List UInt8)} (h : GD w0 B v n ds wr) : ∃ A c, v = .slice A n c := own_slice h.own

end Go.Proofs.YtgndblhpfjkfhaaDoor

/-
  Slices of slices, of digests; blocks of digests: small laws.
-/
namespace Go.Proofs.YtgndblhpfjkfhaaDoor
open Go.RowKit

theorem Parts.two {w : World} {pv a b : Value} {la lb : List UInt8} (h : Reads w 1 pv 2 [a, b]) (ha : Reads w 1 a la.length (la.map u8v)) (hb : Reads w 1 b lb.length (lb.map u8v)) : Parts w pv [la, lb] :=
  ⟨[a, b], rfl, h, fun i p hp => by
    match i, hp with
    | 0, hp => cases hp; exact ⟨_, rfl, ha⟩
    | 1, hp => cases hp; exact ⟨_, rfl, hb⟩
    | i + 2, hp => simp at hp⟩
theorem Parts.one {w : World} {pv a : Value} {la : List UInt8} (h : Reads w 1 pv 1 [a]) (ha : Reads w 1 a la.length (la.map u8v)) : Parts w pv [la] :=
  ⟨[a], rfl, h, fun i p hp => by
    match i, hp with
    | 0, hp => cases hp; exact ⟨_, rfl, ha⟩
    | i + 1, hp => simp at hp⟩
/-- The slice of a whole digest's block. -/
theorem Blk.digR {w : World} {g : Nat} {t : TypeId} {d : List UInt8} (h : Blk w g t (d.map u8v).toArray) (hd : d.length = 16) : Reads w 1 (.slice (some ⟨g, 0, none⟩) 16 16) d.length (d.map u8v) := by
  have := Reads.of_blk h (i := 0) (n := 16) (c := 16) (by simp; omega) (by omega) (by unfold maxLen; omega)
  simp only [List.drop_zero] at this
  rw [List.take_of_length_le (by simp; omega)] at this
  rw [hd]
  exact this
theorem Reads.new2 (w : World) (a b : Value) (e : TypeId) {g : Nat} (hg : g = w.heap.size) : Reads (w.alloc (.cells #[a, b] e)) 1 (.slice (some ⟨g, 0, none⟩) 2 2) 2 [a, b] := by
  subst hg
  exact Reads.of_blk (Blk.new w e #[a, b]) (i := 0) (n := 2) (c := 2) (by simp) (by omega) (by unfold maxLen; omega)

theorem ShaMem.lt {w : World} (h : ShaMem w) : 1 < w.heap.size ∧ 0 < w.heap.size := ⟨lt_of_cell (h.k 0 _ rfl), lt_of_cell (h.h 0 _ rfl)⟩
theorem ShaMem.past {w0 w w' : World} {B : Nat} (h0 : ShaMem w0) (hB : w0.heap.size ≤ B) (h : ShaMem w) (hc : Chg (fun k => B ≤ k) w w') : ShaMem w' := h.chg hc (by have := h0.lt; omega) (by have := h0.lt; omega)
theorem mkfun (fn : Fn) (first cap : Array Value) (w : World) : (Instr.makeFunc fn first cap).run Tryd.prog w = .ok (.func fn first cap) w := rfl
theorem Digs.chg {S : Nat → Prop} {w w' : World} {v : Value} {ds : List (List UInt8)} (h : Digs w v ds) (hc : Chg S w w') (hS : ∀ k, v.ownBlock = some k → ¬ S k) : Digs w' v ds := ⟨h.1, h.2.chg hc (fun k _ hk => hS k hk)⟩
theorem ownsRow_base {w : World} {B B' : Nat} {e : TypeId} {size : Nat} {v : Value} {n : Nat} {xs : List Value} (h : w.ownsRow B e size v n xs) (hb : B' ≤ B) : w.ownsRow B' e size v n xs := by
  refine ⟨h.1, ?_⟩
  rcases h.2 with h | ⟨g, cap, cur, h1, h2, h3⟩
  · exact .inl h
  · exact .inr ⟨g, cap, cur, h1, Nat.le_trans hb h2, h3⟩
/-- Two results, the first in a block of its own. -/
theorem results_two {P : Program} {fn : Func} {i j : Tmp} {T : TypeId} {n : Nat} (W : Wide P T n) (hf : fn.results = #[.cell i T, .tmp j]) {tmps : Array Value} {w : World} {b : Nat} {t : TypeId} {cs : Array Value} (hB : Blk w b t cs) (hn : cs.size = n) (ei : tmps.getD i undef = .pointer (some ⟨b, 0, none⟩)) {v : Value} (ej : tmps.getD j undef = v) :
    (results fn tmps).run P w = .ok (.tuple #[.agg cs, v]) w := by
  have h1 := loadVar_blk hB W hn
  subst ej
  simp only [Array.getD_eq_getD_getElem?] at ei
  simp [results, hf, ei, asAddr, h1]
theorem Digs.own_lt {w : World} {v : Value} {ds : List (List UInt8)} (h : Digs w v ds) (hn : 0 < ds.length) : ∀ k, v.ownBlock = some k → k < w.heap.size := h.2.own_lt (by omega) hn
theorem Reads.new1' (w : World) (u : Value) (e : TypeId) {g : Nat} (hg : g = w.heap.size) : Reads (w.alloc (.cells #[u] e)) 1 (.slice (some ⟨g, 0, none⟩) 1 1) 1 [u] := by subst hg; exact Reads.new1 w u e

end Go.Proofs.YtgndblhpfjkfhaaDoor

/-
  Merkle trees as plain functions of lists of digests, proofs and what they keep: no program in sight.
-/
namespace Go.Proofs.YtgndblhpfjkfhaaDoor

/-- The largest power of two below n, from k on. -/
def splitF : Nat → Nat → Nat → Nat
  | 0, k, _ => k
  | f + 1, k, n => if k < n - k then splitF f (2 * k) n else k
def splitS (n : Nat) : Nat := splitF n 1 n
theorem splitF_bounds : ∀ (f k n : Nat), 0 < k → k < n → 0 < splitF f k n ∧ splitF f k n < n
  | 0, k, n, h1, h2 => ⟨h1, h2⟩
  | f + 1, k, n, h1, h2 => by
    rw [splitF]
    split
    · exact splitF_bounds f (2 * k) n (by omega) (by omega)
    · exact ⟨h1, h2⟩
theorem splitS_bounds (n : Nat) (h : 1 < n) : 0 < splitS n ∧ splitS n < n := splitF_bounds n 1 n (by omega) h
def leafS (d : List UInt8) : List UInt8 := digestS 1 [d]
def nodeS (l r : List UInt8) : List UInt8 := digestS 2 [l, r]
theorem leafS_length (d : List UInt8) : (leafS d).length = 16 := digestS_length _ _
theorem nodeS_length (l r : List UInt8) : (nodeS l r).length = 16 := digestS_length _ _
/-- The root, with as much fuel as there are leaves. -/
def rootF : Nat → List (List UInt8) → List UInt8
  | _, [] => digestS 1 []
  | _, [d] => leafS d
  | 0, _ => []
  | f + 1, l => nodeS (rootF f (l.take (splitS l.length))) (rootF f (l.drop (splitS l.length)))
def rootS (l : List (List UInt8)) : List UInt8 := rootF l.length l
theorem rootF_fuel : ∀ (f g : Nat) (l : List (List UInt8)), l.length ≤ f → l.length ≤ g → rootF f l = rootF g l
  | f, g, [], _, _ => by cases f <;> cases g <;> rfl
  | f, g, [d], _, _ => by cases f <;> cases g <;> rfl
  | 0, g, a :: b :: l, h, _ => by simp at h
  | f + 1, 0, a :: b :: l, _, h => by simp at h
  | f + 1, g + 1, a :: b :: l, h1, h2 => by
    have hb := splitS_bounds (a :: b :: l).length (by simp)
    rw [rootF, rootF]
    rw [rootF_fuel f g ((a :: b :: l).take _) (by rw [List.length_take]; omega) (by rw [List.length_take]; omega), rootF_fuel f g ((a :: b :: l).drop _) (by rw [List.length_drop]; omega) (by rw [List.length_drop]; omega)]
    all_goals simp
theorem rootS_two (l : List (List UInt8)) (h : 1 < l.length) : rootS l = nodeS (rootS (l.take (splitS l.length))) (rootS (l.drop (splitS l.length))) := by
  have hb := splitS_bounds l.length h
  match l, h with
  | a :: b :: l, h =>
    unfold rootS
    rw [show (a :: b :: l).length = (b :: l).length + 1 from rfl, rootF]
    rw [rootF_fuel _ _ ((a :: b :: l).take _) (by rw [List.length_take]; simp at hb ⊢; omega) (Nat.le_refl _), rootF_fuel _ _ ((a :: b :: l).drop _) (by rw [List.length_drop]; simp at hb ⊢; omega) (Nat.le_refl _)]
    all_goals simp

end Go.Proofs.YtgndblhpfjkfhaaDoor
