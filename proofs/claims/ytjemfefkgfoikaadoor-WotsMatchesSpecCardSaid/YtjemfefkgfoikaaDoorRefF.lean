/-
  The reference's HMAC.
-/
import Derived.Test.YtjemfefkgfoikaaDoorRefE
import Derived.Deep.DeepCutAuto
namespace Go.Proofs.YtjemfefkgfoikaaDoor
open Go.RowKit

theorem GB.readsL {w0 wr : World} {B n : Nat} {v : Value} {l : List UInt8} (h : GB w0 B v n l wr) : Reads wr 1 v l.length (l.map u8v) := by rw [h.len]; exact h.reads
/-- Two slices of bytes that grow side by side. -/
structure G2 (w0 : World) (B : Nat) (v1 : Value) (n1 : Nat) (l1 : List UInt8) (v2 : Value) (n2 : Nat) (l2 : List UInt8) (wr : World) : Prop where
  one : GB w0 B v1 n1 l1 wr
  two : GB w0 B v2 n2 l2 wr
  far : ∀ g, v1.ownBlock = some g → v2.ownBlock ≠ some g
theorem G2.swap {w0 wr : World} {B n1 n2 : Nat} {v1 v2 : Value} {l1 l2 : List UInt8} (h : G2 w0 B v1 n1 l1 v2 n2 l2 wr) : G2 w0 B v2 n2 l2 v1 n1 l1 wr := ⟨h.two, h.one, fun g h2 h1 => h.far g h1 h2⟩
theorem G2.to {w0 wr w1 : World} {B n1 n2 : Nat} {v1 v2 : Value} {l1 l2 : List UInt8} (h : G2 w0 B v1 n1 l1 v2 n2 l2 wr) (hE : Ext wr w1) : G2 w0 B v1 n1 l1 v2 n2 l2 w1 := ⟨h.one.to hE, h.two.to hE, h.far⟩
theorem G2.step {w0 wr w1 w2 : World} {B n1 n2 n' : Nat} {v1 v2 v' : Value} {l1 l2 l' : List UInt8} (h : G2 w0 B v1 n1 l1 v2 n2 l2 wr) (hE : Ext wr w1) (hc : Chg (fun k => v1.ownBlock = some k) w1 w2) (ho : w2.ownsRow B 5 1 v' n' (l'.map u8v))
    (hv : v'.ownBlock = v1.ownBlock ∨ ∃ g, v'.ownBlock = some g ∧ w1.heap.size ≤ g ∧ g < w2.heap.size) : G2 w0 B v' n' l' v2 n2 l2 w2 := by
  have h2 := h.two.to hE
  refine ⟨h.one.step hE hc ho, ⟨ownsRow_chg h2.own hc (fun k hk e => h.far k e hk), ((h.one.step hE hc ho).ext), h2.base, Nat.le_trans h2.room hc.size⟩, fun g hg hg2 => ?_⟩
  rcases hv with hv | ⟨g', hv, hge, _⟩
  · exact h.far g (hv ▸ hg) hg2
  · rw [hv] at hg
    cases hg
    have := (h2.own.lt _ hg2).2
    omega
theorem G2.blk {w0 wr w1 w2 : World} {B n1 n2 : Nat} {v1 v2 : Value} {l1 l2 : List UInt8} (h : G2 w0 B v1 n1 l1 v2 n2 l2 wr) (hE : Ext wr w1) (hc : Chg (fun k => v1.ownBlock = some k) w1 w2) {g : Nat} {t : TypeId} {cs : Array Value} (hb : Blk wr g t cs) (hg : g < B) : Blk w2 g t cs := h.one.blk hE hc hb hg

def padTake (key : List UInt8) (x : UInt8) (k : Nat) : List UInt8 := (List.range k).map fun i => key.getD i 0 ^^^ x
theorem padTake_step (key : List UInt8) (x : UInt8) (k : Nat) : padTake key x (k + 1) = padTake key x k ++ [key.getD k 0 ^^^ x] := by unfold padTake; rw [List.range_succ, List.map_append]; rfl
theorem padTake_end (key : List UInt8) (x : UInt8) : padTake key x 64 = padOf key x := rfl
theorem own_push {w : World} {B : Nat} {v : Value} {n : Nat} {l l' : List UInt8} {b : UInt8} (h : w.ownsRow B 5 1 v n (l.map u8v ++ [.int .u8 (b.toNat : Int)])) (e : l' = l ++ [b]) : w.ownsRow B 5 1 v n (l'.map u8v) := by
  rw [e, List.map_append]; exact h
theorem own_cat {w : World} {B : Nat} {v : Value} {n : Nat} {l m : List UInt8} (h : w.ownsRow B 5 1 v n (l.map u8v ++ m.map u8v)) : w.ownsRow B 5 1 v n ((l ++ m).map u8v) := by
  rw [List.map_append]; exact h

set_option maxRecDepth 100000 in
set_option maxHeartbeats 4000000 in
theorem rhmac_any (key b : List UInt8) (kv bv : Value) (w : World) (hk : Reads w 1 kv key.length (key.map u8v)) (hb : Reads w 1 bv b.length (b.map u8v)) (hkl : key.length ≤ 1000000) (hbl : b.length ≤ 1000000) :
    Calls Tryd.prog 96 #[kv, bv] w fun e w' => e = .returned (.agg ((hmac key b).map u8v).toArray) ∧ Ext w w' := by
  have HB := hide hb
  obtain ⟨A, c, rfl⟩ : ∃ A c, kv = .slice A key.length c := by obtain ⟨_, A, c, h, _⟩ := hk; exact ⟨A, c, h⟩
  obtain ⟨Ab, cb, rfl⟩ : ∃ A c, bv = .slice A b.length c := by obtain ⟨_, A, c, h, _⟩ := hb; exact ⟨A, c, h⟩
  have HK0 := hide hk
  clear hk hb
  rw [hmac_eq]
  by_cases hlen : key.length > 64
  · have d64 : decide ((64 : Int) < (key.length : Int)) = true := decide_eq_true (by omega)
    rw [if_pos hlen]
    go_enter Tryd.func96, Tryd.ntmps96
    go_wp2_with (first
      | (go_at_call 65; refine (rsum_any key _ _ ((unhide HK0).ext ((Ext.refl w).alloc _)) (by omega)).mono ?_; rintro e w1 ⟨rfl, hE1⟩; have H1 := hide hE1; clear hE1)
      | (go_at_call 100; refine (rall_any (sha key) _ (sha_length key)).mono ?_; rintro e w2 ⟨A0, c0, rfl, h2⟩; have H2 := hide h2; clear h2))
    have HK := hide (show Reads w2 1 (.slice A0 32 c0) 32 ((sha key).map u8v) ∧ Ext w w2 ∧ Blk w2 w.heap.size 78 (bytesTo 32 []) from
      ⟨(unhide H2).reads, (((Ext.refl w).alloc _).trans (unhide H1)).trans (unhide H2).ext, (Blk.new w _ _).ext ((unhide H1).trans (unhide H2).ext)⟩)
    clear H1 H2
    obtain ⟨kk, hkk⟩ : ∃ kk, kk = sha key := ⟨_, rfl⟩
    rw [← hkk] at HK
    have hkl : kk.length = 32 := by rw [hkk, sha_length]
    have HKK := hide hkk
    have HKN := hide hkl
    clear hkk hkl
    obtain ⟨wk, rfl⟩ : ∃ wk : World, wk = w2 := ⟨_, rfl⟩
    have TK1 := hide True.intro
    go_loopw [5, 6, 7] (fun a b i wr => ∃ (k : Nat) (A1 : Option Addr) (c1 : Nat) (A2 : Option Addr) (c2 : Nat), k ≤ 64 ∧ i = .int .i64 k ∧ a = .slice A1 k c1 ∧ b = .slice A2 k c2 ∧ Hid (G2 wk wk.heap.size (.slice A1 k c1) k (padTake kk 54 k) (.slice A2 k c2) k (padTake kk 92 k) wr ∧ Blk wr w.heap.size 78 (bytesTo 32 []))) (fun _ _ i _ => 64 - (intOf i).toNat)
    case atStart => exact ⟨0, none, 0, none, 0, Nat.zero_le _, rfl, rfl, rfl, hide ⟨⟨GB.nil (Ext.refl _) (Nat.le_refl _) (Nat.le_refl _), GB.nil (Ext.refl _) (Nat.le_refl _) (Nat.le_refl _), fun g h => by simp [Value.ownBlock] at h⟩, (unhide HK).2.2⟩⟩
    case round =>
      obtain ⟨k, A1, c1, A2, c2, hk, rfl, rfl, rfl, HI⟩ := hrel
      by_cases hlt : k < 64
      · have HS1 := hide (padTake_step kk 54 k)
        have HS2 := hide (padTake_step kk 92 k)
        have HX1 := hide (fun b : UInt8 => xor8 b 54)
        have HX2 := hide (fun b : UInt8 => xor8 b 92)
        have hcell : k < 32 → ∃ b o, A0 = some ⟨b, o, none⟩ ∧ wr.cell? ⟨b, o + k, none⟩ = some (.int .u8 ((kk.getD k 0).toNat : Int)) := fun h => by
          obtain ⟨b, o, c, u, e, _, _, _, _, _⟩ := ((unhide HK).1.ext (unhide HI).1.one.ext).at1 h
          cases e
          exact ⟨b, o, rfl, ((unhide HK).1.ext (unhide HI).1.one.ext).byteAt (by first | exact h | (rw [unhide HKN]; exact h))⟩
        have HCL := hide hcell
        clear hcell
        go_upto_if 22 with fail
        go_cut [8] (fun s wx => ∃ x : UInt8, s = .int .u8 (x.toNat : Int) ∧ Hid (x = kk.getD k 0 ∧ Ext wr wx ∧ G2 wk wk.heap.size (.slice A1 k c1) k (padTake kk 54 k) (.slice A2 k c2) k (padTake kk 92 k) wx ∧ Blk wx w.heap.size 78 (bytesTo 32 [])))
        case first =>
          by_cases hin : k < 32
          · obtain ⟨g, o, rfl, hc⟩ := unhide HCL hin
            have hin2 : decide (k < 32) = true := decide_eq_true hin
            have hin3 : (k : Int) < 32 := by omega
            have hin4 : decide ((k : Int) < 32) = true := decide_eq_true hin3
            generalize hx : kk.getD k 0 = x at *
            have HX := hide hx
            clear hx
            go_wp2_with fail
            go_meet
            exact ⟨x, rfl, hide ⟨rfl, Ext.refl _, (unhide HI).1, (unhide HI).2⟩⟩
          · have hin2 : decide (k < 32) = false := decide_eq_false hin
            have hin4 : decide ((k : Int) < 32) = false := decide_eq_false (by omega)
            have HX := hide (show (0 : UInt8) = kk.getD k 0 from by rw [List.getD_eq_getElem?_getD, List.getElem?_eq_none (by first | omega | (rw [unhide HKN]; omega))]; rfl)
            go_wp2_with fail
            go_meet
            exact ⟨0, rfl, hide ⟨unhide HX, Ext.refl _, (unhide HI).1, (unhide HI).2⟩⟩
        case rest =>
          obtain ⟨x, rfl, HX⟩ := hcut
          obtain ⟨wx, rfl⟩ : ∃ wx : World, wx = wc := ⟨_, rfl⟩
          have hx1 : bits BinOp.xor IntKind.u8 (x.toNat : Int) 54 = ((x ^^^ 54).toNat : Int) := xor8 x 54
          have hx2 : bits BinOp.xor IntKind.u8 (x.toNat : Int) 92 = ((x ^^^ 92).toNat : Int) := xor8 x 92
          rw [← (unhide HX).1] at HS1 HS2
          go_wp2_with (first
            | (at_builtin; refine wpList_app (s := .tmp 27) (x := .tmp 30) rfl rfl u8_row rfl (ownsRow_ext (unhide HX).2.2.1.one.own ((Ext.refl _).alloc _)) rfl (Reads.new1 _ _ _) (AllOne.one rfl) (by omega) (Nat.le_trans (unhide HX).2.2.1.one.room (by simp)) ?_; intro A3 c3 w3 ho hc hv; have H0 := hide (And.intro ho (And.intro hc hv)); clear ho hc hv
               have H3 := hide (And.intro (G2.step (unhide HX).2.2.1 ((Ext.refl _).alloc _) (unhide H0).2.1 (own_push (unhide H0).1 (unhide HS1)) (unhide H0).2.2) ((unhide HX).2.2.1.blk ((Ext.refl _).alloc _) (unhide H0).2.1 (unhide HX).2.2.2 (unhide HK).2.2.lt))
               clear H0)
            | (at_builtin; refine wpList_app (s := .tmp 32) (x := .tmp 35) rfl rfl u8_row rfl (ownsRow_ext (unhide H3).1.two.own ((Ext.refl _).alloc _)) rfl (Reads.new1 _ _ _) (AllOne.one rfl) (by omega) (Nat.le_trans (unhide H3).1.two.room (by simp)) ?_; intro A4 c4 w4 ho hc hv; have H0 := hide (And.intro ho (And.intro hc hv)); clear ho hc hv
               have H4 := hide (And.intro (G2.step (unhide H3).1.swap ((Ext.refl _).alloc _) (unhide H0).2.1 (own_push (unhide H0).1 (unhide HS2)) (unhide H0).2.2) ((unhide H3).1.swap.blk ((Ext.refl _).alloc _) (unhide H0).2.1 (unhide H3).2 (unhide HK).2.2.lt))
               clear H0))
          go_roundw
          case rel => exact ⟨k + 1, A3, c3, A4, c4, hlt, by go_num, rfl, rfl, hide ⟨(unhide H4).1.swap, (unhide H4).2⟩⟩
          case measure => simp [intOf]; omega
      · obtain rfl : k = 64 := by omega
        rw [padTake_end, padTake_end] at HI
        have HPL := hide (And.intro (padOf_length kk 54) (padOf_length kk 92))
        obtain ⟨p1, hp1⟩ : ∃ p, padOf kk 54 = p := ⟨_, rfl⟩
        obtain ⟨p2, hp2⟩ : ∃ p, padOf kk 92 = p := ⟨_, rfl⟩
        rw [hp1, hp2] at HPL HI
        have HPE := hide (And.intro hp1 hp2)
        clear hp1 hp2
        go_wp2_with (first
          | (at_builtin; refine wpList_app (s := .tmp 37) (x := .tmp 38) rfl rfl u8_row rfl (unhide HI).1.one.own rfl ((unhide HB).ext ((unhide HK).2.1.trans (unhide HI).1.one.ext)) (AllOne.u8 b) (by omega) (unhide HI).1.one.room ?_; intro A5 c5 w5 ho hc hv; have H0 := hide (And.intro ho (And.intro hc hv)); clear ho hc hv
             have H5 := hide (And.intro (G2.step (unhide HI).1 (Ext.refl _) (unhide H0).2.1 (own_cat (unhide H0).1) (unhide H0).2.2) ((unhide HI).1.blk (Ext.refl _) (unhide H0).2.1 (unhide HI).2 (unhide HK).2.2.lt))
             clear H0)
          | (have HT1 := unhide TK1; go_at_call 65; clear TK1 HT1; refine (rsum_any (p1 ++ b) _ _ (unhide H5).1.one.readsL (by rw [(unhide H5).1.one.len]; omega)).mono ?_; rintro e w6 ⟨rfl, hE6⟩; have H6 := hide (And.intro ((unhide H5).1.to hE6) ((unhide H5).2.ext hE6)); clear hE6)
          | (go_at_call 100; refine (rall_any (sha (p1 ++ b)) _ (sha_length _)).mono ?_; rintro e w7 ⟨A7, c7, rfl, h7⟩; have H7 := hide (And.intro h7 (And.intro ((unhide H6).1.to h7.ext) ((unhide H6).2.ext h7.ext))); clear h7)
          | (at_builtin; refine wpList_app (s := .tmp 40) (x := .tmp 43) rfl rfl u8_row rfl (unhide H7).2.1.two.own rfl (unhide H7).1.reads (AllOne.u8 _) (by omega) (unhide H7).2.1.two.room ?_; intro A8 c8 w8 ho hc hv; have H0 := hide (And.intro ho (And.intro hc hv)); clear ho hc hv
             have H8 := hide (And.intro (G2.step (unhide H7).2.1.swap (Ext.refl _) (unhide H0).2.1 (own_cat (unhide H0).1) (unhide H0).2.2) ((unhide H7).2.1.swap.blk (Ext.refl _) (unhide H0).2.1 (unhide H7).2.2 (unhide HK).2.2.lt))
             clear H0))
        refine (rsum_any (p2 ++ sha (p1 ++ b)) _ _ (unhide H8).1.one.readsL (by rw [(unhide H8).1.one.len]; omega)).mono ?_
        rintro e w9 ⟨rfl, hE9⟩
        have H9 := hide (And.intro ((unhide HK).2.1.trans ((unhide H8).1.one.ext.trans hE9)) ((unhide H8).2.ext hE9))
        clear hE9
        have HSZ := hide (sha_length (p2 ++ sha (p1 ++ b)))
        go_wp2_with (refine wpList_storeB (ty := 78) (t := 78) (x := .tmp 4) (y := .tmp 46) rfl rfl arr32_wide rfl rfl (unhide H9).2 (bytesTo_size (by simp)) (by simpa using unhide HSZ) (bytes_one _) ?_; intro w10 hb10 hc10 hz10; have H10 := hide (And.intro hb10 hc10); clear hb10 hc10 hz10)
        refine bodyPost_ret (v := .agg ((sha (p2 ++ sha (p1 ++ b))).map u8v).toArray) (results_blk arr32_wide rfl (unhide H10).1 (by simpa using unhide HSZ) rfl) rfl ⟨(by rw [← (unhide HPE).1, ← (unhide HPE).2, unhide HKK]), ?_⟩
        exact (unhide H9).1.trans' (unhide H10).2 (fun _ _ h => h) (fun i hi e => by omega)
  · have d64 : decide ((64 : Int) < (key.length : Int)) = false := decide_eq_false (by omega)
    rw [if_neg hlen]
    go_enter Tryd.func96, Tryd.ntmps96
    obtain ⟨kk, rfl⟩ : ∃ kk, kk = key := ⟨_, rfl⟩
    obtain ⟨A0, rfl⟩ : ∃ a, a = A := ⟨_, rfl⟩
    have HKN := hide (show kk.length = kk.length from rfl)
    go_wp2
    have HK := hide (show Reads (w.alloc (.cells (Array.replicate 32 (.int .u8 0)) 78)) 1 (.slice A0 kk.length c) kk.length (kk.map u8v) ∧ Ext w (w.alloc (.cells (Array.replicate 32 (.int .u8 0)) 78)) ∧ Blk (w.alloc (.cells (Array.replicate 32 (.int .u8 0)) 78)) w.heap.size 78 (bytesTo 32 []) from
      ⟨(unhide HK0).ext ((Ext.refl w).alloc _), (Ext.refl w).alloc _, by rw [bytesTo_nil]; exact Blk.new w _ _⟩)
    change Code.wp _ _ _ _ (w.alloc (.cells (Array.replicate 32 (.int .u8 0)) 78))
    generalize w.alloc (.cells (Array.replicate 32 (.int .u8 0)) 78) = wk at *
    have TK1 := hide True.intro
    go_loopw [5, 6, 7] (fun a b i wr => ∃ (k : Nat) (A1 : Option Addr) (c1 : Nat) (A2 : Option Addr) (c2 : Nat), k ≤ 64 ∧ i = .int .i64 k ∧ a = .slice A1 k c1 ∧ b = .slice A2 k c2 ∧ Hid (G2 wk wk.heap.size (.slice A1 k c1) k (padTake kk 54 k) (.slice A2 k c2) k (padTake kk 92 k) wr ∧ Blk wr w.heap.size 78 (bytesTo 32 []))) (fun _ _ i _ => 64 - (intOf i).toNat)
    case atStart => exact ⟨0, none, 0, none, 0, Nat.zero_le _, rfl, rfl, rfl, hide ⟨⟨GB.nil (Ext.refl _) (Nat.le_refl _) (Nat.le_refl _), GB.nil (Ext.refl _) (Nat.le_refl _) (Nat.le_refl _), fun g h => by simp [Value.ownBlock] at h⟩, (unhide HK).2.2⟩⟩
    case round =>
      obtain ⟨k, A1, c1, A2, c2, hk, rfl, rfl, rfl, HI⟩ := hrel
      by_cases hlt : k < 64
      · have HS1 := hide (padTake_step kk 54 k)
        have HS2 := hide (padTake_step kk 92 k)
        have HX1 := hide (fun b : UInt8 => xor8 b 54)
        have HX2 := hide (fun b : UInt8 => xor8 b 92)
        have hcell : k < kk.length → ∃ b o, A0 = some ⟨b, o, none⟩ ∧ wr.cell? ⟨b, o + k, none⟩ = some (.int .u8 ((kk.getD k 0).toNat : Int)) := fun h => by
          obtain ⟨b, o, c, u, e, _, _, _, _, _⟩ := ((unhide HK).1.ext (unhide HI).1.one.ext).at1 h
          cases e
          exact ⟨b, o, rfl, ((unhide HK).1.ext (unhide HI).1.one.ext).byteAt (by first | exact h | (rw [unhide HKN]; exact h))⟩
        have HCL := hide hcell
        clear hcell
        go_upto_if 22 with fail
        go_cut [8] (fun s wx => ∃ x : UInt8, s = .int .u8 (x.toNat : Int) ∧ Hid (x = kk.getD k 0 ∧ Ext wr wx ∧ G2 wk wk.heap.size (.slice A1 k c1) k (padTake kk 54 k) (.slice A2 k c2) k (padTake kk 92 k) wx ∧ Blk wx w.heap.size 78 (bytesTo 32 [])))
        case first =>
          by_cases hin : k < kk.length
          · obtain ⟨g, o, rfl, hc⟩ := unhide HCL hin
            have hin2 : decide (k < kk.length) = true := decide_eq_true hin
            have hin3 : (k : Int) < (kk.length : Int) := by omega
            have hin4 : decide ((k : Int) < (kk.length : Int)) = true := decide_eq_true hin3
            generalize hx : kk.getD k 0 = x at *
            have HX := hide hx
            clear hx
            go_wp2_with fail
            go_meet
            exact ⟨x, rfl, hide ⟨rfl, Ext.refl _, (unhide HI).1, (unhide HI).2⟩⟩
          · have hin2 : decide (k < kk.length) = false := decide_eq_false hin
            have hin4 : decide ((k : Int) < (kk.length : Int)) = false := decide_eq_false (by omega)
            have HX := hide (show (0 : UInt8) = kk.getD k 0 from by rw [List.getD_eq_getElem?_getD, List.getElem?_eq_none (by first | omega | (rw [unhide HKN]; omega))]; rfl)
            go_wp2_with fail
            go_meet
            exact ⟨0, rfl, hide ⟨unhide HX, Ext.refl _, (unhide HI).1, (unhide HI).2⟩⟩
        case rest =>
          obtain ⟨x, rfl, HX⟩ := hcut
          obtain ⟨wx, rfl⟩ : ∃ wx : World, wx = wc := ⟨_, rfl⟩
          have hx1 : bits BinOp.xor IntKind.u8 (x.toNat : Int) 54 = ((x ^^^ 54).toNat : Int) := xor8 x 54
          have hx2 : bits BinOp.xor IntKind.u8 (x.toNat : Int) 92 = ((x ^^^ 92).toNat : Int) := xor8 x 92
          rw [← (unhide HX).1] at HS1 HS2
          go_wp2_with (first
            | (at_builtin; refine wpList_app (s := .tmp 27) (x := .tmp 30) rfl rfl u8_row rfl (ownsRow_ext (unhide HX).2.2.1.one.own ((Ext.refl _).alloc _)) rfl (Reads.new1 _ _ _) (AllOne.one rfl) (by omega) (Nat.le_trans (unhide HX).2.2.1.one.room (by simp)) ?_; intro A3 c3 w3 ho hc hv; have H0 := hide (And.intro ho (And.intro hc hv)); clear ho hc hv
               have H3 := hide (And.intro (G2.step (unhide HX).2.2.1 ((Ext.refl _).alloc _) (unhide H0).2.1 (own_push (unhide H0).1 (unhide HS1)) (unhide H0).2.2) ((unhide HX).2.2.1.blk ((Ext.refl _).alloc _) (unhide H0).2.1 (unhide HX).2.2.2 (unhide HK).2.2.lt))
               clear H0)
            | (at_builtin; refine wpList_app (s := .tmp 32) (x := .tmp 35) rfl rfl u8_row rfl (ownsRow_ext (unhide H3).1.two.own ((Ext.refl _).alloc _)) rfl (Reads.new1 _ _ _) (AllOne.one rfl) (by omega) (Nat.le_trans (unhide H3).1.two.room (by simp)) ?_; intro A4 c4 w4 ho hc hv; have H0 := hide (And.intro ho (And.intro hc hv)); clear ho hc hv
               have H4 := hide (And.intro (G2.step (unhide H3).1.swap ((Ext.refl _).alloc _) (unhide H0).2.1 (own_push (unhide H0).1 (unhide HS2)) (unhide H0).2.2) ((unhide H3).1.swap.blk ((Ext.refl _).alloc _) (unhide H0).2.1 (unhide H3).2 (unhide HK).2.2.lt))
               clear H0))
          go_roundw
          case rel => exact ⟨k + 1, A3, c3, A4, c4, hlt, by go_num, rfl, rfl, hide ⟨(unhide H4).1.swap, (unhide H4).2⟩⟩
          case measure => simp [intOf]; omega
      · obtain rfl : k = 64 := by omega
        rw [padTake_end, padTake_end] at HI
        have HPL := hide (And.intro (padOf_length kk 54) (padOf_length kk 92))
        obtain ⟨p1, hp1⟩ : ∃ p, padOf kk 54 = p := ⟨_, rfl⟩
        obtain ⟨p2, hp2⟩ : ∃ p, padOf kk 92 = p := ⟨_, rfl⟩
        rw [hp1, hp2] at HPL HI
        have HPE := hide (And.intro hp1 hp2)
        clear hp1 hp2
        go_wp2_with (first
          | (at_builtin; refine wpList_app (s := .tmp 37) (x := .tmp 38) rfl rfl u8_row rfl (unhide HI).1.one.own rfl ((unhide HB).ext ((unhide HK).2.1.trans (unhide HI).1.one.ext)) (AllOne.u8 b) (by omega) (unhide HI).1.one.room ?_; intro A5 c5 w5 ho hc hv; have H0 := hide (And.intro ho (And.intro hc hv)); clear ho hc hv
             have H5 := hide (And.intro (G2.step (unhide HI).1 (Ext.refl _) (unhide H0).2.1 (own_cat (unhide H0).1) (unhide H0).2.2) ((unhide HI).1.blk (Ext.refl _) (unhide H0).2.1 (unhide HI).2 (unhide HK).2.2.lt))
             clear H0)
          | (have HT1 := unhide TK1; go_at_call 65; clear TK1 HT1; refine (rsum_any (p1 ++ b) _ _ (unhide H5).1.one.readsL (by rw [(unhide H5).1.one.len]; omega)).mono ?_; rintro e w6 ⟨rfl, hE6⟩; have H6 := hide (And.intro ((unhide H5).1.to hE6) ((unhide H5).2.ext hE6)); clear hE6)
          | (go_at_call 100; refine (rall_any (sha (p1 ++ b)) _ (sha_length _)).mono ?_; rintro e w7 ⟨A7, c7, rfl, h7⟩; have H7 := hide (And.intro h7 (And.intro ((unhide H6).1.to h7.ext) ((unhide H6).2.ext h7.ext))); clear h7)
          | (at_builtin; refine wpList_app (s := .tmp 40) (x := .tmp 43) rfl rfl u8_row rfl (unhide H7).2.1.two.own rfl (unhide H7).1.reads (AllOne.u8 _) (by omega) (unhide H7).2.1.two.room ?_; intro A8 c8 w8 ho hc hv; have H0 := hide (And.intro ho (And.intro hc hv)); clear ho hc hv
             have H8 := hide (And.intro (G2.step (unhide H7).2.1.swap (Ext.refl _) (unhide H0).2.1 (own_cat (unhide H0).1) (unhide H0).2.2) ((unhide H7).2.1.swap.blk (Ext.refl _) (unhide H0).2.1 (unhide H7).2.2 (unhide HK).2.2.lt))
             clear H0))
        refine (rsum_any (p2 ++ sha (p1 ++ b)) _ _ (unhide H8).1.one.readsL (by rw [(unhide H8).1.one.len]; omega)).mono ?_
        rintro e w9 ⟨rfl, hE9⟩
        have H9 := hide (And.intro ((unhide HK).2.1.trans ((unhide H8).1.one.ext.trans hE9)) ((unhide H8).2.ext hE9))
        clear hE9
        have HSZ := hide (sha_length (p2 ++ sha (p1 ++ b)))
        go_wp2_with (refine wpList_storeB (ty := 78) (t := 78) (x := .tmp 4) (y := .tmp 46) rfl rfl arr32_wide rfl rfl (unhide H9).2 (bytesTo_size (by simp)) (by simpa using unhide HSZ) (bytes_one _) ?_; intro w10 hb10 hc10 hz10; have H10 := hide (And.intro hb10 hc10); clear hb10 hc10 hz10)
        refine bodyPost_ret (v := .agg ((sha (p2 ++ sha (p1 ++ b))).map u8v).toArray) (results_blk arr32_wide rfl (unhide H10).1 (by simpa using unhide HSZ) rfl) rfl ⟨(by rw [(unhide HPE).1, (unhide HPE).2]), ?_⟩
        exact (unhide H9).1.trans' (unhide H10).2 (fun _ _ h => h) (fun i hi e => by omega)

end Go.Proofs.YtjemfefkgfoikaaDoor
