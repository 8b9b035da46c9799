/-
  The reference's MAC, Digest, Derive, Stream.
-/
import Derived.Test.YtjemfefkgfoikaaDoorRefF
import Derived.Test.YtjemfefkgfoikaaDoorShaJ
namespace Go.Proofs.YtjemfefkgfoikaaDoor
open Go.RowKit

set_option maxHeartbeats 1000000 in
theorem rmac_any (key b : List UInt8) (kv bv : Value) (w : World) (hk : Reads w 1 kv key.length (key.map u8v)) (hb : Reads w 1 bv b.length (b.map u8v)) (hkl : key.length ≤ 1000000) (hbl : b.length ≤ 1000000) :
    Calls Tryd.prog 87 #[kv, bv] w fun e w' => e = .returned (.agg ((mac key b).map u8v).toArray) ∧ Ext w w' := by
  have HH := hide (rhmac_any key b kv bv _ (hk.ext ((Ext.refl w).alloc (.cells (Array.replicate 16 (.int .u8 0)) 23))) (hb.ext ((Ext.refl w).alloc _)) hkl hbl)
  have HL := hide (mac_length key b)
  clear hk hb
  go_enter Tryd.func87, Tryd.ntmps87
  go_wp2_with fail
  refine (unhide HH).mono ?_
  rintro e w1 ⟨rfl, hE1⟩
  go_wp2_with fail
  refine (rshort_any (hmac key b) _ (hmac_length _ _)).mono ?_
  rintro e w2 ⟨rfl, hE2⟩
  have hB := (Blk.new w 23 (Array.replicate 16 (.int .u8 0))).ext (hE1.trans hE2)
  have HB := hide (And.intro hB (hE1.trans hE2))
  clear hB hE1 hE2
  rw [show (hmac key b).take 16 = mac key b from rfl]
  go_wp2_with (refine wpList_storeB (ty := 23) (t := 23) (x := .tmp 4) (y := .tmp 8) rfl rfl digest_wide rfl rfl (unhide HB).1 (by simp) ?_ (bytes_one _) ?_; (focus (simpa using unhide HL)); intro w3 hb3 hc3 hz3; have H3 := hide (And.intro hb3 hc3); clear hb3 hc3 hz3)
  refine bodyPost_ret (v := .agg ((mac key b).map u8v).toArray) (results_blk digest_wide rfl (unhide H3).1 (by simpa using unhide HL) rfl) rfl ⟨rfl, ?_⟩
  exact (((Ext.refl w).alloc _).trans (unhide HB).2).trans' (unhide H3).2 (fun _ _ h => h) (fun i hi e => by omega)

theorem gb_one (w : World) (o : Obj) (x : UInt8) : GB w (w.heap.size + 1) (.slice (some ⟨w.heap.size + 1, 0, none⟩) 1 1) 1 [x] ((w.alloc o).alloc (.cells #[.int .u8 (x.toNat : Int)] 5)) :=
  ⟨own_one' _ _ _ _ (by simp) (by simp), ((Ext.refl w).alloc _).alloc _, by omega, by simp⟩
theorem gb_empty (w : World) (o : Obj) : GB w (w.heap.size + 1) (.slice (some ⟨w.heap.size + 1, 0, none⟩) 0 0) 0 [] ((w.alloc o).alloc (.cells #[] 5)) :=
  ⟨own_empty' _ _ _ _ (by simp) (by simp), ((Ext.refl w).alloc _).alloc _, by omega, by simp⟩

set_option maxRecDepth 100000 in
set_option maxHeartbeats 2000000 in
theorem rdigest_any (tag : Int) (ps : List (List UInt8)) (pv : Value) (w : World) (hp : Parts w pv ps) (hps : ps.length ≤ 1000) (hpl : ∀ p ∈ ps, p.length ≤ 10000) :
    Calls Tryd.prog 38 #[.int .i64 tag, pv] w fun e w' => e = .returned (.agg ((digestS tag ps).map u8v).toArray) ∧ Ext w w' := by
  have HP := hide hp
  have HPL := hide hpl
  obtain ⟨A1, c1, rfl⟩ : ∃ A c, pv = .slice A ps.length c := by obtain ⟨vs, _, ⟨_, A, c, h, _⟩, _⟩ := hp; exact ⟨A, c, h⟩
  clear hp hpl
  obtain ⟨l0, hl0⟩ : ∃ l, l = [tagByte tag] := ⟨_, rfl⟩
  have HL0 := hide hl0
  have HI0 := hide (show GB w (w.heap.size + 1) (.slice (some ⟨w.heap.size + 1, 0, none⟩) 1 1) 1 (l0 ++ encs (ps.take 0)) ((w.alloc (.cells (bytesTo 16 []) 23)).alloc (.cells #[.int .u8 (tag % 256)] 5)) ∧ Blk ((w.alloc (.cells (bytesTo 16 []) 23)).alloc (.cells #[.int .u8 (tag % 256)] 5)) w.heap.size 23 (bytesTo 16 []) from by
    rw [hl0, tag_wrap, List.take_zero, show encs [] = [] from rfl, List.append_nil]
    exact ⟨gb_one _ _ _, (Blk.new _ _ _).alloc _⟩)
  clear hl0
  go_enter Tryd.func38, Tryd.ntmps38
  go_wp2
  go_loopw [5, 6] (fun b i wr => ∃ (k n : Nat) (A : Option Addr) (c : Nat), k ≤ ps.length ∧ i = .int .i64 k ∧ b = .slice A n c ∧ n ≤ 90000 + k * 10010 ∧ Hid (GB w (w.heap.size + 1) (.slice A n c) n (l0 ++ encs (ps.take k)) wr ∧ Blk wr w.heap.size 23 (bytesTo 16 []))) (fun _ i _ => ps.length - (intOf i).toNat)
  case atStart => exact ⟨0, _, _, _, Nat.zero_le _, rfl, rfl, by omega, HI0⟩
  case round =>
    clear HI0
    obtain ⟨k, n, A, c, hk, rfl, rfl, hn, HI⟩ := hrel
    by_cases hlt : k < ps.length
    · have hpw : Parts wr (.slice A1 ps.length c1) ps := (unhide HP).ext (unhide HI).1.ext
      obtain ⟨vs, q1, q2, q3⟩ := hpw
      obtain ⟨u, q4, q5⟩ := q3 k ps[k] (List.getElem?_eq_getElem hlt)
      obtain ⟨b, o, c', u', hv, _, _, hb, hu, hcc⟩ := q2.at1 hlt
      cases hv
      rw [q4] at hu
      cases hu
      obtain ⟨Au, cu, rfl⟩ : ∃ A c, u = .slice A ps[k].length c := by obtain ⟨_, A, c, h, _⟩ := q5; exact ⟨A, c, h⟩
      have hpk := unhide HPL ps[k] (List.getElem_mem hlt)
      have HQ5 := hide q5
      have HE := hide (encs_step ps k hlt)
      clear q1 q2 q3 q4 q5
      have hwl := wBytes_length ps[k]
      generalize ps[k] = p at *
      have HW := hide (fun w => rbytes_any (strOf p) w (by rw [strOf_size]; omega))
      rw [strOf_list] at HW
      go_wp2_with (first
        | (refine wpList_strOf (src := 41) (dst := 9) (x := .tmp 20) (l := p) rfl rfl Tryd.underlying41 Tryd.underlying5 Tryd.underlying9 rfl (unhide HQ5) ?_)
        | (go_at_call 63; refine (unhide HW _).mono ?_; rintro e w3 ⟨A3, c3, rfl, ho3, hE3⟩; have H3 := hide (And.intro ho3 hE3); clear ho3 hE3)
        | (at_builtin; refine wpList_app rfl rfl u8_row rfl (ownsRow_ext (unhide HI).1.own (unhide H3).2) rfl (Reads.of_own (unhide H3).1) (AllOne.u8 _) (by omega) (Nat.le_trans (unhide HI).1.room (unhide H3).2.size') ?_; intro A' c4 w4 ho hc hv; have H4 := hide (And.intro ho hc); clear ho hc hv))
      go_roundw
      case rel =>
        refine ⟨k + 1, n + (wBytes p).length, A', c4, by omega, by go_num, rfl, by rw [Nat.succ_mul]; omega, hide ⟨?_, (unhide HI).1.blk (unhide H3).2 (unhide H4).2 (unhide HI).2 (Nat.lt_succ_self _)⟩⟩
        rw [unhide HE, ← List.append_assoc]
        exact (unhide HI).1.step (unhide H3).2 (unhide H4).2 (own_cat (unhide H4).1)
      case measure => simp [intOf]; omega
    · obtain rfl : k = ps.length := by omega
      clear hlt hk
      rw [List.take_length] at HI
      obtain ⟨ll, hll⟩ : ∃ l, l0 ++ encs ps = l := ⟨_, rfl⟩
      rw [hll] at HI
      have HLL := hide hll
      clear hll
      have hn' : n ≤ 100000000 := by omega
      go_wp2_with fail
      refine (rsum_any ll _ _ (unhide HI).1.readsL (by rw [(unhide HI).1.len]; exact hn')).mono ?_
      rintro e w8 ⟨rfl, hE8⟩
      have HE8 := hide hE8
      clear hE8
      go_wp2_with fail
      refine (rshort_any (sha ll) _ (sha_length _)).mono ?_
      rintro e w9 ⟨rfl, hE9'⟩
      have hE9 := (unhide HE8).trans hE9'
      clear hE9'
      obtain ⟨rr, hrr⟩ : ∃ r, (sha ll).take 16 = r := ⟨_, rfl⟩
      have hrl : rr.length = 16 := by rw [← hrr, List.length_take, sha_length]; rfl
      rw [hrr]
      have HRR := hide hrr
      clear hrr
      have HSZ := hide hrl
      have H9 := hide (And.intro ((unhide HI).1.ext.trans hE9) ((unhide HI).2.ext hE9))
      clear hE9
      go_wp2_with (refine wpList_storeB (ty := 23) (t := 23) (x := .tmp 4) (y := .tmp 26) rfl rfl digest_wide rfl rfl (unhide H9).2 (bytesTo_size (by simp)) (by simpa using unhide HSZ) (bytes_one _) ?_; intro w10 hb10 hc10 hz10; have H10 := hide (And.intro hb10 hc10); clear hb10 hc10 hz10)
      refine bodyPost_ret (results_blk digest_wide rfl (unhide H10).1 (by simpa using unhide HSZ) rfl) rfl ⟨(by unfold digestS; rw [← unhide HL0, unhide HLL, unhide HRR]), ?_⟩
      exact (unhide H9).1.trans' (unhide H10).2 (fun _ _ h => h) (fun i hi e => by omega)

set_option maxRecDepth 100000 in
set_option maxHeartbeats 2000000 in
theorem rderive_any (key : List UInt8) (kv : Value) (label : ByteArray) (ps : List (List UInt8)) (pv : Value) (w : World) (hk : Reads w 1 kv key.length (key.map u8v)) (hkl : key.length ≤ 10000) (hll : label.size ≤ 10000) (hp : Parts w pv ps) (hps : ps.length ≤ 90) (hpl : ∀ p ∈ ps, p.length ≤ 10000) :
    Calls Tryd.prog 68 #[kv, .string label, pv] w fun e w' => e = .returned (.agg ((deriveS key label.data.toList ps).map u8v).toArray) ∧ Ext w w' := by
  have HP := hide hp
  have HPL := hide hpl
  have HK := hide hk
  obtain ⟨A1, c1, rfl⟩ : ∃ A c, pv = .slice A ps.length c := by obtain ⟨vs, _, ⟨_, A, c, h, _⟩, _⟩ := hp; exact ⟨A, c, h⟩
  clear hp hpl hk
  have hl0l : (wBytes label.data.toList).length ≤ 10 + label.size := wBytes_length label.data.toList
  have HW0 := hide (fun w => rbytes_any label w (by omega))
  obtain ⟨l0, hl0⟩ : ∃ l, wBytes label.data.toList = l := ⟨_, rfl⟩
  rw [hl0] at HW0 hl0l
  have HL0 := hide hl0
  clear hl0
  go_enter Tryd.func68, Tryd.ntmps68
  go_wp2_with fail
  refine (unhide HW0 _).mono ?_
  rintro e w1 ⟨A0, c0, rfl, ho0, hE0⟩
  have H1 := hide (show GB w (w.heap.size + 1) (.slice (some ⟨w.heap.size + 1, 0, none⟩) 0 0) 0 [] w1 ∧ Blk w1 w.heap.size 23 (bytesTo 16 []) ∧ Reads w1 1 (.slice A0 l0.length c0) l0.length (l0.map u8v) from
    ⟨(gb_empty w _).to hE0, ((Blk.new w _ _).alloc _).ext hE0, Reads.of_own ho0⟩)
  clear ho0 hE0
  go_wp2_with (at_builtin; refine wpList_app rfl rfl u8_row rfl (unhide H1).1.own rfl (unhide H1).2.2 (AllOne.u8 _) (by omega) (unhide H1).1.room ?_; intro A2 c2 w2 ho hc hv; have H2 := hide (And.intro ho hc); clear ho hc hv)
  have HI0 := hide (show GB w (w.heap.size + 1) (.slice A2 (0 + l0.length) c2) (0 + l0.length) (l0 ++ encs (ps.take 0)) w2 ∧ Blk w2 w.heap.size 23 (bytesTo 16 []) from
    ⟨by rw [List.take_zero, show encs [] = [] from rfl, List.append_nil]; exact (unhide H1).1.step (Ext.refl _) (unhide H2).2 (unhide H2).1, (unhide H1).1.blk (Ext.refl _) (unhide H2).2 (unhide H1).2.1 (Nat.lt_succ_self _)⟩)
  rw [Nat.zero_add] at HI0
  clear H1 H2
  go_loopw [7, 8] (fun b i wr => ∃ (k n : Nat) (A : Option Addr) (c : Nat), k ≤ ps.length ∧ i = .int .i64 k ∧ b = .slice A n c ∧ n ≤ 90000 + k * 10010 ∧ Hid (GB w (w.heap.size + 1) (.slice A n c) n (l0 ++ encs (ps.take k)) wr ∧ Blk wr w.heap.size 23 (bytesTo 16 []))) (fun _ i _ => ps.length - (intOf i).toNat)
  case atStart => exact ⟨0, _, _, _, Nat.zero_le _, rfl, rfl, by omega, HI0⟩
  case round =>
    clear HI0
    obtain ⟨k, n, A, c, hk, rfl, rfl, hn, HI⟩ := hrel
    by_cases hlt : k < ps.length
    · have hpw : Parts wr (.slice A1 ps.length c1) ps := (unhide HP).ext (unhide HI).1.ext
      obtain ⟨vs, q1, q2, q3⟩ := hpw
      obtain ⟨u, q4, q5⟩ := q3 k ps[k] (List.getElem?_eq_getElem hlt)
      obtain ⟨b, o, c', u', hv, _, _, hb, hu, hcc⟩ := q2.at1 hlt
      cases hv
      rw [q4] at hu
      cases hu
      obtain ⟨Au, cu, rfl⟩ : ∃ A c, u = .slice A ps[k].length c := by obtain ⟨_, A, c, h, _⟩ := q5; exact ⟨A, c, h⟩
      have hpk := unhide HPL ps[k] (List.getElem_mem hlt)
      have HQ5 := hide q5
      have HE := hide (encs_step ps k hlt)
      clear q1 q2 q3 q4 q5
      have hwl := wBytes_length ps[k]
      generalize ps[k] = p at *
      have HW := hide (fun w => rbytes_any (strOf p) w (by rw [strOf_size]; omega))
      rw [strOf_list] at HW
      go_wp2_with (first
        | (refine wpList_strOf (src := 41) (dst := 9) (x := .tmp 23) (l := p) rfl rfl Tryd.underlying41 Tryd.underlying5 Tryd.underlying9 rfl (unhide HQ5) ?_)
        | (go_at_call 63; refine (unhide HW _).mono ?_; rintro e w3 ⟨A3, c3, rfl, ho3, hE3⟩; have H3 := hide (And.intro ho3 hE3); clear ho3 hE3)
        | (at_builtin; refine wpList_app rfl rfl u8_row rfl (ownsRow_ext (unhide HI).1.own (unhide H3).2) rfl (Reads.of_own (unhide H3).1) (AllOne.u8 _) (by omega) (Nat.le_trans (unhide HI).1.room (unhide H3).2.size') ?_; intro A' c4 w4 ho hc hv; have H4 := hide (And.intro ho hc); clear ho hc hv))
      go_roundw
      case rel =>
        refine ⟨k + 1, n + (wBytes p).length, A', c4, by omega, by go_num, rfl, by rw [Nat.succ_mul]; omega, hide ⟨?_, (unhide HI).1.blk (unhide H3).2 (unhide H4).2 (unhide HI).2 (Nat.lt_succ_self _)⟩⟩
        rw [unhide HE, ← List.append_assoc]
        exact (unhide HI).1.step (unhide H3).2 (unhide H4).2 (own_cat (unhide H4).1)
      case measure => simp [intOf]; omega
    · obtain rfl : k = ps.length := by omega
      clear hlt hk
      rw [List.take_length] at HI
      obtain ⟨ll, hll⟩ : ∃ l, l0 ++ encs ps = l := ⟨_, rfl⟩
      rw [hll] at HI
      have HLL := hide hll
      clear hll
      have hn' : n ≤ 1000000 := by omega
      go_wp2_with fail
      refine (rmac_any key ll _ _ _ ((unhide HK).ext (unhide HI).1.ext) (unhide HI).1.readsL (by omega) (by rw [(unhide HI).1.len]; exact hn')).mono ?_
      rintro e w9 ⟨rfl, hE9⟩
      have HSZ := hide (mac_length key ll)
      have H9 := hide (And.intro ((unhide HI).1.ext.trans hE9) ((unhide HI).2.ext hE9))
      clear hE9
      go_wp2_with (refine wpList_storeB (ty := 23) (t := 23) (x := .tmp 6) (y := .tmp 29) rfl rfl digest_wide rfl rfl (unhide H9).2 (bytesTo_size (by simp)) (by simpa using unhide HSZ) (bytes_one _) ?_; intro w10 hb10 hc10 hz10; have H10 := hide (And.intro hb10 hc10); clear hb10 hc10 hz10)
      refine bodyPost_ret (results_blk digest_wide rfl (unhide H10).1 (by simpa using unhide HSZ) rfl) rfl ⟨(by unfold deriveS; rw [unhide HL0, unhide HLL]), ?_⟩
      exact (unhide H9).1.trans' (unhide H10).2 (fun _ _ h => h) (fun i hi e => by omega)

end Go.Proofs.YtjemfefkgfoikaaDoor
