/-
  Several texts in one file: each has its own heading below.
-/
import Derived.Test.YtoefmncdloffaaaDoorSqH
import Derived.Deep.RegionHeld3
import Derived.Test.YtoefmncdloffaaaDoorSqF
import Derived.Great.BuildSlice
import Derived.Deep.RegionLaw
import Derived.Deep.Cut
import Derived.Test.YtoefmncdloffaaaDoorSqE


namespace Go.Proofs.YtoefmncdloffaaaDoor
open Go.RowKit
set_option maxHeartbeats 1000000 in
theorem rmac_any (key b : List UInt8) (kv bv : Value) (w : World) (hk : Reads w 1 kv key.length (key.map u8v)) (hb : Reads w 1 bv b.length (b.map u8v)) (hkl : key.length ≤ 1000000) (hbl : b.length ≤ 1000000) :
    Calls Tryd.prog 110 #[kv, bv] w fun e w' => e = .returned (.agg ((mac key b).map u8v).toArray) ∧ Ext w w' := by
  have HH := hide (rhmac_any key b kv bv _ (hk.ext ((Ext.refl w).alloc (.cells (Array.replicate 16 (.int .u8 0)) 23))) (hb.ext ((Ext.refl w).alloc _)) hkl hbl)
  have HL := hide (mac_length key b)
  clear hk hb
  go_enter Tryd.func110, Tryd.ntmps110
  go_wp2_with fail
  refine (unhide HH).mono ?_
  rintro e w1 ⟨rfl, hE1⟩
  go_wp2_with fail
  refine (rshort_any (hmac key b) _ (hmac_length _ _)).mono ?_
  rintro e w2 ⟨rfl, hE2⟩
  have hB := (Blk.new w 23 (Array.replicate 16 (.int .u8 0))).ext (hE1.trans hE2)
  have HB := hide (And.intro hB (hE1.trans hE2))
  clear hB hE1 hE2
  rw [show (hmac key b).take 16 = mac key b from rfl]
  go_wp2_with (refine wpList_storeB (ty := 23) (t := 23) (x := .tmp 4) (y := .tmp 8) rfl rfl digest_wide rfl rfl (unhide HB).1 (by simp) ?_ (bytes_one _) ?_; (focus (simpa using unhide HL)); intro w3 hb3 hc3 hz3; have H3 := hide (And.intro hb3 hc3); clear hb3 hc3 hz3)
  refine bodyPost_ret (v := .agg ((mac key b).map u8v).toArray) (results_blk digest_wide rfl (unhide H3).1 (by simpa using unhide HL) rfl) rfl ⟨rfl, ?_⟩
  exact (((Ext.refl w).alloc _).trans (unhide HB).2).trans' (unhide H3).2 (fun _ _ h => h) (fun i hi e => by omega)
theorem gb_one (w : World) (o : Obj) (x : UInt8) : GB w (w.heap.size + 1) (.slice (some ⟨w.heap.size + 1, 0, none⟩) 1 1) 1 [x] ((w.alloc o).alloc (.cells #[.int .u8 (x.toNat : Int)] 5)) :=
  ⟨own_one' _ _ _ _ (by simp) (by simp), ((Ext.refl w).alloc _).alloc _, by omega, by simp⟩
theorem gb_empty (w : World) (o : Obj) : GB w (w.heap.size + 1) (.slice (some ⟨w.heap.size + 1, 0, none⟩) 0 0) 0 [] ((w.alloc o).alloc (.cells #[] 5)) :=
  ⟨own_empty' _ _ _ _ (by simp) (by simp), ((Ext.refl w).alloc _).alloc _, by omega, by simp⟩
set_option maxRecDepth 100000 in
set_option maxHeartbeats 2000000 in
theorem rdigest_any (tag : Int) (ps : List (List UInt8)) (pv : Value) (w : World) (hp : Parts w pv ps) (hps : ps.length ≤ 1000) (hpl : ∀ p ∈ ps, p.length ≤ 10000) :
    Calls Tryd.prog 109 #[.int .i64 tag, pv] w fun e w' => e = .returned (.agg ((digestS tag ps).map u8v).toArray) ∧ Ext w w' := by
  have HP := hide hp
  have HPL := hide hpl
  obtain ⟨A1, c1, rfl⟩ : ∃ A c, pv = .slice A ps.length c := by obtain ⟨vs, _, ⟨_, A, c, h, _⟩, _⟩ := hp; exact ⟨A, c, h⟩
  clear hp hpl
  obtain ⟨l0, hl0⟩ : ∃ l, l = [tagByte tag] := ⟨_, rfl⟩
  have HL0 := hide hl0
  have HI0 := hide (show GB w (w.heap.size + 1) (.slice (some ⟨w.heap.size + 1, 0, none⟩) 1 1) 1 (l0 ++ encs (ps.take 0)) ((w.alloc (.cells (bytesTo 16 []) 23)).alloc (.cells #[.int .u8 (tag % 256)] 5)) ∧ Blk ((w.alloc (.cells (bytesTo 16 []) 23)).alloc (.cells #[.int .u8 (tag % 256)] 5)) w.heap.size 23 (bytesTo 16 []) from by
    rw [hl0, tag_wrap, List.take_zero, show encs [] = [] from rfl, List.append_nil]
    exact ⟨gb_one _ _ _, (Blk.new _ _ _).alloc _⟩)
  clear hl0
  go_enter Tryd.func109, Tryd.ntmps109
  go_wp2
  go_loopw [5, 6] (fun b i wr => ∃ (k n : Nat) (A : Option Addr) (c : Nat), k ≤ ps.length ∧ i = .int .i64 k ∧ b = .slice A n c ∧ n ≤ 90000 + k * 10010 ∧ Hid (GB w (w.heap.size + 1) (.slice A n c) n (l0 ++ encs (ps.take k)) wr ∧ Blk wr w.heap.size 23 (bytesTo 16 []))) (fun _ i _ => ps.length - (intOf i).toNat)
  case atStart => exact ⟨0, _, _, _, Nat.zero_le _, rfl, rfl, by omega, HI0⟩
  case round =>
    clear HI0
    obtain ⟨k, n, A, c, hk, rfl, rfl, hn, HI⟩ := hrel
    by_cases hlt : k < ps.length
    · have hpw : Parts wr (.slice A1 ps.length c1) ps := (unhide HP).ext (unhide HI).1.ext
      obtain ⟨vs, q1, q2, q3⟩ := hpw
      obtain ⟨u, q4, q5⟩ := q3 k ps[k] (List.getElem?_eq_getElem hlt)
      obtain ⟨b, o, c', u', hv, _, _, hb, hu, hcc⟩ := q2.at1 hlt
      cases hv
      rw [q4] at hu
      cases hu
      obtain ⟨Au, cu, rfl⟩ : ∃ A c, u = .slice A ps[k].length c := by obtain ⟨_, A, c, h, _⟩ := q5; exact ⟨A, c, h⟩
      have hpk := unhide HPL ps[k] (List.getElem_mem hlt)
      have HQ5 := hide q5
      have HE := hide (encs_step ps k hlt)
      clear q1 q2 q3 q4 q5
      have hwl := wBytes_length ps[k]
      generalize ps[k] = p at *
      have HW := hide (fun w => rbytes_any (strOf p) w (by rw [strOf_size]; omega))
      rw [strOf_list] at HW
      go_wp2_with (first
        | (refine wpList_strOf (src := 29) (dst := 9) (x := .tmp 20) (l := p) rfl rfl Tryd.underlying29 Tryd.underlying5 Tryd.underlying9 rfl (unhide HQ5) ?_)
        | (go_at_call 75; refine (unhide HW _).mono ?_; rintro e w3 ⟨A3, c3, rfl, ho3, hE3⟩; have H3 := hide (And.intro ho3 hE3); clear ho3 hE3)
        | (at_builtin; refine wpList_app rfl rfl u8_row rfl (ownsRow_ext (unhide HI).1.own (unhide H3).2) rfl (Reads.of_own (unhide H3).1) (AllOne.u8 _) (by omega) (Nat.le_trans (unhide HI).1.room (unhide H3).2.size') ?_; intro A' c4 w4 ho hc hv; have H4 := hide (And.intro ho hc); clear ho hc hv))
      go_roundw
      case rel =>
        refine ⟨k + 1, n + (wBytes p).length, A', c4, by omega, by go_num, rfl, by rw [Nat.succ_mul]; omega, hide ⟨?_, (unhide HI).1.blk (unhide H3).2 (unhide H4).2 (unhide HI).2 (Nat.lt_succ_self _)⟩⟩
        rw [unhide HE, ← List.append_assoc]
        exact (unhide HI).1.step (unhide H3).2 (unhide H4).2 (own_cat (unhide H4).1)
      case measure => simp [intOf]; omega
    · obtain rfl : k = ps.length := by omega
      clear hlt hk
      rw [List.take_length] at HI
      obtain ⟨ll, hll⟩ : ∃ l, l0 ++ encs ps = l := ⟨_, rfl⟩
      rw [hll] at HI
      have HLL := hide hll
      clear hll
      have hn' : n ≤ 100000000 := by omega
      go_wp2_with fail
      refine (rsum_any ll _ _ (unhide HI).1.readsL (by rw [(unhide HI).1.len]; exact hn')).mono ?_
      rintro e w8 ⟨rfl, hE8⟩
      have HE8 := hide hE8
      clear hE8
      go_wp2_with fail
      refine (rshort_any (sha ll) _ (sha_length _)).mono ?_
      rintro e w9 ⟨rfl, hE9'⟩
      have hE9 := (unhide HE8).trans hE9'
      clear hE9'
      obtain ⟨rr, hrr⟩ : ∃ r, (sha ll).take 16 = r := ⟨_, rfl⟩
      have hrl : rr.length = 16 := by rw [← hrr, List.length_take, sha_length]; rfl
      rw [hrr]
      have HRR := hide hrr
      clear hrr
      have HSZ := hide hrl
      have H9 := hide (And.intro ((unhide HI).1.ext.trans hE9) ((unhide HI).2.ext hE9))
      clear hE9
      go_wp2_with (refine wpList_storeB (ty := 23) (t := 23) (x := .tmp 4) (y := .tmp 26) rfl rfl digest_wide rfl rfl (unhide H9).2 (bytesTo_size (by simp)) (by simpa using unhide HSZ) (bytes_one _) ?_; intro w10 hb10 hc10 hz10; have H10 := hide (And.intro hb10 hc10); clear hb10 hc10 hz10)
      refine bodyPost_ret (results_blk digest_wide rfl (unhide H10).1 (by simpa using unhide HSZ) rfl) rfl ⟨(by unfold digestS; rw [← unhide HL0, unhide HLL, unhide HRR]), ?_⟩
      exact (unhide H9).1.trans' (unhide H10).2 (fun _ _ h => h) (fun i hi e => by omega)
set_option maxRecDepth 100000 in
set_option maxHeartbeats 2000000 in
theorem rderive_any (key : List UInt8) (kv : Value) (label : ByteArray) (ps : List (List UInt8)) (pv : Value) (w : World) (hk : Reads w 1 kv key.length (key.map u8v)) (hkl : key.length ≤ 10000) (hll : label.size ≤ 10000) (hp : Parts w pv ps) (hps : ps.length ≤ 90) (hpl : ∀ p ∈ ps, p.length ≤ 10000) :
    Calls Tryd.prog 105 #[kv, .string label, pv] w fun e w' => e = .returned (.agg ((deriveS key label.data.toList ps).map u8v).toArray) ∧ Ext w w' := by
  have HP := hide hp
  have HPL := hide hpl
  have HK := hide hk
  obtain ⟨A1, c1, rfl⟩ : ∃ A c, pv = .slice A ps.length c := by obtain ⟨vs, _, ⟨_, A, c, h, _⟩, _⟩ := hp; exact ⟨A, c, h⟩
  clear hp hpl hk
  have hl0l : (wBytes label.data.toList).length ≤ 10 + label.size := wBytes_length label.data.toList
  have HW0 := hide (fun w => rbytes_any label w (by omega))
  obtain ⟨l0, hl0⟩ : ∃ l, wBytes label.data.toList = l := ⟨_, rfl⟩
  rw [hl0] at HW0 hl0l
  have HL0 := hide hl0
  clear hl0
  go_enter Tryd.func105, Tryd.ntmps105
  go_wp2_with fail
  refine (unhide HW0 _).mono ?_
  rintro e w1 ⟨A0, c0, rfl, ho0, hE0⟩
  have H1 := hide (show GB w (w.heap.size + 1) (.slice (some ⟨w.heap.size + 1, 0, none⟩) 0 0) 0 [] w1 ∧ Blk w1 w.heap.size 23 (bytesTo 16 []) ∧ Reads w1 1 (.slice A0 l0.length c0) l0.length (l0.map u8v) from
    ⟨(gb_empty w _).to hE0, ((Blk.new w _ _).alloc _).ext hE0, Reads.of_own ho0⟩)
  clear ho0 hE0
  go_wp2_with (at_builtin; refine wpList_app rfl rfl u8_row rfl (unhide H1).1.own rfl (unhide H1).2.2 (AllOne.u8 _) (by omega) (unhide H1).1.room ?_; intro A2 c2 w2 ho hc hv; have H2 := hide (And.intro ho hc); clear ho hc hv)
  have HI0 := hide (show GB w (w.heap.size + 1) (.slice A2 (0 + l0.length) c2) (0 + l0.length) (l0 ++ encs (ps.take 0)) w2 ∧ Blk w2 w.heap.size 23 (bytesTo 16 []) from
    ⟨by rw [List.take_zero, show encs [] = [] from rfl, List.append_nil]; exact (unhide H1).1.step (Ext.refl _) (unhide H2).2 (unhide H2).1, (unhide H1).1.blk (Ext.refl _) (unhide H2).2 (unhide H1).2.1 (Nat.lt_succ_self _)⟩)
  rw [Nat.zero_add] at HI0
  clear H1 H2
  go_loopw [7, 8] (fun b i wr => ∃ (k n : Nat) (A : Option Addr) (c : Nat), k ≤ ps.length ∧ i = .int .i64 k ∧ b = .slice A n c ∧ n ≤ 90000 + k * 10010 ∧ Hid (GB w (w.heap.size + 1) (.slice A n c) n (l0 ++ encs (ps.take k)) wr ∧ Blk wr w.heap.size 23 (bytesTo 16 []))) (fun _ i _ => ps.length - (intOf i).toNat)
  case atStart => exact ⟨0, _, _, _, Nat.zero_le _, rfl, rfl, by omega, HI0⟩
  case round =>
    clear HI0
    obtain ⟨k, n, A, c, hk, rfl, rfl, hn, HI⟩ := hrel
    by_cases hlt : k < ps.length
    · have hpw : Parts wr (.slice A1 ps.length c1) ps := (unhide HP).ext (unhide HI).1.ext
      obtain ⟨vs, q1, q2, q3⟩ := hpw
      obtain ⟨u, q4, q5⟩ := q3 k ps[k] (List.getElem?_eq_getElem hlt)
      obtain ⟨b, o, c', u', hv, _, _, hb, hu, hcc⟩ := q2.at1 hlt
      cases hv
      rw [q4] at hu
      cases hu
      obtain ⟨Au, cu, rfl⟩ : ∃ A c, u = .slice A ps[k].length c := by obtain ⟨_, A, c, h, _⟩ := q5; exact ⟨A, c, h⟩
      have hpk := unhide HPL ps[k] (List.getElem_mem hlt)
      have HQ5 := hide q5
      have HE := hide (encs_step ps k hlt)
      clear q1 q2 q3 q4 q5
      have hwl := wBytes_length ps[k]
      generalize ps[k] = p at *
      have HW := hide (fun w => rbytes_any (strOf p) w (by rw [strOf_size]; omega))
      rw [strOf_list] at HW
      go_wp2_with (first
        | (refine wpList_strOf (src := 29) (dst := 9) (x := .tmp 23) (l := p) rfl rfl Tryd.underlying29 Tryd.underlying5 Tryd.underlying9 rfl (unhide HQ5) ?_)
        | (go_at_call 75; refine (unhide HW _).mono ?_; rintro e w3 ⟨A3, c3, rfl, ho3, hE3⟩; have H3 := hide (And.intro ho3 hE3); clear ho3 hE3)
        | (at_builtin; refine wpList_app rfl rfl u8_row rfl (ownsRow_ext (unhide HI).1.own (unhide H3).2) rfl (Reads.of_own (unhide H3).1) (AllOne.u8 _) (by omega) (Nat.le_trans (unhide HI).1.room (unhide H3).2.size') ?_; intro A' c4 w4 ho hc hv; have H4 := hide (And.intro ho hc); clear ho hc hv))
      go_roundw
      case rel =>
        refine ⟨k + 1, n + (wBytes p).length, A', c4, by omega, by go_num, rfl, by rw [Nat.succ_mul]; omega, hide ⟨?_, (unhide HI).1.blk (unhide H3).2 (unhide H4).2 (unhide HI).2 (Nat.lt_succ_self _)⟩⟩
        rw [unhide HE, ← List.append_assoc]
        exact (unhide HI).1.step (unhide H3).2 (unhide H4).2 (own_cat (unhide H4).1)
      case measure => simp [intOf]; omega
    · obtain rfl : k = ps.length := by omega
      clear hlt hk
      rw [List.take_length] at HI
      obtain ⟨ll, hll⟩ : ∃ l, l0 ++ encs ps = l := ⟨_, rfl⟩
      rw [hll] at HI
      have HLL := hide hll
      clear hll
      have hn' : n ≤ 1000000 := by omega
      go_wp2_with fail
      refine (rmac_any key ll _ _ _ ((unhide HK).ext (unhide HI).1.ext) (unhide HI).1.readsL (by omega) (by rw [(unhide HI).1.len]; exact hn')).mono ?_
      rintro e w9 ⟨rfl, hE9⟩
      have HSZ := hide (mac_length key ll)
      have H9 := hide (And.intro ((unhide HI).1.ext.trans hE9) ((unhide HI).2.ext hE9))
      clear hE9
      go_wp2_with (refine wpList_storeB (ty := 23) (t := 23) (x := .tmp 6) (y := .tmp 29) rfl rfl digest_wide rfl rfl (unhide H9).2 (bytesTo_size (by simp)) (by simpa using unhide HSZ) (bytes_one _) ?_; intro w10 hb10 hc10 hz10; have H10 := hide (And.intro hb10 hc10); clear hb10 hc10 hz10)
      refine bodyPost_ret (results_blk digest_wide rfl (unhide H10).1 (by simpa using unhide HSZ) rfl) rfl ⟨(by unfold deriveS; rw [unhide HL0, unhide HLL]), ?_⟩
      exact (unhide H9).1.trans' (unhide H10).2 (fun _ _ h => h) (fun i hi e => by omega)
end Go.Proofs.YtoefmncdloffaaaDoor


namespace Go.Proofs.YtoefmncdloffaaaDoor
open Go.RowKit
theorem rangeAt_ext {w w' : World} {g o : Nat} {cs : List Value} (h : w.rangeAt g o cs) (hE : Ext w w') : w'.rangeAt g o cs := fun j v hj => Ext.cellv hE (h j v hj)
theorem wpList_loadMG {P : Program} {ops : Array Oper} {rest : List Oper} {o : Oper} {a : Act} {w : World} {Q : Exit → Act → World → Prop} (hgd : Region.wanted o (yielded ops a.tmps) = true) {ty : TypeId} {x : Operand} (ho : o.op = .load ty x) {n : Nat} (W : Wide P ty n)
    {g off : Nat} (hx : a.eval x = .pointer (some ⟨g, off, none⟩)) {cs : List Value} (hB : w.rangeAt g off cs) (hn : cs.length = n) (h : wpList P ops Q rest (a.put o.dst (.agg cs.toArray)) w) : wpList P ops Q (o :: rest) a w := by
  obtain ⟨d, hu, hd⟩ := W.und
  exact Go.BigFrame.wpList_want hgd fun _ hK => wp_load_mid ty x ho g off hx cs d hB hu hd (by rw [hn]; exact W.info) (hK _ _ h)
end Go.Proofs.YtoefmncdloffaaaDoor


namespace Go.Proofs.YtoefmncdloffaaaDoor
open Go.RowKit
end Go.Proofs.YtoefmncdloffaaaDoor


namespace Go.Proofs.YtoefmncdloffaaaDoor
open Go.RowKit
def dcells (ds : List (List UInt8)) : List Value := ds.flatMap fun d => d.map u8v
def D16 (ds : List (List UInt8)) : Prop := ∀ d ∈ ds, d.length = 16
theorem D16.cons {d : List UInt8} {ds : List (List UInt8)} (h : D16 (d :: ds)) : d.length = 16 ∧ D16 ds := ⟨h d List.mem_cons_self, fun x hx => h x (List.mem_cons_of_mem _ hx)⟩
theorem D16.nil : D16 [] := fun d h => by cases h
theorem D16.append {a b : List (List UInt8)} (h : D16 a) (k : D16 b) : D16 (a ++ b) := fun d hd => (List.mem_append.1 hd).elim (h d) (k d)
theorem D16.one {d : List UInt8} (h : d.length = 16) : D16 [d] := fun x hx => by simp at hx; subst hx; exact h
theorem D16.get {ds : List (List UInt8)} (h : D16 ds) {k : Nat} (hk : k < ds.length) : ds[k].length = 16 := h _ (List.getElem_mem hk)
theorem dcells_append (a b : List (List UInt8)) : dcells (a ++ b) = dcells a ++ dcells b := List.flatMap_append
theorem dcells_one (d : List UInt8) : dcells [d] = d.map u8v := by unfold dcells; simp
theorem dcells_length : ∀ {ds : List (List UInt8)}, D16 ds → (dcells ds).length = ds.length * 16
  | [], _ => rfl
  | d :: ds, h => by
    have := dcells_length h.cons.2
    unfold dcells at this ⊢
    rw [List.flatMap_cons, List.length_append, this, List.length_map, h.cons.1, List.length_cons]
    omega
theorem dcells_at : ∀ {ds : List (List UInt8)}, D16 ds → ∀ (k : Nat) (hk : k < ds.length) (j : Nat), j < 16 → (dcells ds)[k * 16 + j]? = (ds[k].map u8v)[j]?
  | [], _, k, hk, _, _ => by simp at hk
  | d :: ds, h, 0, _, j, hj => by
    unfold dcells
    rw [List.flatMap_cons, List.getElem?_append_left (by rw [List.length_map, h.cons.1]; omega)]
    simp
  | d :: ds, h, k + 1, hk, j, hj => by
    have := dcells_at h.cons.2 k (by simpa using hk) j hj
    unfold dcells at this ⊢
    rw [List.flatMap_cons, List.getElem?_append_right (by rw [List.length_map, h.cons.1]; omega), List.length_map, h.cons.1, show (k + 1) * 16 + j - 16 = k * 16 + j from by omega, this]
    rfl
def Digs (w : World) (v : Value) (ds : List (List UInt8)) : Prop := D16 ds ∧ Reads w 16 v ds.length (dcells ds)
section
variable {w w' : World} {v : Value} {ds : List (List UInt8)}
theorem Digs.ext (h : Digs w v ds) (hE : Ext w w') : Digs w' v ds := ⟨h.1, h.2.ext hE⟩
theorem Digs.nil (w : World) : Digs w (.slice none 0 0) [] := ⟨D16.nil, Reads.nil w 16⟩
theorem Digs.form (h : Digs w v ds) : ∃ A c, v = .slice A ds.length c ∧ ds.length ≤ c ∧ c ≤ maxLen := by
  obtain ⟨_, _, A, c, h, h1, h2, _⟩ := h
  exact ⟨A, c, h, h1, h2⟩
theorem Digs.at (h : Digs w v ds) {k : Nat} (hk : k < ds.length) : ∃ b o c, v = .slice (some ⟨b, o, none⟩) ds.length c ∧ ds.length ≤ c ∧ c ≤ maxLen ∧ b < w.heap.size ∧ w.rangeAt b (o + k * 16) (ds[k].map u8v) := by
  obtain ⟨hd, hl, A, c, rfl, h1, h2, h3⟩ := h
  obtain ⟨b, o, rfl, hc⟩ := h3 (by omega)
  have hlk := hd.get hk
  refine ⟨b, o, c, rfl, h1, h2, ?_, fun j u hu => ?_⟩
  · have e := dcells_at hd k hk 0 (by omega)
    have e2 : (ds[k].map u8v)[0]? = some (u8v (ds[k][0]'(by omega))) := by rw [List.getElem?_map, List.getElem?_eq_getElem (show 0 < ds[k].length by omega)]; rfl
    exact lt_of_cell (hc _ _ (e.trans e2))
  · have hj : j < 16 := by
      rcases Nat.lt_or_ge j 16 with h | h
      · exact h
      · rw [List.getElem?_eq_none (by rw [List.length_map]; omega)] at hu; cases hu
    rw [Nat.add_assoc]
    exact hc _ _ ((dcells_at hd k hk j hj).trans hu)
theorem Digs.sub (h : Digs w v ds) (i m c' : Nat) (hi : i + m ≤ ds.length) (hm : 0 < m) (hc1 : m ≤ c') (hc2 : c' ≤ maxLen) :
    ∃ b o c, v = .slice (some ⟨b, o, none⟩) ds.length c ∧ Digs w (.slice (some ⟨b, o + i * 16, none⟩) m c') ((ds.drop i).take m) := by
  obtain ⟨b, o, c, rfl, h1, h2, hb, _⟩ := h.at (k := i) (by omega)
  obtain ⟨hd, hl, A, c2, e, _, _, h3⟩ := h
  cases e
  obtain ⟨b', o', e, hc⟩ := h3 (by omega)
  cases e
  have hd' : D16 ((ds.drop i).take m) := fun d hx => hd d (List.mem_of_mem_drop (List.mem_of_mem_take hx))
  have hlen : ((ds.drop i).take m).length = m := by simp; omega
  refine ⟨b, o, c, rfl, hd', ?_⟩
  rw [hlen]
  refine ⟨by rw [dcells_length hd', hlen], _, c', rfl, hc1, hc2, fun _ => ⟨b, o + i * 16, rfl, fun j u hu => ?_⟩⟩
  have hj : j < m * 16 := by
    rcases Nat.lt_or_ge j (m * 16) with h | h
    · exact h
    · rw [List.getElem?_eq_none (by rw [dcells_length hd', hlen]; omega)] at hu; cases hu
  have e1 := dcells_at hd' (j / 16) (by rw [hlen]; omega) (j % 16) (by omega)
  have e2 := dcells_at hd (i + j / 16) (by omega) (j % 16) (by omega)
  rw [show j / 16 * 16 + j % 16 = j from by omega, hu] at e1
  have e3 : ((ds.drop i).take m)[j / 16]'(by rw [hlen]; omega) = ds[i + j / 16]'(by omega) := by simp
  rw [e3, ← e2] at e1
  have := hc _ _ e1.symm
  rw [show (o + i * 16 + j) = o + ((i + j / 16) * 16 + j % 16) from by omega]
  exact this
end
section
variable {P : Program}
end
structure GD (w0 : World) (B : Nat) (v : Value) (n : Nat) (ds : List (List UInt8)) (wr : World) : Prop where
  own : wr.ownsRow B 23 16 v n (dcells ds)
  all : D16 ds
  ext : Ext w0 wr
  base : w0.heap.size ≤ B
  room : B ≤ wr.heap.size
theorem GD.nil {w0 wr : World} {B : Nat} (hE : Ext w0 wr) (hB : w0.heap.size ≤ B) (hR : B ≤ wr.heap.size) : GD w0 B (.slice none 0 0) 0 [] wr := ⟨World.ownsRow_nil _ _ _ _, D16.nil, hE, hB, hR⟩
theorem GD.len {w0 wr : World} {B n : Nat} {v : Value} {ds : List (List UInt8)} (h : GD w0 B v n ds wr) : ds.length = n := by have := h.own.1; rw [dcells_length h.all] at this; omega
theorem GD.to {w0 wr w1 : World} {B n : Nat} {v : Value} {ds : List (List UInt8)} (h : GD w0 B v n ds wr) (hE : Ext wr w1) : GD w0 B v n ds w1 := ⟨ownsRow_ext h.own hE, h.all, h.ext.trans hE, h.base, Nat.le_trans h.room hE.size'⟩
theorem GD.step {w0 wr w1 w2 : World} {B n n' : Nat} {v v' : Value} {ds : List (List UInt8)} {d : List UInt8} (hd : d.length = 16) (h : GD w0 B v n ds wr) (hE : Ext wr w1) (hc : Chg (fun k => v.ownBlock = some k) w1 w2) (ho : w2.ownsRow B 23 16 v' n' (dcells ds ++ d.map u8v)) : GD w0 B v' n' (ds ++ [d]) w2 :=
  ⟨by rw [dcells_append, dcells_one]; exact ho, h.all.append (D16.one hd), (h.ext.trans hE).trans' hc (fun _ _ h => h) (fun i hi e => by have := (h.own.lt i e).1; have := h.base; omega), h.base, Nat.le_trans h.room (Nat.le_trans hE.size' hc.size)⟩
theorem GD.form {w0 wr : World} {B n : Nat} {v : Value} {ds : List (List UInt8)} (h : GD w0 B v n ds wr) : ∃ A c, v = .slice A n c := own_slice h.own
end Go.Proofs.YtoefmncdloffaaaDoor


namespace Go.Proofs.YtoefmncdloffaaaDoor
open Go.RowKit
theorem Parts.two {w : World} {pv a b : Value} {la lb : List UInt8} (h : Reads w 1 pv 2 [a, b]) (ha : Reads w 1 a la.length (la.map u8v)) (hb : Reads w 1 b lb.length (lb.map u8v)) : Parts w pv [la, lb] :=
  ⟨[a, b], rfl, h, fun i p hp => by
    match i, hp with
    | 0, hp => cases hp; exact ⟨_, rfl, ha⟩
    | 1, hp => cases hp; exact ⟨_, rfl, hb⟩
    | i + 2, hp => simp at hp⟩
theorem Parts.one {w : World} {pv a : Value} {la : List UInt8} (h : Reads w 1 pv 1 [a]) (ha : Reads w 1 a la.length (la.map u8v)) : Parts w pv [la] :=
  ⟨[a], rfl, h, fun i p hp => by
    match i, hp with
    | 0, hp => cases hp; exact ⟨_, rfl, ha⟩
    | i + 1, hp => simp at hp⟩
theorem Blk.digR {w : World} {g : Nat} {t : TypeId} {d : List UInt8} (h : Blk w g t (d.map u8v).toArray) (hd : d.length = 16) : Reads w 1 (.slice (some ⟨g, 0, none⟩) 16 16) d.length (d.map u8v) := by
  have := Reads.of_blk h (i := 0) (n := 16) (c := 16) (by simp; omega) (by omega) (by unfold maxLen; omega)
  simp only [List.drop_zero] at this
  rw [List.take_of_length_le (by simp; omega)] at this
  rw [hd]
  exact this
theorem Reads.new2 (w : World) (a b : Value) (e : TypeId) {g : Nat} (hg : g = w.heap.size) : Reads (w.alloc (.cells #[a, b] e)) 1 (.slice (some ⟨g, 0, none⟩) 2 2) 2 [a, b] := by
  subst hg
  exact Reads.of_blk (Blk.new w e #[a, b]) (i := 0) (n := 2) (c := 2) (by simp) (by omega) (by unfold maxLen; omega)
theorem ShaMem.lt {w : World} (h : ShaMem w) : 1 < w.heap.size ∧ 0 < w.heap.size := ⟨lt_of_cell (h.k 0 _ rfl), lt_of_cell (h.h 0 _ rfl)⟩
theorem ShaMem.past {w0 w w' : World} {B : Nat} (h0 : ShaMem w0) (hB : w0.heap.size ≤ B) (h : ShaMem w) (hc : Chg (fun k => B ≤ k) w w') : ShaMem w' := h.chg hc (by have := h0.lt; omega) (by have := h0.lt; omega)
theorem mkfun (fn : Fn) (first cap : Array Value) (w : World) : (Instr.makeFunc fn first cap).run Tryd.prog w = .ok (.func fn first cap) w := rfl
theorem Digs.chg {S : Nat → Prop} {w w' : World} {v : Value} {ds : List (List UInt8)} (h : Digs w v ds) (hc : Chg S w w') (hS : ∀ k, v.ownBlock = some k → ¬ S k) : Digs w' v ds := ⟨h.1, h.2.chg hc (fun k _ hk => hS k hk)⟩
theorem Digs.own_lt {w : World} {v : Value} {ds : List (List UInt8)} (h : Digs w v ds) (hn : 0 < ds.length) : ∀ k, v.ownBlock = some k → k < w.heap.size := h.2.own_lt (by omega) hn
theorem Reads.new1' (w : World) (u : Value) (e : TypeId) {g : Nat} (hg : g = w.heap.size) : Reads (w.alloc (.cells #[u] e)) 1 (.slice (some ⟨g, 0, none⟩) 1 1) 1 [u] := by subst hg; exact Reads.new1 w u e
end Go.Proofs.YtoefmncdloffaaaDoor


namespace Go.Proofs.YtoefmncdloffaaaDoor
def splitF : Nat → Nat → Nat → Nat
  | 0, k, _ => k
  | f + 1, k, n => if k < n - k then splitF f (2 * k) n else k
def splitS (n : Nat) : Nat := splitF n 1 n
theorem splitF_bounds : ∀ (f k n : Nat), 0 < k → k < n → 0 < splitF f k n ∧ splitF f k n < n
  | 0, k, n, h1, h2 => ⟨h1, h2⟩
  | f + 1, k, n, h1, h2 => by
    rw [splitF]
    split
    · exact splitF_bounds f (2 * k) n (by omega) (by omega)
    · exact ⟨h1, h2⟩
theorem splitS_bounds (n : Nat) (h : 1 < n) : 0 < splitS n ∧ splitS n < n := splitF_bounds n 1 n (by omega) h
def leafS (d : List UInt8) : List UInt8 := digestS 1 [d]
def nodeS (l r : List UInt8) : List UInt8 := digestS 2 [l, r]
theorem leafS_length (d : List UInt8) : (leafS d).length = 16 := digestS_length _ _
theorem nodeS_length (l r : List UInt8) : (nodeS l r).length = 16 := digestS_length _ _
def rootF : Nat → List (List UInt8) → List UInt8
  | _, [] => digestS 1 []
  | _, [d] => leafS d
  | 0, _ => []
  | f + 1, l => nodeS (rootF f (l.take (splitS l.length))) (rootF f (l.drop (splitS l.length)))
def rootS (l : List (List UInt8)) : List UInt8 := rootF l.length l
theorem rootF_fuel : ∀ (f g : Nat) (l : List (List UInt8)), l.length ≤ f → l.length ≤ g → rootF f l = rootF g l
  | f, g, [], _, _ => by cases f <;> cases g <;> rfl
  | f, g, [d], _, _ => by cases f <;> cases g <;> rfl
  | 0, g, a :: b :: l, h, _ => by simp at h
  | f + 1, 0, a :: b :: l, _, h => by simp at h
  | f + 1, g + 1, a :: b :: l, h1, h2 => by
    have hb := splitS_bounds (a :: b :: l).length (by simp)
    rw [rootF, rootF]
    rw [rootF_fuel f g ((a :: b :: l).take _) (by rw [List.length_take]; omega) (by rw [List.length_take]; omega), rootF_fuel f g ((a :: b :: l).drop _) (by rw [List.length_drop]; omega) (by rw [List.length_drop]; omega)]
    all_goals simp
theorem rootS_two (l : List (List UInt8)) (h : 1 < l.length) : rootS l = nodeS (rootS (l.take (splitS l.length))) (rootS (l.drop (splitS l.length))) := by
  have hb := splitS_bounds l.length h
  match l, h with
  | a :: b :: l, h =>
    unfold rootS
    rw [show (a :: b :: l).length = (b :: l).length + 1 from rfl, rootF]
    rw [rootF_fuel _ _ ((a :: b :: l).take _) (by rw [List.length_take]; simp at hb ⊢; omega) (Nat.le_refl _), rootF_fuel _ _ ((a :: b :: l).drop _) (by rw [List.length_drop]; simp at hb ⊢; omega) (Nat.le_refl _)]
    all_goals simp
end Go.Proofs.YtoefmncdloffaaaDoor


namespace Go.Proofs.YtoefmncdloffaaaDoor
theorem rootS_one (d : List UInt8) : rootS [d] = leafS d := rfl
theorem rootS_length (l : List (List UInt8)) : (rootS l).length = 16 := by
  rcases Nat.lt_or_ge 1 l.length with h | h
  · rw [rootS_two l h]; exact nodeS_length _ _
  · match l with
    | [] => exact digestS_length _ _
    | [d] => exact leafS_length d
    | a :: b :: l => simp at h
end Go.Proofs.YtoefmncdloffaaaDoor


namespace Go.Proofs.YtoefmncdloffaaaDoor
open Go.RowKit
set_option maxRecDepth 100000 in
set_option maxHeartbeats 2000000 in
theorem leaf_any (d : List UInt8) (w : World) (hM : ShaMem w) (hd : d.length = 16) :
    Calls Tryd.prog 139 #[.agg (d.map u8v).toArray] w fun e w' => e = .returned (.agg ((leafS d).map u8v).toArray) ∧ Ext w w' := by
  have HD := hide (fun (W : World) (pv : Value) (hE : Ext w W) (h1 : Reads W 1 pv 1 [.slice (some ⟨w.heap.size, 0, none⟩) 16 16]) (h3 : Blk W w.heap.size 23 (d.map u8v).toArray) =>
    digest_any 1 [d] pv W (hM.ext hE) (Parts.one h1 (h3.digR hd)) (by simp) (fun p hp => by simp at hp; subst hp; omega))
  obtain ⟨arr, harr⟩ : ∃ r, (d.map u8v).toArray = r := ⟨_, rfl⟩
  rw [harr] at HD ⊢
  have HR := hide (And.intro (show digestS 1 [d] = leafS d from rfl) (leafS_length d))
  obtain ⟨res, hres⟩ : ∃ r, leafS d = r := ⟨_, rfl⟩
  rw [hres] at HR ⊢
  clear harr hres hd
  go_enter Tryd.func139, Tryd.ntmps139
  go_wp2_with (first
    | (go_at_call 101; refine (unhide HD _ _ ((((Ext.refl w).alloc _).alloc _).alloc _) (Reads.new1' _ _ _ (g := w.heap.size + 1 + 1) (by simp)) (((Blk.new w _ _).alloc _).alloc _)).mono ?_; rintro e w5 ⟨rfl, hE5⟩; rw [(unhide HR).1]; have H5 := hide (And.intro (((((Ext.refl w).alloc _).alloc _).alloc _).trans hE5) (((Blk.new' (w.alloc (.cells arr 23)) 23 (Array.replicate 16 (.int .u8 0)) (g := w.heap.size + 1) (by simp)).alloc _).ext hE5)); clear hE5)
    | (refine wpList_storeB (ty := 23) (t := 23) (x := .tmp 2) (y := .tmp 5) rfl rfl digest_wide rfl rfl (unhide H5).2 rfl (by simpa using (unhide HR).2) (bytes_one _) ?_; intro w7 hb7 hc7 hz7; have H7 := hide (And.intro hb7 hc7); clear hb7 hc7 hz7))
  refine bodyPost_ret (v := .agg (res.map u8v).toArray) (results_blk digest_wide rfl (unhide H7).1 (by simpa using (unhide HR).2) rfl) rfl ⟨rfl, ?_⟩
  exact (unhide H5).1.trans' (unhide H7).2 (fun _ _ h => h) (fun i hi e => by omega)
set_option maxRecDepth 100000 in
set_option maxHeartbeats 2000000 in
theorem rleaf_any (d : List UInt8) (w : World)  (hd : d.length = 16) :
    Calls Tryd.prog 143 #[.agg (d.map u8v).toArray] w fun e w' => e = .returned (.agg ((leafS d).map u8v).toArray) ∧ Ext w w' := by
  have HD := hide (fun (W : World) (pv : Value) (hE : Ext w W) (h1 : Reads W 1 pv 1 [.slice (some ⟨w.heap.size, 0, none⟩) 16 16]) (h3 : Blk W w.heap.size 23 (d.map u8v).toArray) =>
    rdigest_any 1 [d] pv W  (Parts.one h1 (h3.digR hd)) (by simp) (fun p hp => by simp at hp; subst hp; omega))
  obtain ⟨arr, harr⟩ : ∃ r, (d.map u8v).toArray = r := ⟨_, rfl⟩
  rw [harr] at HD ⊢
  have HR := hide (And.intro (show digestS 1 [d] = leafS d from rfl) (leafS_length d))
  obtain ⟨res, hres⟩ : ∃ r, leafS d = r := ⟨_, rfl⟩
  rw [hres] at HR ⊢
  clear harr hres hd
  go_enter Tryd.func143, Tryd.ntmps143
  go_wp2_with (first
    | (go_at_call 109; refine (unhide HD _ _ ((((Ext.refl w).alloc _).alloc _).alloc _) (Reads.new1' _ _ _ (g := w.heap.size + 1 + 1) (by simp)) (((Blk.new w _ _).alloc _).alloc _)).mono ?_; rintro e w5 ⟨rfl, hE5⟩; rw [(unhide HR).1]; have H5 := hide (And.intro (((((Ext.refl w).alloc _).alloc _).alloc _).trans hE5) (((Blk.new' (w.alloc (.cells arr 23)) 23 (Array.replicate 16 (.int .u8 0)) (g := w.heap.size + 1) (by simp)).alloc _).ext hE5)); clear hE5)
    | (refine wpList_storeB (ty := 23) (t := 23) (x := .tmp 2) (y := .tmp 5) rfl rfl digest_wide rfl rfl (unhide H5).2 rfl (by simpa using (unhide HR).2) (bytes_one _) ?_; intro w7 hb7 hc7 hz7; have H7 := hide (And.intro hb7 hc7); clear hb7 hc7 hz7))
  refine bodyPost_ret (v := .agg (res.map u8v).toArray) (results_blk digest_wide rfl (unhide H7).1 (by simpa using (unhide HR).2) rfl) rfl ⟨rfl, ?_⟩
  exact (unhide H5).1.trans' (unhide H7).2 (fun _ _ h => h) (fun i hi e => by omega)
set_option maxRecDepth 100000 in
set_option maxHeartbeats 2000000 in
theorem node_any (l r : List UInt8) (w : World) (hM : ShaMem w) (hl : l.length = 16) (hr : r.length = 16) :
    Calls Tryd.prog 141 #[.agg (l.map u8v).toArray, .agg (r.map u8v).toArray] w fun e w' => e = .returned (.agg ((nodeS l r).map u8v).toArray) ∧ Ext w w' := by
  have HD := hide (fun (W : World) (pv : Value) (hE : Ext w W) (h1 : Reads W 1 pv 2 [.slice (some ⟨w.heap.size, 0, none⟩) 16 16, .slice (some ⟨w.heap.size + 1, 0, none⟩) 16 16]) (h3 : Blk W w.heap.size 23 (l.map u8v).toArray) (h4 : Blk W (w.heap.size + 1) 23 (r.map u8v).toArray) =>
    digest_any 2 [l, r] pv W (hM.ext hE) (Parts.two h1 (h3.digR hl) (h4.digR hr)) (by simp) (fun p hp => by simp at hp; rcases hp with rfl | rfl <;> omega))
  obtain ⟨la, hla⟩ : ∃ x, (l.map u8v).toArray = x := ⟨_, rfl⟩
  obtain ⟨ra, hra⟩ : ∃ x, (r.map u8v).toArray = x := ⟨_, rfl⟩
  rw [hla, hra] at HD ⊢
  have HR := hide (And.intro (show digestS 2 [l, r] = nodeS l r from rfl) (nodeS_length l r))
  obtain ⟨res, hres⟩ : ∃ x, nodeS l r = x := ⟨_, rfl⟩
  rw [hres] at HR ⊢
  clear hla hra hres hl hr
  go_enter Tryd.func141, Tryd.ntmps141
  go_upto_region 1 with fail
  refine wp_region_held_drew (S := fun _ => True) (by kernel_rfl) trivial (fun hHeld => ?_)
  refine wpAnyH_take (i := 0) (oi := _) (v := ?_) rfl (by kernel_rfl) (by kernel_rfl) (by kernel_rfl) (fun _ _ _ h => h) (Or.inl ⟨by rfl, fun wz hSz => ?_⟩) (by assumption) ?_
  rotate_left
  · (first | (go_simp; done) | (go_simp; with_reducible rfl))
  try simp only [Act.put, List.setIfInBounds_toArray, List.set_cons_zero, List.set_cons_succ, List.getElem_toArray, List.getElem_cons_zero]
  refine wpAnyH_take (i := 1) (oi := _) (v := ?_) rfl (by kernel_rfl) (by kernel_rfl) (by kernel_rfl) (fun _ _ _ h => h) (Or.inl ⟨by rfl, fun wz hSz => ?_⟩) (by assumption) ?_
  rotate_left
  · (first | (go_simp; done) | (go_simp; with_reducible rfl))
  try simp only [Act.put, List.setIfInBounds_toArray, List.set_cons_zero, List.set_cons_succ, List.getElem_toArray, List.getElem_cons_succ, List.getElem_cons_zero]
  refine wpAnyH_ready (rs := [2]) (by kernel_rfl) (by simp) (AllReadyH.cons (o := _) rfl (fun K hK => ?_) AllReadyH.nil)
  try go_simp
  (have hS : True := trivial; clear hHeld)
  refine hK.out _ _ ?_ (fun hHeld => ?_)
  · exact hS
  clear hK K
  try simp only [Act.put, List.setIfInBounds_toArray, List.set_cons_zero, List.set_cons_succ, List.getElem_toArray, List.getElem_cons_succ, List.getElem_cons_zero]
  refine wpAnyH_ready (rs := [3]) (by kernel_rfl) (by simp) (AllReadyH.cons (o := _) rfl (fun K hK => ?_) AllReadyH.nil)
  try go_simp
  (refine (unhide HD _ _ (((((Ext.refl w).alloc _).alloc _).alloc _).alloc _).drew ((Reads.new2 _ _ _ _ (g := w.heap.size + 1 + 1 + 1) (by simp)).ext (Ext.refl _).drew) (((((Blk.new w _ _).alloc _).alloc _).alloc _).drew) ((((Blk.new' _ _ _ (by simp)).alloc _).alloc _).drew)).mono ?_; rintro e w3 ⟨rfl, hE3⟩; rw [(unhide HR).1]; have H3 := hide (And.intro ((((((Ext.refl w).alloc _).alloc _).alloc _).alloc _).drew.trans hE3) ((((Blk.new' ((w.alloc (.cells la 23)).alloc (.cells ra 23)) 23 (Array.replicate 16 (.int .u8 0)) (g := w.heap.size + 1 + 1) (by simp)).alloc _).drew).ext hE3)); have hS : True := trivial; clear hHeld hE3)
  refine hK.out _ _ ?_ (fun hHeld => ?_)
  · exact hS
  clear hK K
  try simp only [Act.put, List.setIfInBounds_toArray, List.set_cons_zero, List.set_cons_succ, List.getElem_toArray, List.getElem_cons_succ, List.getElem_cons_zero]
  refine wpAnyH_ready (rs := [4]) (by kernel_rfl) (by simp) (AllReadyH.cons (o := _) rfl (fun K hK => ?_) AllReadyH.nil)
  (refine step_storeB (ty := 23) (t := 23) (x := .tmp 4) (y := .tmp 8) rfl rfl digest_wide rfl rfl (unhide H3).2 rfl (by simpa using (unhide HR).2) (bytes_one _) ?_; intro w7 hb7 hc7 hz7; have H7 := hide (And.intro hb7 (Chg.trans' (unhide H3).1 hc7 (fun _ _ h => h) (fun i hi e => by omega))); have hS : True := trivial; clear hHeld hb7 hc7 hz7)
  refine hK.out _ _ ?_ (fun hHeld => ?_)
  · exact hS
  clear hK K
  try simp only [Act.put, List.getElem_toArray, List.getElem_cons_succ, List.getElem_cons_zero]
  refine wpAnyH_done (by kernel_rfl) ?_ _
  go_wp2
  refine bodyPost_ret (v := .agg (res.map u8v).toArray) (results_blk digest_wide rfl (unhide H7).1 (by simpa using (unhide HR).2) rfl) rfl ⟨rfl, ?_⟩
  exact (unhide H7).2
set_option maxRecDepth 100000 in
set_option maxHeartbeats 2000000 in
theorem rnode_any (l r : List UInt8) (w : World)  (hl : l.length = 16) (hr : r.length = 16) :
    Calls Tryd.prog 145 #[.agg (l.map u8v).toArray, .agg (r.map u8v).toArray] w fun e w' => e = .returned (.agg ((nodeS l r).map u8v).toArray) ∧ Ext w w' := by
  have HD := hide (fun (W : World) (pv : Value) (hE : Ext w W) (h1 : Reads W 1 pv 2 [.slice (some ⟨w.heap.size, 0, none⟩) 16 16, .slice (some ⟨w.heap.size + 1, 0, none⟩) 16 16]) (h3 : Blk W w.heap.size 23 (l.map u8v).toArray) (h4 : Blk W (w.heap.size + 1) 23 (r.map u8v).toArray) =>
    rdigest_any 2 [l, r] pv W  (Parts.two h1 (h3.digR hl) (h4.digR hr)) (by simp) (fun p hp => by simp at hp; rcases hp with rfl | rfl <;> omega))
  obtain ⟨la, hla⟩ : ∃ x, (l.map u8v).toArray = x := ⟨_, rfl⟩
  obtain ⟨ra, hra⟩ : ∃ x, (r.map u8v).toArray = x := ⟨_, rfl⟩
  rw [hla, hra] at HD ⊢
  have HR := hide (And.intro (show digestS 2 [l, r] = nodeS l r from rfl) (nodeS_length l r))
  obtain ⟨res, hres⟩ : ∃ x, nodeS l r = x := ⟨_, rfl⟩
  rw [hres] at HR ⊢
  clear hla hra hres hl hr
  go_enter Tryd.func145, Tryd.ntmps145
  go_upto_region 1 with fail
  refine wp_region_held_drew (S := fun _ => True) (by kernel_rfl) trivial (fun hHeld => ?_)
  refine wpAnyH_take (i := 0) (oi := _) (v := ?_) rfl (by kernel_rfl) (by kernel_rfl) (by kernel_rfl) (fun _ _ _ h => h) (Or.inl ⟨by rfl, fun wz hSz => ?_⟩) (by assumption) ?_
  rotate_left
  · (first | (go_simp; done) | (go_simp; with_reducible rfl))
  try simp only [Act.put, List.setIfInBounds_toArray, List.set_cons_zero, List.set_cons_succ, List.getElem_toArray, List.getElem_cons_zero]
  refine wpAnyH_take (i := 1) (oi := _) (v := ?_) rfl (by kernel_rfl) (by kernel_rfl) (by kernel_rfl) (fun _ _ _ h => h) (Or.inl ⟨by rfl, fun wz hSz => ?_⟩) (by assumption) ?_
  rotate_left
  · (first | (go_simp; done) | (go_simp; with_reducible rfl))
  try simp only [Act.put, List.setIfInBounds_toArray, List.set_cons_zero, List.set_cons_succ, List.getElem_toArray, List.getElem_cons_succ, List.getElem_cons_zero]
  refine wpAnyH_ready (rs := [2]) (by kernel_rfl) (by simp) (AllReadyH.cons (o := _) rfl (fun K hK => ?_) AllReadyH.nil)
  try go_simp
  (have hS : True := trivial; clear hHeld)
  refine hK.out _ _ ?_ (fun hHeld => ?_)
  · exact hS
  clear hK K
  try simp only [Act.put, List.setIfInBounds_toArray, List.set_cons_zero, List.set_cons_succ, List.getElem_toArray, List.getElem_cons_succ, List.getElem_cons_zero]
  refine wpAnyH_ready (rs := [3]) (by kernel_rfl) (by simp) (AllReadyH.cons (o := _) rfl (fun K hK => ?_) AllReadyH.nil)
  try go_simp
  (refine (unhide HD _ _ (((((Ext.refl w).alloc _).alloc _).alloc _).alloc _).drew ((Reads.new2 _ _ _ _ (g := w.heap.size + 1 + 1 + 1) (by simp)).ext (Ext.refl _).drew) (((((Blk.new w _ _).alloc _).alloc _).alloc _).drew) ((((Blk.new' _ _ _ (by simp)).alloc _).alloc _).drew)).mono ?_; rintro e w3 ⟨rfl, hE3⟩; rw [(unhide HR).1]; have H3 := hide (And.intro ((((((Ext.refl w).alloc _).alloc _).alloc _).alloc _).drew.trans hE3) ((((Blk.new' ((w.alloc (.cells la 23)).alloc (.cells ra 23)) 23 (Array.replicate 16 (.int .u8 0)) (g := w.heap.size + 1 + 1) (by simp)).alloc _).drew).ext hE3)); have hS : True := trivial; clear hHeld hE3)
  refine hK.out _ _ ?_ (fun hHeld => ?_)
  · exact hS
  clear hK K
  try simp only [Act.put, List.setIfInBounds_toArray, List.set_cons_zero, List.set_cons_succ, List.getElem_toArray, List.getElem_cons_succ, List.getElem_cons_zero]
  refine wpAnyH_ready (rs := [4]) (by kernel_rfl) (by simp) (AllReadyH.cons (o := _) rfl (fun K hK => ?_) AllReadyH.nil)
  (refine step_storeB (ty := 23) (t := 23) (x := .tmp 4) (y := .tmp 8) rfl rfl digest_wide rfl rfl (unhide H3).2 rfl (by simpa using (unhide HR).2) (bytes_one _) ?_; intro w7 hb7 hc7 hz7; have H7 := hide (And.intro hb7 (Chg.trans' (unhide H3).1 hc7 (fun _ _ h => h) (fun i hi e => by omega))); have hS : True := trivial; clear hHeld hb7 hc7 hz7)
  refine hK.out _ _ ?_ (fun hHeld => ?_)
  · exact hS
  clear hK K
  try simp only [Act.put, List.getElem_toArray, List.getElem_cons_succ, List.getElem_cons_zero]
  refine wpAnyH_done (by kernel_rfl) ?_ _
  go_wp2
  refine bodyPost_ret (v := .agg (res.map u8v).toArray) (results_blk digest_wide rfl (unhide H7).1 (by simpa using (unhide HR).2) rfl) rfl ⟨rfl, ?_⟩
  exact (unhide H7).2
theorem split_exit (f k n : Nat) (h : ¬ k < n - k) : splitF f k n = k := by
  cases f with
  | zero => rfl
  | succ f => rw [splitF, if_neg h]
theorem split_step (f k n : Nat) (h : k < n - k) (hk : 0 < k) (hf : n ≤ f + k) : ∃ g, n ≤ g + 2 * k ∧ splitF g (2 * k) n = splitF f k n := by
  cases f with
  | zero => omega
  | succ f => exact ⟨f, by omega, by rw [splitF, if_pos h]⟩
set_option maxHeartbeats 1000000 in
theorem split_any (n : Nat) (w : World) (h1 : 1 < n) (h2 : n ≤ 1000000) : Calls Tryd.prog 140 #[.int .i64 (n : Int)] w fun e w' => e = .returned (.int .i64 ((splitS n : Nat) : Int)) ∧ w = w' := by
  have HB := hide (show splitF n 1 n = splitS n from rfl)
  go_enter Tryd.func140, Tryd.ntmps140
  go_wp2
  go_loop [3] (fun x => ∃ k : Nat, 0 < k ∧ k < n ∧ x = .int .i64 k ∧ Hid (∃ f, n ≤ f + k ∧ splitF f k n = splitS n)) (fun x => n - (intOf x).toNat)
  case atStart => exact ⟨1, by omega, h1, rfl, hide ⟨n, by omega, unhide HB⟩⟩
  case round =>
    obtain ⟨k, hk0, hk, rfl, HF⟩ := hrel
    by_cases hlt : k < n - k
    · have hltI : (k : Int) < (n : Int) - k := by omega
      go_wp2
      go_round
      case rel =>
        obtain ⟨f, hf, he⟩ := unhide HF
        obtain ⟨g, hg, hge⟩ := split_step f k n hlt hk0 hf
        exact ⟨2 * k, by omega, by omega, by go_num, hide ⟨g, hg, hge.trans he⟩⟩
      case measure => simp [intOf]; omega
    · have hltI : ¬ (k : Int) < (n : Int) - k := by omega
      go_wp2
      go_ret
      obtain ⟨f, hf, he⟩ := unhide HF
      rw [split_exit f k n hlt] at he
      exact ⟨ret_int (by omega), rfl⟩
set_option maxHeartbeats 1000000 in
theorem rsplit_any (n : Nat) (w : World) (h1 : 1 < n) (h2 : n ≤ 1000000) : Calls Tryd.prog 144 #[.int .i64 (n : Int)] w fun e w' => e = .returned (.int .i64 ((splitS n : Nat) : Int)) ∧ w = w' := by
  have HB := hide (show splitF n 1 n = splitS n from rfl)
  go_enter Tryd.func144, Tryd.ntmps144
  go_wp2
  go_loop [3] (fun x => ∃ k : Nat, 0 < k ∧ k < n ∧ x = .int .i64 k ∧ Hid (∃ f, n ≤ f + k ∧ splitF f k n = splitS n)) (fun x => n - (intOf x).toNat)
  case atStart => exact ⟨1, by omega, h1, rfl, hide ⟨n, by omega, unhide HB⟩⟩
  case round =>
    obtain ⟨k, hk0, hk, rfl, HF⟩ := hrel
    by_cases hlt : k < n - k
    · have hltI : (k : Int) < (n : Int) - k := by omega
      go_wp2
      go_round
      case rel =>
        obtain ⟨f, hf, he⟩ := unhide HF
        obtain ⟨g, hg, hge⟩ := split_step f k n hlt hk0 hf
        exact ⟨2 * k, by omega, by omega, by go_num, hide ⟨g, hg, hge.trans he⟩⟩
      case measure => simp [intOf]; omega
    · have hltI : ¬ (k : Int) < (n : Int) - k := by omega
      go_wp2
      go_ret
      obtain ⟨f, hf, he⟩ := unhide HF
      rw [split_exit f k n hlt] at he
      exact ⟨ret_int (by omega), rfl⟩
end Go.Proofs.YtoefmncdloffaaaDoor


namespace Go.Proofs.YtoefmncdloffaaaDoor
open Go.RowKit
theorem take_eq (l : List (List UInt8)) (k : Nat) : (l.drop 0).take k = l.take k := by rw [List.drop_zero]
theorem drop_eq (l : List (List UInt8)) (k : Nat) : (l.drop k).take (l.length - k) = l.drop k := by rw [List.take_of_length_le (by rw [List.length_drop]; omega)]
theorem Digs.one {w : World} {v : Value} {d : List UInt8} (h : Digs w v [d]) : ∃ b o c, v = .slice (some ⟨b, o, none⟩) 1 c ∧ b < w.heap.size ∧ w.rangeAt b o (d.map u8v) := by
  obtain ⟨b, o, c, h1, _, _, h2, h3⟩ := h.at (k := 0) (by simp)
  exact ⟨b, o, c, h1, h2, by simpa using h3⟩
theorem Digs.parts {w : World} {v : Value} {ds : List (List UInt8)} (h : Digs w v ds) (hn : 1 < ds.length) {k : Nat} (h1 : 0 < k) (h2 : k < ds.length) : ∃ b o c, v = .slice (some ⟨b, o, none⟩) ds.length c ∧ ds.length ≤ c ∧ c ≤ maxLen ∧ b < w.heap.size ∧
    (∀ c', k ≤ c' → c' ≤ maxLen → Digs w (.slice (some ⟨b, o, none⟩) k c') (ds.take k)) ∧ (∀ c', ds.length - k ≤ c' → c' ≤ maxLen → Digs w (.slice (some ⟨b, o + k * 16, none⟩) (ds.length - k) c') (ds.drop k)) := by
  obtain ⟨b, o, c, rfl, hc1, hc2, hb, _⟩ := h.at (k := 0) (by omega)
  refine ⟨b, o, c, rfl, hc1, hc2, hb, fun c' h3 h4 => ?_, fun c' h3 h4 => ?_⟩
  · obtain ⟨b', o', c2, e, hD⟩ := h.sub 0 k c' (by omega) h1 h3 h4
    cases e
    rw [take_eq, Nat.zero_mul, Nat.add_zero] at hD
    exact hD
  · obtain ⟨b', o', c2, e, hD⟩ := h.sub k (ds.length - k) c' (by omega) (by omega) h3 h4
    cases e
    rw [drop_eq] at hD
    exact hD
set_option maxRecDepth 100000 in
set_option maxHeartbeats 4000000 in
theorem root_any (N : Nat) : ∀ (ds : List (List UInt8)) (v : Value) (w : World), ShaMem w → ds.length ≤ N → ds.length ≤ 100000 → Digs w v ds →
    Calls Tryd.prog 102 #[v] w fun e w' => e = .returned (.agg ((rootS ds).map u8v).toArray) ∧ Ext w w' := by
  induction N with
  | zero =>
    intro ds v w hM hN _ hD
    obtain rfl : ds = [] := List.eq_nil_of_length_eq_zero (by omega)
    obtain ⟨A, c, rfl, _, _⟩ := hD.form
    have HG := hide (fun (W : World) (hE : Ext w W) => digest_any 1 [] (.slice none 0 0) W (hM.ext hE) (Parts.nil W) (by simp) (fun p hp => by cases hp))
    have HR := hide (And.intro (show digestS 1 [] = rootS [] from rfl) (rootS_length []))
    obtain ⟨res, hres⟩ : ∃ x, rootS [] = x := ⟨_, rfl⟩
    rw [hres] at HR ⊢
    clear hres hD
    go_enter Tryd.func102, Tryd.ntmps102
    go_wp2_with (first
      | (go_at_call 101; refine (unhide HG _ ((Ext.refl w).alloc _)).mono ?_; rintro e w5 ⟨rfl, hE5⟩; rw [(unhide HR).1]; have H5 := hide (And.intro (((Ext.refl w).alloc _).trans hE5) ((Blk.new w 23 (Array.replicate 16 (.int .u8 0))).ext hE5)); clear hE5)
      | (refine wpList_storeB (ty := 23) (t := 23) (x := .tmp 2) (y := .tmp 24) rfl rfl digest_wide rfl rfl (unhide H5).2 rfl (by simpa using (unhide HR).2) (bytes_one _) ?_; intro w7 hb7 hc7 hz7; have H7 := hide (And.intro hb7 hc7); clear hb7 hc7 hz7))
    refine bodyPost_ret (v := .agg (res.map u8v).toArray) (results_blk digest_wide rfl (unhide H7).1 (by simpa using (unhide HR).2) rfl) rfl ⟨rfl, ?_⟩
    exact (unhide H5).1.trans' (unhide H7).2 (fun _ _ h => h) (fun i hi e => by omega)
  | succ N ih =>
    intro ds v w hM hN h5 hD
    rcases (by omega : ds.length = 0 ∨ ds.length = 1 ∨ 1 < ds.length) with h | h | h
    · obtain rfl : ds = [] := List.eq_nil_of_length_eq_zero h
      obtain ⟨A, c, rfl, _, _⟩ := hD.form
      have HG := hide (fun (W : World) (hE : Ext w W) => digest_any 1 [] (.slice none 0 0) W (hM.ext hE) (Parts.nil W) (by simp) (fun p hp => by cases hp))
      have HR := hide (And.intro (show digestS 1 [] = rootS [] from rfl) (rootS_length []))
      obtain ⟨res, hres⟩ : ∃ x, rootS [] = x := ⟨_, rfl⟩
      rw [hres] at HR ⊢
      clear hres hD ih
      go_enter Tryd.func102, Tryd.ntmps102
      go_wp2_with (first
        | (go_at_call 101; refine (unhide HG _ ((Ext.refl w).alloc _)).mono ?_; rintro e w5 ⟨rfl, hE5⟩; rw [(unhide HR).1]; have H5 := hide (And.intro (((Ext.refl w).alloc _).trans hE5) ((Blk.new w 23 (Array.replicate 16 (.int .u8 0))).ext hE5)); clear hE5)
        | (refine wpList_storeB (ty := 23) (t := 23) (x := .tmp 2) (y := .tmp 24) rfl rfl digest_wide rfl rfl (unhide H5).2 rfl (by simpa using (unhide HR).2) (bytes_one _) ?_; intro w7 hb7 hc7 hz7; have H7 := hide (And.intro hb7 hc7); clear hb7 hc7 hz7))
      refine bodyPost_ret (v := .agg (res.map u8v).toArray) (results_blk digest_wide rfl (unhide H7).1 (by simpa using (unhide HR).2) rfl) rfl ⟨rfl, ?_⟩
      exact (unhide H5).1.trans' (unhide H7).2 (fun _ _ h => h) (fun i hi e => by omega)
    · obtain ⟨d, rfl⟩ : ∃ d, ds = [d] := by
        match ds, h with
        | [d], _ => exact ⟨d, rfl⟩
      have hd : d.length = 16 := hD.1 d (by simp)
      obtain ⟨b, o, c, rfl, hb, hR⟩ := hD.one
      have HG := hide (fun (W : World) (hE : Ext w W) => leaf_any d W (hM.ext hE) hd)
      have HR := hide (And.intro (rootS_one d) (rootS_length [d]))
      obtain ⟨res, hres⟩ : ∃ x, rootS [d] = x := ⟨_, rfl⟩
      rw [hres] at HR ⊢
      obtain ⟨cs, hcs⟩ : ∃ x, d.map u8v = x := ⟨_, rfl⟩
      have hcl : cs.length = 16 := by rw [← hcs]; simpa using hd
      rw [hcs] at HG hR
      have HA := hide (rangeAt_ext hR ((Ext.refl w).alloc (.cells (Array.replicate 16 (.int .u8 0)) 23)))
      clear hres hD ih hcs hR
      go_enter Tryd.func102, Tryd.ntmps102
      go_wp2_with (first
        | (refine wpList_loadMG (by rfl) (ty := 23) (x := .tmp 28) rfl digest_wide rfl (unhide HA) hcl ?_)
        | (go_at_call 139; refine (unhide HG _ ((Ext.refl w).alloc _)).mono ?_; rintro e w5 ⟨rfl, hE5⟩; rw [← (unhide HR).1]; have H5 := hide (And.intro (((Ext.refl w).alloc _).trans hE5) ((Blk.new w 23 (Array.replicate 16 (.int .u8 0))).ext hE5)); clear hE5)
        | (refine wpList_storeB (ty := 23) (t := 23) (x := .tmp 2) (y := .tmp 30) rfl rfl digest_wide rfl rfl (unhide H5).2 rfl (by simpa using (unhide HR).2) (bytes_one _) ?_; intro w7 hb7 hc7 hz7; have H7 := hide (And.intro hb7 hc7); clear hb7 hc7 hz7))
      refine bodyPost_ret (v := .agg (res.map u8v).toArray) (results_blk digest_wide rfl (unhide H7).1 (by simpa using (unhide HR).2) rfl) rfl ⟨rfl, ?_⟩
      exact (unhide H5).1.trans' (unhide H7).2 (fun _ _ h => h) (fun i hi e => by omega)
    · have hb := splitS_bounds ds.length h
      have HSp := hide (fun W => split_any ds.length W h (by omega))
      obtain ⟨b, o, c, rfl, hc1, hc2, hbl, hL, hRt⟩ := hD.parts h hb.1 hb.2
      have e16 : 16 = 16 := rfl
      have hll : (ds.take (splitS ds.length)).length = splitS ds.length := by rw [List.length_take]; omega
      have hrl : (ds.drop (splitS ds.length)).length = ds.length - splitS ds.length := by rw [List.length_drop]
      have HA := hide (fun (W : World) (hE : Ext w W) => ih (ds.take (splitS ds.length)) (.slice (some ⟨b, o, none⟩) (splitS ds.length) (splitS ds.length)) W (hM.ext hE) (by omega) (by omega) ((hL (splitS ds.length) (by omega) (by omega)).ext hE))
      have HB := hide (fun (W : World) (hE : Ext w W) => ih (ds.drop (splitS ds.length)) (.slice (some ⟨b, o + splitS ds.length * 16, none⟩) (ds.length - splitS ds.length) (ds.length - splitS ds.length)) W (hM.ext hE) (by omega) (by omega) ((hRt (ds.length - splitS ds.length) (by omega) (by omega)).ext hE))
      have HN := hide (fun (W : World) (hE : Ext w W) => node_any (rootS (ds.take (splitS ds.length))) (rootS (ds.drop (splitS ds.length))) W (hM.ext hE) (rootS_length _) (rootS_length _))
      have HR := hide (And.intro (rootS_two ds h) (rootS_length ds))
      obtain ⟨res, hres⟩ : ∃ x, rootS ds = x := ⟨_, rfl⟩
      rw [hres] at HR ⊢
      generalize splitS ds.length = k at *
      generalize rootS (ds.take k) = ra at *
      generalize rootS (ds.drop k) = rb at *
      generalize ds.length = n at *
      unfold maxLen at hc2
      have hk1 : k ≤ n := by omega
      have hk2 : k ≤ c := by omega
      have hk3 : ¬ n = k := by omega
      have hk4 : ¬ c = k := by omega
      clear hres hD ih hL hRt hll hrl
      go_enter Tryd.func102, Tryd.ntmps102
      go_upto_region 4 with (go_at_call 140; refine (unhide HSp _).mono ?_; rintro e w1 ⟨rfl, rfl⟩)
      refine wp_region_held_drew (S := fun _ => True) (by kernel_rfl) trivial (fun hHeld => ?_)
      refine wpAnyH_take (i := 0) (oi := _) (v := ?_) rfl (by kernel_rfl) (by kernel_rfl) (by kernel_rfl) (fun _ _ _ h => h) (Or.inl ⟨by rfl, fun wz hSz => ?_⟩) (by assumption) ?_
      rotate_left
      · (first | (go_simp; done) | (go_simp; with_reducible rfl))
      try simp only [Act.put, List.setIfInBounds_toArray, List.set_cons_zero, List.set_cons_succ, List.getElem_toArray, List.getElem_cons_zero]
      refine wpAnyH_take (i := 1) (oi := _) (v := ?_) rfl (by kernel_rfl) (by kernel_rfl) (by kernel_rfl) (fun _ _ _ h => h) (Or.inl ⟨by rfl, fun wz hSz => ?_⟩) (by assumption) ?_
      rotate_left
      · (first | (go_simp; done) | (go_simp; with_reducible rfl))
      try simp only [Act.put, List.setIfInBounds_toArray, List.set_cons_zero, List.set_cons_succ, List.getElem_toArray, List.getElem_cons_succ, List.getElem_cons_zero]
      refine wpAnyH_take (i := 2) (oi := _) (v := ?_) rfl (by kernel_rfl) (by kernel_rfl) (by kernel_rfl) (fun _ _ _ h => h) (Or.inl ⟨by rfl, fun wz hSz => ?_⟩) (by assumption) ?_
      rotate_left
      · (first | (go_simp; done) | (go_simp; with_reducible rfl))
      try simp only [Act.put, List.setIfInBounds_toArray, List.set_cons_zero, List.set_cons_succ, List.getElem_toArray, List.getElem_cons_succ, List.getElem_cons_zero]
      refine wpAnyH_take (i := 3) (oi := _) (v := ?_) rfl (by kernel_rfl) (by kernel_rfl) (by kernel_rfl) (fun _ _ _ h => h) (Or.inl ⟨by rfl, fun wz hSz => ?_⟩) (by assumption) ?_
      rotate_left
      · (first | (go_simp; done) | (go_simp; with_reducible rfl))
      try simp only [Act.put, List.setIfInBounds_toArray, List.set_cons_zero, List.set_cons_succ, List.getElem_toArray, List.getElem_cons_succ, List.getElem_cons_zero]
      refine wpAnyH_take (i := 5) (oi := _) (v := ?_) rfl (by kernel_rfl) (by kernel_rfl) (by kernel_rfl) (fun _ _ _ h => h) (Or.inl ⟨by rfl, fun wz hSz => ?_⟩) (by assumption) ?_
      rotate_left
      · (first | (go_simp; done) | (go_simp; with_reducible rfl))
      try simp only [Act.put, List.setIfInBounds_toArray, List.set_cons_zero, List.set_cons_succ, List.getElem_toArray, List.getElem_cons_succ, List.getElem_cons_zero]
      refine wpAnyH_take (i := 6) (oi := _) (v := ?_) rfl (by kernel_rfl) (by kernel_rfl) (by kernel_rfl) (fun _ _ _ h => h) (Or.inl ⟨by rfl, fun wz hSz => ?_⟩) (by assumption) ?_
      rotate_left
      · (first | (go_simp; done) | (go_simp; with_reducible rfl))
      try simp only [Act.put, List.setIfInBounds_toArray, List.set_cons_zero, List.set_cons_succ, List.getElem_toArray, List.getElem_cons_succ, List.getElem_cons_zero]
      refine wpAnyH_take (i := 7) (oi := _) (v := ?_) rfl (by kernel_rfl) (by kernel_rfl) (by kernel_rfl) (fun _ _ _ h => h) (Or.inl ⟨by rfl, fun wz hSz => ?_⟩) (by assumption) ?_
      rotate_left
      · (first | (go_simp; done) | (go_simp; with_reducible rfl))
      try simp only [Act.put, List.setIfInBounds_toArray, List.set_cons_zero, List.set_cons_succ, List.getElem_toArray, List.getElem_cons_succ, List.getElem_cons_zero]
      refine wpAnyH_take (i := 8) (oi := _) (v := ?_) rfl (by kernel_rfl) (by kernel_rfl) (by kernel_rfl) (fun _ _ _ h => h) (Or.inl ⟨by rfl, fun wz hSz => ?_⟩) (by assumption) ?_
      rotate_left
      · (first | (go_simp; done) | (go_simp; with_reducible rfl))
      try simp only [Act.put, List.setIfInBounds_toArray, List.set_cons_zero, List.set_cons_succ, List.getElem_toArray, List.getElem_cons_succ, List.getElem_cons_zero]
      refine wpAnyH_take (i := 9) (oi := _) (v := ?_) rfl (by kernel_rfl) (by kernel_rfl) (by kernel_rfl) (fun _ _ _ h => h) (Or.inl ⟨by rfl, fun wz hSz => ?_⟩) (by assumption) ?_
      rotate_left
      · (first | (go_simp; done) | (go_simp; with_reducible rfl))
      try simp only [Act.put, List.setIfInBounds_toArray, List.set_cons_zero, List.set_cons_succ, List.getElem_toArray, List.getElem_cons_succ, List.getElem_cons_zero]
      refine wpAnyH_ready (rs := [4]) (by kernel_rfl) (by simp) (AllReadyH.cons (o := _) rfl (fun K hK => ?_) AllReadyH.nil)
      try go_simp
      (refine (unhide HA _ (((Ext.refl w).alloc _).drew)).mono ?_; rintro e w3 ⟨rfl, hE3⟩; have H3 := hide (And.intro ((((Ext.refl w).alloc _).drew).trans hE3) (((Blk.new w 23 (Array.replicate 16 (.int .u8 0))).drew).ext hE3)); have hS : True := trivial; clear hHeld hE3)
      refine hK.out _ _ ?_ (fun hHeld => ?_)
      · exact hS
      clear hK K
      try simp only [Act.put, List.setIfInBounds_toArray, List.set_cons_zero, List.set_cons_succ, List.getElem_toArray, List.getElem_cons_succ, List.getElem_cons_zero]
      refine wpAnyH_ready (rs := [10]) (by kernel_rfl) (by simp) (AllReadyH.cons (o := _) rfl (fun K hK => ?_) AllReadyH.nil)
      try go_simp
      (refine (unhide HB _ (unhide H3).1).mono ?_; rintro e w4 ⟨rfl, hE4⟩; have H4 := hide (And.intro ((unhide H3).1.trans hE4) ((unhide H3).2.ext hE4)); have hS : True := trivial; clear hHeld hE4 H3)
      refine hK.out _ _ ?_ (fun hHeld => ?_)
      · exact hS
      clear hK K
      try simp only [Act.put, List.setIfInBounds_toArray, List.set_cons_zero, List.set_cons_succ, List.getElem_toArray, List.getElem_cons_succ, List.getElem_cons_zero]
      refine wpAnyH_ready (rs := [11]) (by kernel_rfl) (by simp) (AllReadyH.cons (o := _) rfl (fun K hK => ?_) AllReadyH.nil)
      try go_simp
      (refine (unhide HN _ (unhide H4).1).mono ?_; rintro e w5 ⟨rfl, hE5⟩; rw [← (unhide HR).1]; have H5 := hide (And.intro ((unhide H4).1.trans hE5) ((unhide H4).2.ext hE5)); have hS : True := trivial; clear hHeld hE5 H4)
      refine hK.out _ _ ?_ (fun hHeld => ?_)
      · exact hS
      clear hK K
      try simp only [Act.put, List.setIfInBounds_toArray, List.set_cons_zero, List.set_cons_succ, List.getElem_toArray, List.getElem_cons_succ, List.getElem_cons_zero]
      refine wpAnyH_ready (rs := [12]) (by kernel_rfl) (by simp) (AllReadyH.cons (o := _) rfl (fun K hK => ?_) AllReadyH.nil)
      (refine step_storeB (ty := 23) (t := 23) (x := .tmp 2) (y := .tmp 21) rfl rfl digest_wide rfl rfl (unhide H5).2 rfl (by simpa using (unhide HR).2) (bytes_one _) ?_; intro w7 hb7 hc7 hz7; have H7 := hide (And.intro hb7 (Chg.trans' (unhide H5).1 hc7 (fun _ _ h => h) (fun i hi e => by omega))); have hS : True := trivial; clear hHeld hb7 hc7 hz7)
      refine hK.out _ _ ?_ (fun hHeld => ?_)
      · exact hS
      clear hK K
      try simp only [Act.put, List.getElem_toArray, List.getElem_cons_succ, List.getElem_cons_zero]
      refine wpAnyH_done (by kernel_rfl) ?_ _
      go_wp2
      refine bodyPost_ret (v := .agg (res.map u8v).toArray) (results_blk digest_wide rfl (unhide H7).1 (by simpa using (unhide HR).2) rfl) rfl ⟨rfl, ?_⟩
      exact (unhide H7).2
set_option maxRecDepth 100000 in
set_option maxHeartbeats 4000000 in
theorem rroot_any (N : Nat) : ∀ (ds : List (List UInt8)) (v : Value) (w : World),  ds.length ≤ N → ds.length ≤ 100000 → Digs w v ds →
    Calls Tryd.prog 108 #[v] w fun e w' => e = .returned (.agg ((rootS ds).map u8v).toArray) ∧ Ext w w' := by
  induction N with
  | zero =>
    intro ds v w  hN _ hD
    obtain rfl : ds = [] := List.eq_nil_of_length_eq_zero (by omega)
    obtain ⟨A, c, rfl, _, _⟩ := hD.form
    have HG := hide (fun (W : World) (hE : Ext w W) => rdigest_any 1 [] (.slice none 0 0) W  (Parts.nil W) (by simp) (fun p hp => by cases hp))
    have HR := hide (And.intro (show digestS 1 [] = rootS [] from rfl) (rootS_length []))
    obtain ⟨res, hres⟩ : ∃ x, rootS [] = x := ⟨_, rfl⟩
    rw [hres] at HR ⊢
    clear hres hD
    go_enter Tryd.func108, Tryd.ntmps108
    go_wp2_with (first
      | (go_at_call 109; refine (unhide HG _ ((Ext.refl w).alloc _)).mono ?_; rintro e w5 ⟨rfl, hE5⟩; rw [(unhide HR).1]; have H5 := hide (And.intro (((Ext.refl w).alloc _).trans hE5) ((Blk.new w 23 (Array.replicate 16 (.int .u8 0))).ext hE5)); clear hE5)
      | (refine wpList_storeB (ty := 23) (t := 23) (x := .tmp 2) (y := .tmp 7) rfl rfl digest_wide rfl rfl (unhide H5).2 rfl (by simpa using (unhide HR).2) (bytes_one _) ?_; intro w7 hb7 hc7 hz7; have H7 := hide (And.intro hb7 hc7); clear hb7 hc7 hz7))
    refine bodyPost_ret (v := .agg (res.map u8v).toArray) (results_blk digest_wide rfl (unhide H7).1 (by simpa using (unhide HR).2) rfl) rfl ⟨rfl, ?_⟩
    exact (unhide H5).1.trans' (unhide H7).2 (fun _ _ h => h) (fun i hi e => by omega)
  | succ N ih =>
    intro ds v w  hN h5 hD
    rcases (by omega : ds.length = 0 ∨ ds.length = 1 ∨ 1 < ds.length) with h | h | h
    · obtain rfl : ds = [] := List.eq_nil_of_length_eq_zero h
      obtain ⟨A, c, rfl, _, _⟩ := hD.form
      have HG := hide (fun (W : World) (hE : Ext w W) => rdigest_any 1 [] (.slice none 0 0) W  (Parts.nil W) (by simp) (fun p hp => by cases hp))
      have HR := hide (And.intro (show digestS 1 [] = rootS [] from rfl) (rootS_length []))
      obtain ⟨res, hres⟩ : ∃ x, rootS [] = x := ⟨_, rfl⟩
      rw [hres] at HR ⊢
      clear hres hD ih
      go_enter Tryd.func108, Tryd.ntmps108
      go_wp2_with (first
        | (go_at_call 109; refine (unhide HG _ ((Ext.refl w).alloc _)).mono ?_; rintro e w5 ⟨rfl, hE5⟩; rw [(unhide HR).1]; have H5 := hide (And.intro (((Ext.refl w).alloc _).trans hE5) ((Blk.new w 23 (Array.replicate 16 (.int .u8 0))).ext hE5)); clear hE5)
        | (refine wpList_storeB (ty := 23) (t := 23) (x := .tmp 2) (y := .tmp 7) rfl rfl digest_wide rfl rfl (unhide H5).2 rfl (by simpa using (unhide HR).2) (bytes_one _) ?_; intro w7 hb7 hc7 hz7; have H7 := hide (And.intro hb7 hc7); clear hb7 hc7 hz7))
      refine bodyPost_ret (v := .agg (res.map u8v).toArray) (results_blk digest_wide rfl (unhide H7).1 (by simpa using (unhide HR).2) rfl) rfl ⟨rfl, ?_⟩
      exact (unhide H5).1.trans' (unhide H7).2 (fun _ _ h => h) (fun i hi e => by omega)
    · obtain ⟨d, rfl⟩ : ∃ d, ds = [d] := by
        match ds, h with
        | [d], _ => exact ⟨d, rfl⟩
      have hd : d.length = 16 := hD.1 d (by simp)
      obtain ⟨b, o, c, rfl, hb, hR⟩ := hD.one
      have HG := hide (fun (W : World) (hE : Ext w W) => rleaf_any d W  hd)
      have HR := hide (And.intro (rootS_one d) (rootS_length [d]))
      obtain ⟨res, hres⟩ : ∃ x, rootS [d] = x := ⟨_, rfl⟩
      rw [hres] at HR ⊢
      obtain ⟨cs, hcs⟩ : ∃ x, d.map u8v = x := ⟨_, rfl⟩
      have hcl : cs.length = 16 := by rw [← hcs]; simpa using hd
      rw [hcs] at HG hR
      have HA := hide (rangeAt_ext hR ((Ext.refl w).alloc (.cells (Array.replicate 16 (.int .u8 0)) 23)))
      clear hres hD ih hcs hR
      go_enter Tryd.func108, Tryd.ntmps108
      go_wp2_with (first
        | (refine wpList_loadMG (by rfl) (ty := 23) (x := .tmp 12) rfl digest_wide rfl (unhide HA) hcl ?_)
        | (go_at_call 143; refine (unhide HG _ ((Ext.refl w).alloc _)).mono ?_; rintro e w5 ⟨rfl, hE5⟩; rw [← (unhide HR).1]; have H5 := hide (And.intro (((Ext.refl w).alloc _).trans hE5) ((Blk.new w 23 (Array.replicate 16 (.int .u8 0))).ext hE5)); clear hE5)
        | (refine wpList_storeB (ty := 23) (t := 23) (x := .tmp 2) (y := .tmp 14) rfl rfl digest_wide rfl rfl (unhide H5).2 rfl (by simpa using (unhide HR).2) (bytes_one _) ?_; intro w7 hb7 hc7 hz7; have H7 := hide (And.intro hb7 hc7); clear hb7 hc7 hz7))
      refine bodyPost_ret (v := .agg (res.map u8v).toArray) (results_blk digest_wide rfl (unhide H7).1 (by simpa using (unhide HR).2) rfl) rfl ⟨rfl, ?_⟩
      exact (unhide H5).1.trans' (unhide H7).2 (fun _ _ h => h) (fun i hi e => by omega)
    · have hb := splitS_bounds ds.length h
      have HSp := hide (fun W => rsplit_any ds.length W h (by omega))
      obtain ⟨b, o, c, rfl, hc1, hc2, hbl, hL, hRt⟩ := hD.parts h hb.1 hb.2
      have e16 : 16 = 16 := rfl
      have hll : (ds.take (splitS ds.length)).length = splitS ds.length := by rw [List.length_take]; omega
      have hrl : (ds.drop (splitS ds.length)).length = ds.length - splitS ds.length := by rw [List.length_drop]
      have HA := hide (fun (W : World) (hE : Ext w W) => ih (ds.take (splitS ds.length)) (.slice (some ⟨b, o, none⟩) (splitS ds.length) c) W  (by omega) (by omega) ((hL c (by omega) (by omega)).ext hE))
      have HB := hide (fun (W : World) (hE : Ext w W) => ih (ds.drop (splitS ds.length)) (.slice (some ⟨b, o + splitS ds.length * 16, none⟩) (ds.length - splitS ds.length) (c - splitS ds.length)) W  (by omega) (by omega) ((hRt (c - splitS ds.length) (by omega) (by omega)).ext hE))
      have HN := hide (fun (W : World) (hE : Ext w W) => rnode_any (rootS (ds.take (splitS ds.length))) (rootS (ds.drop (splitS ds.length))) W  (rootS_length _) (rootS_length _))
      have HR := hide (And.intro (rootS_two ds h) (rootS_length ds))
      obtain ⟨res, hres⟩ : ∃ x, rootS ds = x := ⟨_, rfl⟩
      rw [hres] at HR ⊢
      generalize splitS ds.length = k at *
      generalize rootS (ds.take k) = ra at *
      generalize rootS (ds.drop k) = rb at *
      generalize ds.length = n at *
      unfold maxLen at hc2
      have hk1 : k ≤ n := by omega
      have hk2 : k ≤ c := by omega
      have hk3 : ¬ n = k := by omega
      have hk4 : ¬ c = k := by omega
      clear hres hD ih hL hRt hll hrl
      go_enter Tryd.func108, Tryd.ntmps108
      go_upto_region 6 with (go_at_call 144; refine (unhide HSp _).mono ?_; rintro e w1 ⟨rfl, rfl⟩)
      refine wp_region_held_drew (S := fun _ => True) (by kernel_rfl) trivial (fun hHeld => ?_)
      refine wpAnyH_take (i := 0) (oi := _) (v := ?_) rfl (by kernel_rfl) (by kernel_rfl) (by kernel_rfl) (fun _ _ _ h => h) (Or.inl ⟨by rfl, fun wz hSz => ?_⟩) (by assumption) ?_
      rotate_left
      · (first | (go_simp; done) | (go_simp; with_reducible rfl))
      try simp only [Act.put, List.setIfInBounds_toArray, List.set_cons_zero, List.set_cons_succ, List.getElem_toArray, List.getElem_cons_zero]
      refine wpAnyH_take (i := 1) (oi := _) (v := ?_) rfl (by kernel_rfl) (by kernel_rfl) (by kernel_rfl) (fun _ _ _ h => h) (Or.inl ⟨by rfl, fun wz hSz => ?_⟩) (by assumption) ?_
      rotate_left
      · (first | (go_simp; done) | (go_simp; with_reducible rfl))
      try simp only [Act.put, List.setIfInBounds_toArray, List.set_cons_zero, List.set_cons_succ, List.getElem_toArray, List.getElem_cons_succ, List.getElem_cons_zero]
      refine wpAnyH_take (i := 2) (oi := _) (v := ?_) rfl (by kernel_rfl) (by kernel_rfl) (by kernel_rfl) (fun _ _ _ h => h) (Or.inl ⟨by rfl, fun wz hSz => ?_⟩) (by assumption) ?_
      rotate_left
      · (first | (go_simp; done) | (go_simp; with_reducible rfl))
      try simp only [Act.put, List.setIfInBounds_toArray, List.set_cons_zero, List.set_cons_succ, List.getElem_toArray, List.getElem_cons_succ, List.getElem_cons_zero]
      refine wpAnyH_take (i := 4) (oi := _) (v := ?_) rfl (by kernel_rfl) (by kernel_rfl) (by kernel_rfl) (fun _ _ _ h => h) (Or.inl ⟨by rfl, fun wz hSz => ?_⟩) (by assumption) ?_
      rotate_left
      · (first | (go_simp; done) | (go_simp; with_reducible rfl))
      try simp only [Act.put, List.setIfInBounds_toArray, List.set_cons_zero, List.set_cons_succ, List.getElem_toArray, List.getElem_cons_succ, List.getElem_cons_zero]
      refine wpAnyH_take (i := 5) (oi := _) (v := ?_) rfl (by kernel_rfl) (by kernel_rfl) (by kernel_rfl) (fun _ _ _ h => h) (Or.inl ⟨by rfl, fun wz hSz => ?_⟩) (by assumption) ?_
      rotate_left
      · (first | (go_simp; done) | (go_simp; with_reducible rfl))
      try simp only [Act.put, List.setIfInBounds_toArray, List.set_cons_zero, List.set_cons_succ, List.getElem_toArray, List.getElem_cons_succ, List.getElem_cons_zero]
      refine wpAnyH_take (i := 6) (oi := _) (v := ?_) rfl (by kernel_rfl) (by kernel_rfl) (by kernel_rfl) (fun _ _ _ h => h) (Or.inl ⟨by rfl, fun wz hSz => ?_⟩) (by assumption) ?_
      rotate_left
      · (first | (go_simp; done) | (go_simp; with_reducible rfl))
      try simp only [Act.put, List.setIfInBounds_toArray, List.set_cons_zero, List.set_cons_succ, List.getElem_toArray, List.getElem_cons_succ, List.getElem_cons_zero]
      refine wpAnyH_ready (rs := [3]) (by kernel_rfl) (by simp) (AllReadyH.cons (o := _) rfl (fun K hK => ?_) AllReadyH.nil)
      try go_simp
      (refine (unhide HA _ (((Ext.refl w).alloc _).drew)).mono ?_; rintro e w3 ⟨rfl, hE3⟩; have H3 := hide (And.intro ((((Ext.refl w).alloc _).drew).trans hE3) (((Blk.new w 23 (Array.replicate 16 (.int .u8 0))).drew).ext hE3)); have hS : True := trivial; clear hHeld hE3)
      refine hK.out _ _ ?_ (fun hHeld => ?_)
      · exact hS
      clear hK K
      try simp only [Act.put, List.setIfInBounds_toArray, List.set_cons_zero, List.set_cons_succ, List.getElem_toArray, List.getElem_cons_succ, List.getElem_cons_zero]
      refine wpAnyH_ready (rs := [7]) (by kernel_rfl) (by simp) (AllReadyH.cons (o := _) rfl (fun K hK => ?_) AllReadyH.nil)
      try go_simp
      (refine (unhide HB _ (unhide H3).1).mono ?_; rintro e w4 ⟨rfl, hE4⟩; have H4 := hide (And.intro ((unhide H3).1.trans hE4) ((unhide H3).2.ext hE4)); have hS : True := trivial; clear hHeld hE4 H3)
      refine hK.out _ _ ?_ (fun hHeld => ?_)
      · exact hS
      clear hK K
      try simp only [Act.put, List.setIfInBounds_toArray, List.set_cons_zero, List.set_cons_succ, List.getElem_toArray, List.getElem_cons_succ, List.getElem_cons_zero]
      refine wpAnyH_ready (rs := [8]) (by kernel_rfl) (by simp) (AllReadyH.cons (o := _) rfl (fun K hK => ?_) AllReadyH.nil)
      try go_simp
      (refine (unhide HN _ (unhide H4).1).mono ?_; rintro e w5 ⟨rfl, hE5⟩; rw [← (unhide HR).1]; have H5 := hide (And.intro ((unhide H4).1.trans hE5) ((unhide H4).2.ext hE5)); have hS : True := trivial; clear hHeld hE5 H4)
      refine hK.out _ _ ?_ (fun hHeld => ?_)
      · exact hS
      clear hK K
      try simp only [Act.put, List.setIfInBounds_toArray, List.set_cons_zero, List.set_cons_succ, List.getElem_toArray, List.getElem_cons_succ, List.getElem_cons_zero]
      refine wpAnyH_ready (rs := [9]) (by kernel_rfl) (by simp) (AllReadyH.cons (o := _) rfl (fun K hK => ?_) AllReadyH.nil)
      (refine step_storeB (ty := 23) (t := 23) (x := .tmp 2) (y := .tmp 26) rfl rfl digest_wide rfl rfl (unhide H5).2 rfl (by simpa using (unhide HR).2) (bytes_one _) ?_; intro w7 hb7 hc7 hz7; have H7 := hide (And.intro hb7 (Chg.trans' (unhide H5).1 hc7 (fun _ _ h => h) (fun i hi e => by omega))); have hS : True := trivial; clear hHeld hb7 hc7 hz7)
      refine hK.out _ _ ?_ (fun hHeld => ?_)
      · exact hS
      clear hK K
      try simp only [Act.put, List.getElem_toArray, List.getElem_cons_succ, List.getElem_cons_zero]
      refine wpAnyH_done (by kernel_rfl) ?_ _
      go_wp2
      refine bodyPost_ret (v := .agg (res.map u8v).toArray) (results_blk digest_wide rfl (unhide H7).1 (by simpa using (unhide HR).2) rfl) rfl ⟨rfl, ?_⟩
      exact (unhide H7).2
end Go.Proofs.YtoefmncdloffaaaDoor


namespace Go.Proofs.YtoefmncdloffaaaDoor.Pv
open Go.RowKit
theorem u8w_v : u8w = u8v := rfl
theorem rv_of_dig {C : Ctx} {bs : List UInt8} {k : Nat} (h : bs.length = k) : RV C (.w (.agg [.bs k bs])) (.agg (bs.map u8v).toArray) :=
  .w (.agg (by simpa [u8w_v] using RL.cons (R.bs (C := C) h) RL.nil))
def varN : Nat → (Nat → List PC) → (List (List UInt8) → M) → M
  | 0, _, k => k []
  | n + 1, f, k => varN n f fun l => (match f n with
    | [c] => bytesM (pv1 c) fun b => k (l ++ [b])
    | _ => .fail)
def varM (v : PV) (k : List (List UInt8) → M) : M := match v with
  | .w (.one (.ow x ver n off len)) => .obj x fun g vr ob => guardT g (match Nat.beq ver vr, Nat.beq n 1, Nat.beq off 0, ob with
    | true, true, true, .arr _ m tot f => (match Nat.beq n m, Nat.beq len tot with
      | true, true => varN len f k
      | _, _ => .fail)
    | _, _, _, _ => .fail)
  | .w (.one (.lit (.slice none 0 0))) => k []
  | _ => .fail
section
variable {A : Amb} {s : St} {a : Act} {w : World} {env : Env} {F : Option Bool → PV → Wr → Prop}
theorem varN_ok (h : GamE A s a w env) {vs : List Value} {f : Nat → List PC} : ∀ {n : Nat} {k : List (List UInt8) → M}, n ≤ vs.length → (∀ i, i < n → RL (ctxOf A w env) (f i) ((vs.drop (i * 1)).take 1)) → (varN n f k).ok none s F →
    ∃ ps, ps.length = n ∧ (∀ (i : Nat) (p : List UInt8), ps[i]? = some p → ∃ u, vs[i]? = some u ∧ Reads w 1 u p.length (p.map u8v)) ∧ (k ps).ok none s F
  | 0, k, _, _, hk => ⟨[], rfl, fun i p hp => by simp at hp, hk⟩
  | n + 1, k, hn, hr, hk => by
    obtain ⟨ps, h1, h2, hk⟩ := varN_ok h (n := n) (by omega) (fun i hi => hr i (by omega)) hk
    split at hk
    · rename_i c hfc
      have h3 := hr n (by omega)
      rw [hfc] at h3
      have hv : (vs.drop (n * 1)).take 1 = [vs[n]] := by
        apply List.ext_getElem?
        intro q
        rw [List.getElem?_take, List.getElem?_drop, Nat.mul_one]
        cases q with
        | zero => rw [if_pos (by omega), Nat.add_zero, List.getElem?_eq_getElem (by omega)]; rfl
        | succ q => rw [if_neg (by omega)]; simp
      rw [hv] at h3
      obtain ⟨l, h4, hk⟩ := bytesM_ok h (.w (.one h3.single)) hk
      refine ⟨ps ++ [l], by simp [h1], fun i p hp => ?_, hk⟩
      rcases Nat.lt_or_ge i n with hlt | hge
      · rw [List.getElem?_append_left (by omega)] at hp
        exact h2 i p hp
      · rw [List.getElem?_append_right (by omega)] at hp
        have hi : i = n := by
          rcases Nat.eq_or_lt_of_le hge with e | e
          · exact e.symm
          · rw [List.getElem?_eq_none (by simp; omega)] at hp; cases hp
        subst hi
        rw [h1, Nat.sub_self] at hp
        cases hp
        exact ⟨vs[i], List.getElem?_eq_getElem _, h4⟩
    · exact hk.elim
theorem varM_ok (h : GamE A s a w env) {v : PV} {val : Value} (hv : RV (ctxOf A w env) v val) {k : List (List UInt8) → M} (hk : (varM v k).ok none s F) : ∃ ps, Parts w val ps ∧ (k ps).ok none s F := by
  unfold varM at hk
  split at hk
  · rename_i x ver n off len
    obtain ⟨g, vr, ob, hfo, hk⟩ := hk
    have hk2 := guardT_ok hk
    clear hk
    obtain ⟨hg, hk⟩ := hk2
    obtain ⟨hd, hev, hob⟩ := obj_at h hfo hg
    cases hb : Nat.beq ver vr <;> cases hb2 : Nat.beq n 1 <;> cases hb3 : Nat.beq off 0 <;> cases ob <;> simp only [hb, hb2, hb3] at hk <;> try exact hk.elim
    rename_i e m tot f
    obtain rfl := beqT hb
    obtain rfl := beqT hb2
    obtain rfl := beqT hb3
    cases hb4 : Nat.beq 1 m <;> cases hb5 : Nat.beq len tot <;> simp only [hb4, hb5] at hk <;> try exact hk.elim
    obtain rfl := beqT hb4
    obtain rfl := beqT hb5
    obtain ⟨A0, n0, c0, rfl, hle0, rfl⟩ := hv.ow_inv hev
    obtain ⟨vs, hown, hel⟩ := hob
    have hrd := Reads.of_ownX hown
    have hn0 : n0 = len := by
      obtain ⟨_, A1, c1, e1, _⟩ := hrd
      cases e1; rfl
    subst hn0
    have hsl := reads_slice (off := 0) (m := n0) (by omega) hrd
    rw [Nat.zero_mul, List.drop_zero, List.take_of_length_le (by rw [hown.1]; omega)] at hsl
    obtain ⟨ps, h1, h2, hk⟩ := varN_ok h (vs := vs) (by rw [hown.1]; omega) hel hk
    exact ⟨ps, ⟨vs, by rw [hown.1, h1]; omega, by rw [h1, Nat.zero_mul]; exact hsl, h2⟩, hk⟩
  · have := hv.lit_inv
    subst this
    exact ⟨[], Parts.nil w, hk⟩
  · exact hk.elim
def digAt : List PC → List UInt8
  | [.bs _ l] => l
  | _ => []
def isDig : List PC → Bool
  | [.bs n _] => Nat.beq n 16
  | _ => false
def digF (l : List (List UInt8)) : Nat → List PC := fun i => [.bs 16 (l.getD i [])]
def rowD (len : Nat) (f : Nat → List PC) : List (List UInt8) := (List.range len).map fun i => digAt (f i)
def IsDRow (len : Nat) (f : Nat → List PC) : Prop := ∀ i, i < len → isDig (f i) = true
theorem rowD_length (n : Nat) (f : Nat → List PC) : (rowD n f).length = n := by simp [rowD]
@[simp] theorem isDRow_digF (n : Nat) (l : List (List UInt8)) : IsDRow n (digF l) := fun _ _ => rfl
@[simp] theorem rowD_digF (l : List (List UInt8)) : rowD l.length (digF l) = l := by
  apply List.ext_getElem (rowD_length _ _)
  intro i h1 h2
  simp only [rowD, List.getElem_map, List.getElem_range, digF, digAt]
  rw [List.getD_eq_getElem?_getD, List.getElem?_eq_getElem h2]
  rfl
theorem drow_cells {C : Ctx} {len : Nat} {f : Nat → List PC} {vs : List Value} (hl : vs.length = len * 16) (h : ∀ i, i < len → RL C (f i) ((vs.drop (i * 16)).take 16)) (hb : IsDRow len f) : vs = dcells (rowD len f) ∧ D16 (rowD len f) := by
  have key : ∀ i, i < len → (vs.drop (i * 16)).take 16 = (digAt (f i)).map u8v ∧ (digAt (f i)).length = 16 := by
    intro i hi
    have h1 := h i hi
    have h2 := hb i hi
    generalize f i = c at h1 h2
    unfold isDig at h2
    split at h2
    · obtain ⟨h3, h4⟩ := h1.bs1
      rw [beqT h2] at h3
      exact ⟨h4, h3⟩
    · cases h2
  have hD : D16 (rowD len f) := by
    intro d hd
    obtain ⟨i, hi, rfl⟩ := List.mem_map.1 hd
    exact (key i (List.mem_range.1 hi)).2
  refine ⟨?_, hD⟩
  have : ∀ n, n ≤ len → vs.take (n * 16) = dcells (rowD n f) := by
    intro n
    induction n with
    | zero => intro _; simp [rowD, dcells]
    | succ n ih =>
      intro hn
      have e1 : rowD (n + 1) f = rowD n f ++ [digAt (f n)] := by simp [rowD, List.range_succ]
      rw [e1, dcells, List.flatMap_append]
      have e2 : vs.take ((n + 1) * 16) = vs.take (n * 16) ++ (vs.drop (n * 16)).take 16 := by
        rw [show (n + 1) * 16 = n * 16 + 16 from by omega, List.take_add]
      rw [e2, ih (by omega), (key n (by omega)).1]
      simp [dcells]
  have h1 := this len (Nat.le_refl _)
  rwa [← hl, List.take_length] at h1
def digsM (v : PV) (k : List (List UInt8) → M) : M := match v with
  | .w (.one (.sl n len f)) => (match Nat.beq n 16 with
    | true => .need (IsDRow len f) (k (rowD len f))
    | false => .fail)
  | .w (.one (.ow x ver n off len)) => .obj x fun g vr ob => guardT g (match Nat.beq ver vr, Nat.beq n 16, Nat.beq off 0, ob with
    | true, true, true, .arr _ m tot f => (match Nat.beq n m with
      | true => .need (len ≤ tot ∧ IsDRow len f) (k (rowD len f))
      | false => .fail)
    | _, _, _, _ => .fail)
  | .w (.one (.lit (.slice none 0 0))) => k []
  | _ => .fail
theorem digsM_ok (h : GamE A s a w env) {v : PV} {val : Value} (hv : RV (ctxOf A w env) v val) {k : List (List UInt8) → M} (hk : (digsM v k).ok none s F) : ∃ l, Digs w val l ∧ (k l).ok none s F := by
  unfold digsM at hk
  split at hk
  · rename_i n len f
    cases hb : Nat.beq n 16 <;> rw [hb] at hk
    · exact hk.elim
    obtain rfl := beqT hb
    obtain ⟨hrow, hk⟩ := hk
    cases hv.inv with
    | sl hr hbb he =>
      obtain ⟨e1, e2⟩ := drow_cells hr.1 he hrow
      refine ⟨_, ⟨e2, ?_⟩, hk⟩
      rw [← e1, rowD_length]
      exact hr
  · rename_i x ver n off len
    obtain ⟨g, vr, ob, hfo, hk⟩ := hk
    have hk2 := guardT_ok hk
    clear hk
    obtain ⟨hg, hk⟩ := hk2
    obtain ⟨hd, hev, hob⟩ := obj_at h hfo hg
    cases hb : Nat.beq ver vr <;> cases hb2 : Nat.beq n 16 <;> cases hb3 : Nat.beq off 0 <;> cases ob <;> simp only [hb, hb2, hb3] at hk <;> try exact hk.elim
    rename_i e m tot f
    obtain rfl := beqT hb
    obtain rfl := beqT hb2
    obtain rfl := beqT hb3
    cases hb4 : Nat.beq 16 m <;> rw [hb4] at hk
    · exact hk.elim
    obtain rfl := beqT hb4
    obtain ⟨⟨hle, hrow⟩, hk⟩ := hk
    obtain ⟨A0, n0, c0, rfl, hle0, rfl⟩ := hv.ow_inv hev
    obtain ⟨vs, hown, hel⟩ := hob
    have hrd := Reads.of_ownX hown
    have hn0 : n0 = tot := by
      obtain ⟨_, A1, c1, e1, _⟩ := hrd
      cases e1; rfl
    subst hn0
    have hsl := reads_slice (off := 0) (m := len) (by omega) hrd
    obtain ⟨e1, e2⟩ := drow_cells (C := ctxOf A w env) (len := len) (f := f) (vs := (vs.drop (0 * 16)).take (len * 16)) hsl.1 (fun i hi => by rw [window_window vs hi, Nat.zero_add]; exact hel i (by omega)) hrow
    refine ⟨_, ⟨e2, ?_⟩, hk⟩
    rw [← e1, rowD_length]
    exact hsl
  · have := hv.lit_inv
    subst this
    exact ⟨[], ⟨D16.nil, Reads.nil w 16⟩, hk⟩
  · exact hk.elim
end
def i64P (n : Int) : Prop := -9223372036854775808 ≤ n ∧ n < 9223372036854775808
def spInt : Spec := fun nm xs => match xs with
  | [.w (.one (.lit (.int .i64 n)))] => .need (i64P n) (.new nm (.arr 5 1 (wInt n).length (byF (wInt n))) fun v => .ret (pv1 (.ow nm v 1 0 (wInt n).length)))
  | _ => .fail
def spBytes : Spec := fun nm xs => match xs with
  | [.w (.one (.lit (.string b)))] => .need (b.size ≤ 1000000000) (.new nm (.arr 5 1 (wBytes b.data.toList).length (byF (wBytes b.data.toList))) fun v => .ret (pv1 (.ow nm v 1 0 (wBytes b.data.toList).length)))
  | _ => .fail
def spDigest : Spec := fun _ xs => match xs with
  | [.w (.one (.lit (.int .i64 tag))), ps] => varM ps fun pl => .need (pl.length ≤ 1000 ∧ ∀ p ∈ pl, p.length ≤ 10000) (.ret (.w (.agg [.bs 16 (digestS tag pl)])))
  | _ => .fail
def spDerive : Spec := fun _ xs => match xs with
  | [k, .w (.one (.lit (.string b))), ps] => bytesM k fun kb => varM ps fun pl => .need (kb.length ≤ 10000 ∧ b.size ≤ 10000 ∧ pl.length ≤ 90 ∧ ∀ p ∈ pl, p.length ≤ 10000) (.ret (.w (.agg [.bs 16 (deriveS kb b.data.toList pl)])))
  | _ => .fail
def spMac : Spec := fun _ xs => match xs with
  | [k, b] => bytesM k fun kb => bytesM b fun bb => .need (kb.length ≤ 1000000 ∧ bb.length ≤ 1000000) (.ret (.w (.agg [.bs 16 (mac kb bb)])))
  | _ => .fail
def spRoot : Spec := fun _ xs => match xs with
  | [v] => digsM v fun ds => .need (ds.length ≤ 100000) (.ret (.w (.agg [.bs 16 (rootS ds)])))
  | _ => .fail
set_option maxRecDepth 100000 in
theorem int_ok : SpecOk Tryd.prog ShaMem 17 spInt := by
  refine ⟨call_enters Tryd.func17 (by kernel_rfl) rfl, fun A s a w env nm pvs vs F h hI hv hk => ?_⟩
  unfold spInt at hk
  split at hk
  rotate_left
  · exact hk.elim
  rename_i n
  obtain ⟨hn, hk⟩ := hk
  match vs, hv with
  | [v], ⟨h1, _⟩ =>
    obtain rfl := RV.lit_inv (show RV _ _ _ from h1)
    refine (wint_any n w hn.1 hn.2).mono ?_
    rintro e w' ⟨A1, c, rfl, ho, hE⟩
    obtain ⟨env', h3, h4⟩ := h.new_own nm 5 1 (wInt n).length (f := byF (wInt n)) hE ho (fun C i hi => byF_cells C (wInt n) i hi)
    exact .inl ⟨_, _, _, env', rfl, hk, h3, h4⟩
set_option maxRecDepth 100000 in
theorem rint_ok : SpecOk Tryd.prog ShaMem 76 spInt := by
  refine ⟨call_enters Tryd.func76 (by kernel_rfl) rfl, fun A s a w env nm pvs vs F h hI hv hk => ?_⟩
  unfold spInt at hk
  split at hk
  rotate_left
  · exact hk.elim
  rename_i n
  obtain ⟨hn, hk⟩ := hk
  match vs, hv with
  | [v], ⟨h1, _⟩ =>
    obtain rfl := RV.lit_inv (show RV _ _ _ from h1)
    refine (rint_any n w hn.1 hn.2).mono ?_
    rintro e w' ⟨A1, c, rfl, ho, hE⟩
    obtain ⟨env', h3, h4⟩ := h.new_own nm 5 1 (wInt n).length (f := byF (wInt n)) hE ho (fun C i hi => byF_cells C (wInt n) i hi)
    exact .inl ⟨_, _, _, env', rfl, hk, h3, h4⟩
set_option maxRecDepth 100000 in
theorem bytes_ok : SpecOk Tryd.prog ShaMem 18 spBytes := by
  refine ⟨call_enters Tryd.func18 (by kernel_rfl) rfl, fun A s a w env nm pvs vs F h hI hv hk => ?_⟩
  unfold spBytes at hk
  split at hk
  rotate_left
  · exact hk.elim
  rename_i b
  obtain ⟨hn, hk⟩ := hk
  match vs, hv with
  | [v], ⟨h1, _⟩ =>
    obtain rfl := RV.lit_inv (show RV _ _ _ from h1)
    refine (wbytes_any b w hn).mono ?_
    rintro e w' ⟨A1, c, rfl, ho, hE⟩
    obtain ⟨env', h3, h4⟩ := h.new_own nm 5 1 (wBytes b.data.toList).length (f := byF (wBytes b.data.toList)) hE ho (fun C i hi => byF_cells C _ i hi)
    exact .inl ⟨_, _, _, env', rfl, hk, h3, h4⟩
set_option maxRecDepth 100000 in
theorem rbytes_ok : SpecOk Tryd.prog ShaMem 75 spBytes := by
  refine ⟨call_enters Tryd.func75 (by kernel_rfl) rfl, fun A s a w env nm pvs vs F h hI hv hk => ?_⟩
  unfold spBytes at hk
  split at hk
  rotate_left
  · exact hk.elim
  rename_i b
  obtain ⟨hn, hk⟩ := hk
  match vs, hv with
  | [v], ⟨h1, _⟩ =>
    obtain rfl := RV.lit_inv (show RV _ _ _ from h1)
    refine (rbytes_any b w hn).mono ?_
    rintro e w' ⟨A1, c, rfl, ho, hE⟩
    obtain ⟨env', h3, h4⟩ := h.new_own nm 5 1 (wBytes b.data.toList).length (f := byF (wBytes b.data.toList)) hE ho (fun C i hi => byF_cells C _ i hi)
    exact .inl ⟨_, _, _, env', rfl, hk, h3, h4⟩
set_option maxRecDepth 100000 in
theorem digest_ok : SpecOk Tryd.prog ShaMem 101 spDigest := by
  refine ⟨call_enters Tryd.func101 (by kernel_rfl) rfl, fun A s a w env nm pvs vs F h hI hv hk => ?_⟩
  unfold spDigest at hk
  split at hk
  rotate_left
  · exact hk.elim
  rename_i tag ps
  match vs, hv with
  | [v, pv], ⟨h1, h2, _⟩ =>
    obtain rfl := RV.lit_inv (show RV _ _ _ from h1)
    obtain ⟨pl, hp, hk⟩ := varM_ok h h2 hk
    obtain ⟨⟨c1, c2⟩, hk⟩ := hk
    refine (digest_any tag pl pv w (hI.mem w h.chg) hp c1 c2).mono ?_
    rintro e w' ⟨rfl, hE⟩
    exact .inl ⟨_, [], _, env, rfl, hk, h.ext hE, rv_of_dig (digestS_length _ _)⟩
set_option maxRecDepth 100000 in
theorem rdigest_ok : SpecOk Tryd.prog ShaMem 109 spDigest := by
  refine ⟨call_enters Tryd.func109 (by kernel_rfl) rfl, fun A s a w env nm pvs vs F h hI hv hk => ?_⟩
  unfold spDigest at hk
  split at hk
  rotate_left
  · exact hk.elim
  rename_i tag ps
  match vs, hv with
  | [v, pv], ⟨h1, h2, _⟩ =>
    obtain rfl := RV.lit_inv (show RV _ _ _ from h1)
    obtain ⟨pl, hp, hk⟩ := varM_ok h h2 hk
    obtain ⟨⟨c1, c2⟩, hk⟩ := hk
    refine (rdigest_any tag pl pv w  hp c1 c2).mono ?_
    rintro e w' ⟨rfl, hE⟩
    exact .inl ⟨_, [], _, env, rfl, hk, h.ext hE, rv_of_dig (digestS_length _ _)⟩
set_option maxRecDepth 100000 in
theorem derive_ok : SpecOk Tryd.prog ShaMem 15 spDerive := by
  refine ⟨call_enters Tryd.func15 (by kernel_rfl) rfl, fun A s a w env nm pvs vs F h hI hv hk => ?_⟩
  unfold spDerive at hk
  split at hk
  rotate_left
  · exact hk.elim
  rename_i k b ps
  match vs, hv with
  | [kv, v, pv], ⟨h0, h1, h2, _⟩ =>
    obtain rfl := RV.lit_inv (show RV _ _ _ from h1)
    obtain ⟨kb, hkb, hk⟩ := bytesM_ok h h0 hk
    obtain ⟨pl, hp, hk⟩ := varM_ok h h2 hk
    obtain ⟨⟨c0, c1, c2, c3⟩, hk⟩ := hk
    refine (derive_any kb kv b pl pv w (hI.mem w h.chg) hkb c0 c1 hp c2 c3).mono ?_
    rintro e w' ⟨rfl, hE⟩
    exact .inl ⟨_, [], _, env, rfl, hk, h.ext hE, rv_of_dig (deriveS_length _ _ _)⟩
set_option maxRecDepth 100000 in
theorem rderive_ok : SpecOk Tryd.prog ShaMem 105 spDerive := by
  refine ⟨call_enters Tryd.func105 (by kernel_rfl) rfl, fun A s a w env nm pvs vs F h hI hv hk => ?_⟩
  unfold spDerive at hk
  split at hk
  rotate_left
  · exact hk.elim
  rename_i k b ps
  match vs, hv with
  | [kv, v, pv], ⟨h0, h1, h2, _⟩ =>
    obtain rfl := RV.lit_inv (show RV _ _ _ from h1)
    obtain ⟨kb, hkb, hk⟩ := bytesM_ok h h0 hk
    obtain ⟨pl, hp, hk⟩ := varM_ok h h2 hk
    obtain ⟨⟨c0, c1, c2, c3⟩, hk⟩ := hk
    refine (rderive_any kb kv b pl pv w  hkb c0 c1 hp c2 c3).mono ?_
    rintro e w' ⟨rfl, hE⟩
    exact .inl ⟨_, [], _, env, rfl, hk, h.ext hE, rv_of_dig (deriveS_length _ _ _)⟩
set_option maxRecDepth 100000 in
theorem mac_ok : SpecOk Tryd.prog ShaMem 16 spMac := by
  refine ⟨call_enters Tryd.func16 (by kernel_rfl) rfl, fun A s a w env nm pvs vs F h hI hv hk => ?_⟩
  unfold spMac at hk
  split at hk
  rotate_left
  · exact hk.elim
  rename_i k b
  match vs, hv with
  | [kv, bv], ⟨h0, h1, _⟩ =>
    obtain ⟨kb, hkb, hk⟩ := bytesM_ok h h0 hk
    obtain ⟨bb, hbb, hk⟩ := bytesM_ok h h1 hk
    obtain ⟨⟨c0, c1⟩, hk⟩ := hk
    refine (mac_any kb bb kv bv w (hI.mem w h.chg) hkb hbb c0 c1).mono ?_
    rintro e w' ⟨rfl, hE⟩
    exact .inl ⟨_, [], _, env, rfl, hk, h.ext hE, rv_of_dig (mac_length _ _)⟩
set_option maxRecDepth 100000 in
theorem rmac_ok : SpecOk Tryd.prog ShaMem 110 spMac := by
  refine ⟨call_enters Tryd.func110 (by kernel_rfl) rfl, fun A s a w env nm pvs vs F h hI hv hk => ?_⟩
  unfold spMac at hk
  split at hk
  rotate_left
  · exact hk.elim
  rename_i k b
  match vs, hv with
  | [kv, bv], ⟨h0, h1, _⟩ =>
    obtain ⟨kb, hkb, hk⟩ := bytesM_ok h h0 hk
    obtain ⟨bb, hbb, hk⟩ := bytesM_ok h h1 hk
    obtain ⟨⟨c0, c1⟩, hk⟩ := hk
    refine (rmac_any kb bb kv bv w  hkb hbb c0 c1).mono ?_
    rintro e w' ⟨rfl, hE⟩
    exact .inl ⟨_, [], _, env, rfl, hk, h.ext hE, rv_of_dig (mac_length _ _)⟩
set_option maxRecDepth 100000 in
theorem root_ok : SpecOk Tryd.prog ShaMem 102 spRoot := by
  refine ⟨call_enters Tryd.func102 (by kernel_rfl) rfl, fun A s a w env nm pvs vs F h hI hv hk => ?_⟩
  unfold spRoot at hk
  split at hk
  rotate_left
  · exact hk.elim
  rename_i dv
  match vs, hv with
  | [v], ⟨h1, _⟩ =>
    obtain ⟨ds, hd, hk⟩ := digsM_ok h h1 hk
    obtain ⟨c0, hk⟩ := hk
    refine (root_any ds.length ds v w (hI.mem w h.chg) (Nat.le_refl _) c0 hd).mono ?_
    rintro e w' ⟨rfl, hE⟩
    exact .inl ⟨_, [], _, env, rfl, hk, h.ext hE, rv_of_dig (rootS_length _)⟩
set_option maxRecDepth 100000 in
theorem rroot_ok : SpecOk Tryd.prog ShaMem 108 spRoot := by
  refine ⟨call_enters Tryd.func108 (by kernel_rfl) rfl, fun A s a w env nm pvs vs F h hI hv hk => ?_⟩
  unfold spRoot at hk
  split at hk
  rotate_left
  · exact hk.elim
  rename_i dv
  match vs, hv with
  | [v], ⟨h1, _⟩ =>
    obtain ⟨ds, hd, hk⟩ := digsM_ok h h1 hk
    obtain ⟨c0, hk⟩ := hk
    refine (rroot_any ds.length ds v w  (Nat.le_refl _) c0 hd).mono ?_
    rintro e w' ⟨rfl, hE⟩
    exact .inl ⟨_, [], _, env, rfl, hk, h.ext hE, rv_of_dig (rootS_length _)⟩
end Go.Proofs.YtoefmncdloffaaaDoor.Pv
