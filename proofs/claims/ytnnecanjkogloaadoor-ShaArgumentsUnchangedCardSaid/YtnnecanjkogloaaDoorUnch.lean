/-
  The law ShaArgumentsUnchanged.
-/
import Derived.Test.YtnnecanjkogloaaDoorDigMatch
import Derived.Deep.RegionHeld3
import Derived.Deep.DrawnRows
namespace Go.Proofs.YtnnecanjkogloaaDoor
open Go.RowKit

/-- A block that lies in a world reached from w by Ext, and stays. -/
theorem store_ext {w w1 w2 : World} {o : Obj} (h : Ext w w1) (hc : Chg (fun k => k = w1.heap.size) (w1.alloc o) w2) : Ext w w2 := (h.alloc _).trans' hc (fun _ _ h => h) (fun i hi e => by have := h.size'; omega)
theorem store_ext1 {w1 w2 : World} {o : Obj} (hc : Chg (fun k => k = w1.heap.size) (w1.alloc o) w2) : Ext w1 w2 := store_ext (Ext.refl w1) hc
theorem conv_str {w : World} {v : Value} {l : List UInt8} {s : ByteArray} (h : Reads w 1 v l.length (l.map u8v)) (hs : strOf l = s) : (convert 22 9 v).run Tryd.prog w = .ok (.string s) w := by
  rw [run_str_of Tryd.underlying22 Tryd.underlying5 Tryd.underlying9 h, hs]

theorem load_ext {T : TypeId} {n : Nat} (Wd : Wide Tryd.prog T n) {w W : World} {g : Nat} {t : TypeId} {cs : Array Value} (hB : Blk w g t cs) (hn : cs.size = n) (hE : Ext w W) : (Instr.loadAt T (.pointer (some ⟨g, 0, none⟩))).run Tryd.prog W = .ok (.agg cs) W := by
  obtain ⟨d, hu, hd⟩ := Wd.und
  have := run_loadAt_mid (P := Tryd.prog) W g 0 T cs.toList d (hB.ext hE).range hu hd (by rw [Array.length_toList, hn]; exact Wd.info)
  rw [Array.toArray_toList] at this
  exact this

/-- The block that a pointer points to the head of. -/
def ptrB (v : Value) : Nat := match v with | .pointer (some ⟨b, 0, none⟩) => b | _ => 0
def isPtrB (v : Value) : Bool := match v with | .pointer (some ⟨_, 0, none⟩) => true | _ => false
theorem ptrB_lit (b : Nat) : ptrB (.pointer (some ⟨b, 0, none⟩)) = b := by simp [ptrB]
theorem isPtrB_lit (b : Nat) : isPtrB (.pointer (some ⟨b, 0, none⟩)) = true := by simp [isPtrB]
theorem isPtrB_of {v : Value} (h : isPtrB v = true) : v = .pointer (some ⟨ptrB v, 0, none⟩) := by
  unfold isPtrB at h
  split at h
  · rfl
  · cases h
section
variable {dst : Option Tmp} {ty : TypeId} {pos : String} {after : Array Edge} {guard : Option (Nat × Bool)} {x : Operand}
theorem wp_ldB {T : TypeId} {n : Nat} (Wd : Wide Tryd.prog T n) (hn : n ≠ 0) (a : Act) (w : World) (K : Act → World → Prop) (Q : Exit → Act → World → Prop) (hv : isPtrB (a.eval x) = true) (h : (blkOf w (ptrB (a.eval x))).size = n) :
    Oper.wp Tryd.prog { dst := dst, op := .load T x, type := ty, pos := pos, after := after, guard := guard } a w K Q = K (a.put dst (.agg (blkOf w (ptrB (a.eval x))))) w := by
  have h1 := load_blk Wd hn w (ptrB (a.eval x)) h
  rw [← isPtrB_of hv] at h1
  unfold Oper.wp execOp
  simp only [h1, Sem.run_bind, Sem.run_pure, Result.andThen_ok]
  rfl
theorem wp_ld16 (a : Act) (w : World) (K : Act → World → Prop) (Q : Exit → Act → World → Prop) (hv : isPtrB (a.eval x) = true) (h : (blkOf w (ptrB (a.eval x))).size = 16) :
    Oper.wp Tryd.prog { dst := dst, op := .load 32 x, type := ty, pos := pos, after := after, guard := guard } a w K Q = K (a.put dst (.agg (blkOf w (ptrB (a.eval x))))) w := wp_ldB digest_wide (by decide) a w K Q hv h
theorem wp_ld32 (a : Act) (w : World) (K : Act → World → Prop) (Q : Exit → Act → World → Prop) (hv : isPtrB (a.eval x) = true) (h : (blkOf w (ptrB (a.eval x))).size = 32) :
    Oper.wp Tryd.prog { dst := dst, op := .load 27 x, type := ty, pos := pos, after := after, guard := guard } a w K Q = K (a.put dst (.agg (blkOf w (ptrB (a.eval x))))) w := wp_ldB arr32_wide (by decide) a w K Q hv h
end
theorem unch_facts {w W : World} {kv bv : Value} {key b : List UInt8} {sk sb : ByteArray} {g1 g2 g3 g4 g5 : Nat} {L1 L2 L4 L5 : List Value} {r : Prop}
    (h : Reads w 1 kv key.length (key.map u8v) ∧ strOf key = sk ∧ Reads w 1 bv b.length (b.map u8v) ∧ strOf b = sb ∧ r)
    (hq : Blk w g1 32 L1.toArray ∧ Blk w g2 27 L2.toArray ∧ Blk w g3 32 L1.toArray ∧ Blk w g4 32 L4.toArray ∧ Blk w g5 27 L5.toArray) (hE : Ext w W) :
    (convert 22 9 kv).run Tryd.prog W = .ok (.string sk) W ∧ (convert 22 9 bv).run Tryd.prog W = .ok (.string sb) W ∧
    blkOf W g1 = L1.toArray ∧ blkOf W g2 = L2.toArray ∧ blkOf W g3 = L1.toArray ∧ blkOf W g4 = L4.toArray ∧ blkOf W g5 = L5.toArray :=
  ⟨conv_str (h.1.ext hE) h.2.1, conv_str (h.2.2.1.ext hE) h.2.2.2.1, (hq.1.ext hE).blkOf, (hq.2.1.ext hE).blkOf, (hq.2.2.1.ext hE).blkOf, (hq.2.2.2.1.ext hE).blkOf, (hq.2.2.2.2.ext hE).blkOf⟩
attribute [local go_sem ↓] wp_ld16 wp_ld32
attribute [local go_sem] ptrB_lit isPtrB_lit List.size_toArray

theorem yl {S : World → Prop} {ops : Array Oper} {o : Oper} {a : Act} {T : TypeId} {n : Nat} (Wd : Wide Tryd.prog T n) {x : Operand} (ho : o.op = .load T x) (hw : Region.wanted o (yielded ops a.tmps) = true) {g : Nat} {t : TypeId} {cs : Array Value} (hx : a.eval x = .pointer (some ⟨g, 0, none⟩)) (hn : cs.size = n) (hB : ∀ w, S w → Blk w g t cs) : YieldsIf Tryd.prog ops S o (.agg cs) a := by
  obtain ⟨d, hu, hd⟩ := Wd.und
  have := yieldsIf_load_mid (P := Tryd.prog) (S := S) hw T x ho g 0 hx cs.toList d (fun w h => (hB w h).range) hu hd (by rw [Array.length_toList, hn]; exact Wd.info)
  rwa [Array.toArray_toList] at this

set_option maxRecDepth 100000 in
set_option maxHeartbeats 4000000 in
theorem unch_any (tag : Int) (key b : List UInt8) (kv bv : Value) (ps : List (List UInt8)) (pv : Value) (w : World) (hM : ShaMem w) (hk : Reads w 1 kv key.length (key.map u8v)) (hb : Reads w 1 bv b.length (b.map u8v)) (hp : Parts w pv ps) :
    Calls Tryd.prog 8 #[.agg #[kv, bv, .int .i64 tag, pv]] w fun e w' => e = .returned (.bool true) ∧ Ext w w' := by
  have HM := hide hM
  have HK := hide hk
  have HB := hide hb
  have HP := hide hp
  obtain ⟨A0, c0, rfl⟩ : ∃ A c, kv = .slice A key.length c := by obtain ⟨_, A, c, h, _⟩ := hk; exact ⟨A, c, h⟩
  obtain ⟨A1, c1, rfl⟩ : ∃ A c, bv = .slice A b.length c := by obtain ⟨_, A, c, h, _⟩ := hb; exact ⟨A, c, h⟩
  clear hM hk hb hp
  by_cases h1 : 300 < key.length
  · have d1 : decide ((300 : Int) < (key.length : Int)) = true := decide_eq_true (by omega)
    have HS := hide True.intro
    go_enter Tryd.func8, Tryd.ntmps8
    go_wp2_with (first
      | (go_at_call 14; refine (sanity_any _ ((unhide HM).ext ((Ext.refl w).alloc _))).mono ?_; rintro e w1 ⟨rfl, hE1⟩; have H1 := hide (((Ext.refl w).alloc _).trans hE1); clear hE1)
      | (go_at_call 24; refine (short_parts ps _ _ ((unhide HP).ext (unhide H1))).mono ?_; rintro e w2 ⟨rfl, rfl⟩; rw [unhide HS]))
    go_ret
    exact ⟨rfl, unhide H1⟩
  · have d1 : decide ((300 : Int) < (key.length : Int)) = false := decide_eq_false (by omega)
    by_cases h2 : 300 < b.length
    · have d2 : decide ((300 : Int) < (b.length : Int)) = true := decide_eq_true (by omega)
      have HS := hide True.intro
      go_enter Tryd.func8, Tryd.ntmps8
      go_wp2_with (first
        | (go_at_call 14; refine (sanity_any _ ((unhide HM).ext ((Ext.refl w).alloc _))).mono ?_; rintro e w1 ⟨rfl, hE1⟩; have H1 := hide (((Ext.refl w).alloc _).trans hE1); clear hE1)
        | (go_at_call 24; refine (short_parts ps _ _ ((unhide HP).ext (unhide H1))).mono ?_; rintro e w2 ⟨rfl, rfl⟩; rw [unhide HS]))
      go_ret
      exact ⟨rfl, unhide H1⟩
    · have d2 : decide ((300 : Int) < (b.length : Int)) = false := decide_eq_false (by omega)
      cases hs : shortB ps
      · have HS := hide hs
        clear hs
        go_enter Tryd.func8, Tryd.ntmps8
        go_wp2_with (first
          | (go_at_call 14; refine (sanity_any _ ((unhide HM).ext ((Ext.refl w).alloc _))).mono ?_; rintro e w1 ⟨rfl, hE1⟩; have H1 := hide (((Ext.refl w).alloc _).trans hE1); clear hE1)
          | (go_at_call 24; refine (short_parts ps _ _ ((unhide HP).ext (unhide H1))).mono ?_; rintro e w2 ⟨rfl, rfl⟩; rw [unhide HS]))
        go_ret
        exact ⟨rfl, unhide H1⟩
      · have HS := hide hs
        have hs' : ps.length ≤ 20 ∧ ∀ p ∈ ps, p.length ≤ 300 := of_decide_eq_true hs
        have HBD := hide (show ps.length ≤ 90 ∧ ∀ p ∈ ps, p.length ≤ 10000 from ⟨by omega, fun p hp => by have := hs'.2 p hp; omega⟩)
        clear hs hs'
        obtain ⟨L1, hL1⟩ : ∃ r, (digestS tag ps).map u8v = r := ⟨_, rfl⟩
        obtain ⟨L2, hL2⟩ : ∃ r, (hmac key b).map u8v = r := ⟨_, rfl⟩
        obtain ⟨L4, hL4⟩ : ∃ r, (deriveS key b ps).map u8v = r := ⟨_, rfl⟩
        obtain ⟨L5, hL5⟩ : ∃ r, (sha b).map u8v = r := ⟨_, rfl⟩
        obtain ⟨sk, hsk⟩ : ∃ s, strOf key = s := ⟨_, rfl⟩
        obtain ⟨sb, hsb⟩ : ∃ s, strOf b = s := ⟨_, rfl⟩
        have heq1 : ∀ W, (binOp .eql 32 (.agg L1.toArray) (.agg L1.toArray)).run Tryd.prog W = .ok (.bool true) W := same16 (by rw [hL1]) (digestS_length _ _)
        have heq2 : ∀ W, (binOp .eql 27 (.agg L2.toArray) (.agg L2.toArray)).run Tryd.prog W = .ok (.bool true) W := same32 (by rw [hL2]) (hmac_length _ _)
        have heq4 : ∀ W, (binOp .eql 32 (.agg L4.toArray) (.agg L4.toArray)).run Tryd.prog W = .ok (.bool true) W := same16 (by rw [hL4]) (deriveS_length _ _ _)
        have heq5 : ∀ W, (binOp .eql 27 (.agg L5.toArray) (.agg L5.toArray)).run Tryd.prog W = .ok (.bool true) W := same32 (by rw [hL5]) (sha_length _)
        have HL1 := hide (show L1.toArray.size = 16 ∧ L1.toArray.all (·.oneCell') = true from by rw [← hL1]; exact ⟨by simpa using digestS_length _ _, bytes_one _⟩)
        have HL2 := hide (show L2.toArray.size = 32 ∧ L2.toArray.all (·.oneCell') = true from by rw [← hL2]; exact ⟨by simpa using hmac_length _ _, bytes_one _⟩)
        have HL4 := hide (show L4.toArray.size = 16 ∧ L4.toArray.all (·.oneCell') = true from by rw [← hL4]; exact ⟨by simpa using deriveS_length _ _ _, bytes_one _⟩)
        have HL5 := hide (show L5.toArray.size = 32 ∧ L5.toArray.all (·.oneCell') = true from by rw [← hL5]; exact ⟨by simpa using sha_length _, bytes_one _⟩)
        have HR1 := hide hL1
        have HR2 := hide hL2
        have HR4 := hide hL4
        have HR5 := hide hL5
        have HSK := hide hsk
        have HSB := hide hsb
        have HSBL := hide (show sb.data.toList = b ∧ sb.size ≤ 10000 from by rw [← hsb]; exact ⟨strOf_list b, by rw [strOf_size]; omega⟩)
        clear hL1 hL2 hL4 hL5 hsk hsb
        go_enter Tryd.func8, Tryd.ntmps8
        go_upto_region 15 with (first
          | (go_at_call 14; refine (sanity_any _ ((unhide HM).ext ((Ext.refl w).alloc _))).mono ?_; rintro e w1 ⟨rfl, hE1⟩; have H1 := hide (((Ext.refl w).alloc _).trans hE1); clear hE1)
          | (go_at_call 24; refine (short_parts ps _ _ ((unhide HP).ext (unhide H1))).mono ?_; rintro e w2 ⟨rfl, rfl⟩; rw [unhide HS])
          | (refine wpList_strOf (src := 22) (dst := 9) (x := .tmp 38) (l := key) rfl rfl Tryd.underlying22 Tryd.underlying5 Tryd.underlying9 rfl ((unhide HK).ext (unhide H1)) ?_; rw [unhide HSK])
          | (refine wpList_strOf (src := 22) (dst := 9) (x := .tmp 40) (l := b) rfl rfl Tryd.underlying22 Tryd.underlying5 Tryd.underlying9 rfl ((unhide HB).ext (unhide H1)) ?_; rw [unhide HSB])
          | (go_at_call 26; refine (rdigest_any tag ps _ _ ((unhide HP).ext (unhide H1)) (by have := (unhide HBD).1; omega) (unhide HBD).2).mono ?_; rintro e w2 ⟨rfl, hE2⟩; rw [unhide HR1]; have H2 := hide ((unhide H1).trans hE2); clear hE2)
          | (refine wpList_storeB (ty := 32) (t := 32) (x := .tmp 10) (y := .tmp 44) rfl rfl digest_wide rfl rfl (Blk.new w2 _ _) rfl (unhide HL1).1 (unhide HL1).2 ?_; intro w3 hb3 hc3 hz3; have H3 := hide (And.intro (store_ext (unhide H2) hc3) hb3); clear hb3 hc3 hz3)
          | (go_at_call 19; refine (hmac_any key b _ _ _ ((unhide HM).ext (unhide H3).1) ((unhide HK).ext (unhide H3).1) ((unhide HB).ext (unhide H3).1) (by omega) (by omega)).mono ?_; rintro e w4 ⟨rfl, hE4⟩; rw [unhide HR2]; have H4 := hide (And.intro ((unhide H3).1.trans hE4) ((unhide H3).2.ext hE4)); clear hE4)
          | (refine wpList_storeB (ty := 27) (t := 27) (x := .tmp 11) (y := .tmp 47) rfl rfl arr32_wide rfl rfl (Blk.new w4 _ _) rfl (unhide HL2).1 (unhide HL2).2 ?_; intro w5 hb5 hc5 hz5; have H5 := hide (And.intro (store_ext (unhide H4).1 hc5) (And.intro ((unhide H4).2.ext (store_ext1 hc5)) hb5)); clear hb5 hc5 hz5)
          | (go_at_call 25; refine (digest_any tag ps _ _ ((unhide HM).ext (unhide H5).1) ((unhide HP).ext (unhide H5).1) (by have := (unhide HBD).1; omega) (unhide HBD).2).mono ?_; rintro e w6 ⟨rfl, hE6⟩; rw [unhide HR1]; have H6 := hide (And.intro ((unhide H5).1.trans hE6) (And.intro ((unhide H5).2.1.ext hE6) ((unhide H5).2.2.ext hE6))); clear hE6)
          | (refine wpList_storeB (ty := 32) (t := 32) (x := .tmp 12) (y := .tmp 50) rfl rfl digest_wide rfl rfl (Blk.new w6 _ _) rfl (unhide HL1).1 (unhide HL1).2 ?_; intro w7 hb7 hc7 hz7; have H7 := hide (And.intro (store_ext (unhide H6).1 hc7) (And.intro ((unhide H6).2.1.ext (store_ext1 hc7)) (And.intro ((unhide H6).2.2.ext (store_ext1 hc7)) hb7))); clear hb7 hc7 hz7)
          | (go_at_call 27; refine (derive_any key _ sb ps _ _ ((unhide HM).ext (unhide H7).1) ((unhide HK).ext (unhide H7).1) (by omega) (unhide HSBL).2 ((unhide HP).ext (unhide H7).1) (unhide HBD).1 (unhide HBD).2).mono ?_; rintro e w8 ⟨rfl, hE8⟩; rw [(unhide HSBL).1, unhide HR4]; have H8 := hide (And.intro ((unhide H7).1.trans hE8) (And.intro ((unhide H7).2.1.ext hE8) (And.intro ((unhide H7).2.2.1.ext hE8) ((unhide H7).2.2.2.ext hE8)))); clear hE8)
          | (refine wpList_storeB (ty := 32) (t := 32) (x := .tmp 13) (y := .tmp 54) rfl rfl digest_wide rfl rfl (Blk.new w8 _ _) rfl (unhide HL4).1 (unhide HL4).2 ?_; intro w9 hb9 hc9 hz9; have H9 := hide (And.intro (store_ext (unhide H8).1 hc9) (And.intro ((unhide H8).2.1.ext (store_ext1 hc9)) (And.intro ((unhide H8).2.2.1.ext (store_ext1 hc9)) (And.intro ((unhide H8).2.2.2.ext (store_ext1 hc9)) hb9)))); clear hb9 hc9 hz9)
          | (go_at_call 18; refine (sum_any b _ _ ((unhide HM).ext (unhide H9).1) ((unhide HB).ext (unhide H9).1) (by omega)).mono ?_; rintro e w10 ⟨rfl, hE10⟩; rw [unhide HR5]; have H10 := hide (And.intro ((unhide H9).1.trans hE10) (And.intro ((unhide H9).2.1.ext hE10) (And.intro ((unhide H9).2.2.1.ext hE10) (And.intro ((unhide H9).2.2.2.1.ext hE10) ((unhide H9).2.2.2.2.ext hE10))))); clear hE10)
          | (refine wpList_storeB (ty := 27) (t := 27) (x := .tmp 14) (y := .tmp 56) rfl rfl arr32_wide rfl rfl (Blk.new w10 _ _) rfl (unhide HL5).1 (unhide HL5).2 ?_; intro w11 hb11 hc11 hz11; have H11 := hide (And.intro (store_ext (unhide H10).1 hc11) (And.intro ((unhide H10).2.1.ext (store_ext1 hc11)) (And.intro ((unhide H10).2.2.1.ext (store_ext1 hc11)) (And.intro ((unhide H10).2.2.2.1.ext (store_ext1 hc11)) (And.intro ((unhide H10).2.2.2.2.ext (store_ext1 hc11)) hb11))))); clear hb11 hc11 hz11))
        have HZ := hide (show Reads w11 1 (.slice A0 key.length c0) key.length (key.map u8v) ∧ strOf key = sk ∧ Reads w11 1 (.slice A1 b.length c1) b.length (b.map u8v) ∧ strOf b = sb ∧ w11.rangeAt w2.heap.size 0 L1 ∧ w11.rangeAt w4.heap.size 0 L2 ∧ w11.rangeAt w6.heap.size 0 L1 ∧ w11.rangeAt w8.heap.size 0 L4 ∧ w11.rangeAt w10.heap.size 0 L5 from
          ⟨(unhide HK).ext (unhide H11).1, unhide HSK, (unhide HB).ext (unhide H11).1, unhide HSB, (unhide H11).2.1.range, (unhide H11).2.2.1.range, (unhide H11).2.2.2.1.range, (unhide H11).2.2.2.2.1.range, (unhide H11).2.2.2.2.2.range⟩)
        have HE11 := hide (unhide H11).1
        have HQ := hide (unhide H11).2
        clear H1 H2 H3 H4 H5 H6 H7 H8 H9 H10 H11
        have HF := hide (fun W (hE : Ext w11 W) => unch_facts (kv := .slice A0 key.length c0) (bv := .slice A1 b.length c1) (unhide HZ) (unhide HQ) hE)
        have hl1 : L1.length = 16 := by simpa using (unhide HL1).1
        have hl2 : L2.length = 32 := by simpa using (unhide HL2).1
        have hl4 : L4.length = 16 := by simpa using (unhide HL4).1
        have hl5 : L5.length = 32 := by simpa using (unhide HL5).1
        refine wp_region_held_drew (S := fun w' => Ext w11 w') (by kernel_rfl) (Ext.refl _).drew (fun hHeld => ?_)
        refine wpAnyH_take (i := 0) (oi := _) (v := ?_) rfl (by kernel_rfl) (by kernel_rfl) (by kernel_rfl) (fun _ _ _ h => h) (Or.inl ⟨by rfl, fun wz hSz => ?_⟩) (by assumption) ?_
        rotate_left
        · (have hf := (unhide HF) wz hSz; obtain ⟨f1, f2, -, -, -, -, -⟩ := hf; clear hSz; first | (go_simp; done) | (go_simp; with_reducible rfl))
        try simp only [Act.put, List.setIfInBounds_toArray, List.set_cons_zero, List.set_cons_succ, List.getElem_toArray, List.getElem_cons_succ, List.getElem_cons_zero]
        refine wpAnyH_take (i := 1) (oi := _) (v := ?_) rfl (by kernel_rfl) (by kernel_rfl) (by kernel_rfl) (fun _ _ _ h => h) (Or.inl ⟨by rfl, fun wz hSz => ?_⟩) (by assumption) ?_
        rotate_left
        · (have hf := (unhide HF) wz hSz; obtain ⟨f1, f2, -, -, -, -, -⟩ := hf; clear hSz; first | (go_simp; done) | (go_simp; with_reducible rfl))
        try simp only [Act.put, List.setIfInBounds_toArray, List.set_cons_zero, List.set_cons_succ, List.getElem_toArray, List.getElem_cons_succ, List.getElem_cons_zero]
        refine wpAnyH_take (i := 2) (oi := _) (v := ?_) rfl (by kernel_rfl) (by kernel_rfl) (by kernel_rfl) (fun _ _ _ h => h) (Or.inl ⟨by rfl, fun wz hSz => ?_⟩) (by assumption) ?_
        rotate_left
        · (have hf := (unhide HF) wz hSz; obtain ⟨f1, f2, -, -, -, -, -⟩ := hf; clear hSz; first | (go_simp; done) | (go_simp; with_reducible rfl))
        try simp only [Act.put, List.setIfInBounds_toArray, List.set_cons_zero, List.set_cons_succ, List.getElem_toArray, List.getElem_cons_succ, List.getElem_cons_zero]
        refine wpAnyH_take (i := 3) (oi := _) (v := ?_) rfl (by kernel_rfl) (by kernel_rfl) (by kernel_rfl) (fun _ _ _ h => h) (Or.inl ⟨by rfl, fun wz hSz => ?_⟩) (by assumption) ?_
        rotate_left
        · (have hf := (unhide HF) wz hSz; obtain ⟨f1, f2, -, -, -, -, -⟩ := hf; clear hSz; first | (go_simp; done) | (go_simp; with_reducible rfl))
        try simp only [Act.put, List.setIfInBounds_toArray, List.set_cons_zero, List.set_cons_succ, List.getElem_toArray, List.getElem_cons_succ, List.getElem_cons_zero]
        refine wpAnyH_take (i := 4) (oi := _) (v := ?_) rfl (by kernel_rfl) (by kernel_rfl) (by kernel_rfl) (fun _ _ _ h => h) (Or.inl ⟨by rfl, fun wz hSz => ?_⟩) (by assumption) ?_
        rotate_left
        · (have hf := (unhide HF) wz hSz; obtain ⟨f1, f2, -, -, -, -, -⟩ := hf; clear hSz; first | (go_simp; done) | (go_simp; with_reducible rfl))
        try simp only [Act.put, List.setIfInBounds_toArray, List.set_cons_zero, List.set_cons_succ, List.getElem_toArray, List.getElem_cons_succ, List.getElem_cons_zero]
        refine wpAnyH_take (i := 5) (oi := _) (v := ?_) rfl (by kernel_rfl) (by kernel_rfl) (by kernel_rfl) (fun _ _ _ h => h) (Or.inl ⟨by rfl, fun wz hSz => ?_⟩) (by assumption) ?_
        rotate_left
        · (have hf := (unhide HF) wz hSz; obtain ⟨f1, f2, -, -, -, -, -⟩ := hf; clear hSz; first | (go_simp; done) | (go_simp; with_reducible rfl))
        try simp only [Act.put, List.setIfInBounds_toArray, List.set_cons_zero, List.set_cons_succ, List.getElem_toArray, List.getElem_cons_succ, List.getElem_cons_zero]
        refine wpAnyH_take (i := 6) (oi := _) (v := ?_) rfl (by kernel_rfl) (by kernel_rfl) (by kernel_rfl) (fun _ _ _ h => h) (Or.inl ⟨by rfl, fun wz hSz => ?_⟩) (by assumption) ?_
        rotate_left
        · (have hf := (unhide HF) wz hSz; obtain ⟨f1, f2, -, -, -, -, -⟩ := hf; clear hSz; first | (go_simp; done) | (go_simp; with_reducible rfl))
        try simp only [Act.put, List.setIfInBounds_toArray, List.set_cons_zero, List.set_cons_succ, List.getElem_toArray, List.getElem_cons_succ, List.getElem_cons_zero]
        refine wpAnyH_take (i := 7) (oi := _) (v := ?_) rfl (by kernel_rfl) (by kernel_rfl) (by kernel_rfl) (fun _ _ _ h => h) (Or.inl ⟨by rfl, fun wz hSz => ?_⟩) (by assumption) ?_
        rotate_left
        · (have hf := (unhide HF) wz hSz; obtain ⟨f1, f2, -, -, -, -, -⟩ := hf; clear hSz; first | (go_simp; done) | (go_simp; with_reducible rfl))
        try simp only [Act.put, List.setIfInBounds_toArray, List.set_cons_zero, List.set_cons_succ, List.getElem_toArray, List.getElem_cons_succ, List.getElem_cons_zero]
        refine wpAnyH_take (i := 8) (oi := _) (v := ?_) rfl (by kernel_rfl) (by kernel_rfl) (by kernel_rfl) (fun _ _ _ h => h) (Or.inl ⟨by rfl, fun wz hSz => ?_⟩) (by assumption) ?_
        rotate_left
        · (have hf := (unhide HF) wz hSz; obtain ⟨f1, f2, -, -, -, -, -⟩ := hf; clear hSz; first | (go_simp; done) | (go_simp; with_reducible rfl))
        try simp only [Act.put, List.setIfInBounds_toArray, List.set_cons_zero, List.set_cons_succ, List.getElem_toArray, List.getElem_cons_succ, List.getElem_cons_zero]
        refine wpAnyH_take (i := 9) (oi := _) (v := ?_) rfl (by kernel_rfl) (by kernel_rfl) (by kernel_rfl) (fun _ _ _ h => h) (Or.inl ⟨by rfl, fun wz hSz => ?_⟩) (by assumption) ?_
        rotate_left
        · (have hf := (unhide HF) wz hSz; obtain ⟨f1, f2, -, -, -, -, -⟩ := hf; clear hSz; first | (go_simp; done) | (go_simp; with_reducible rfl))
        try simp only [Act.put, List.setIfInBounds_toArray, List.set_cons_zero, List.set_cons_succ, List.getElem_toArray, List.getElem_cons_succ, List.getElem_cons_zero]
        refine wpAnyH_take (i := 10) (oi := _) (v := ?_) rfl (by kernel_rfl) (by kernel_rfl) (by kernel_rfl) (fun _ _ _ h => h) (Or.inl ⟨by rfl, fun wz hSz => ?_⟩) (by assumption) ?_
        rotate_left
        · (have hf := (unhide HF) wz hSz; obtain ⟨f1, f2, -, -, -, -, -⟩ := hf; clear hSz; first | (go_simp; done) | (go_simp; with_reducible rfl))
        try simp only [Act.put, List.setIfInBounds_toArray, List.set_cons_zero, List.set_cons_succ, List.getElem_toArray, List.getElem_cons_succ, List.getElem_cons_zero]
        refine wpAnyH_take (i := 11) (oi := _) (v := ?_) rfl (by kernel_rfl) (by kernel_rfl) (by kernel_rfl) (fun _ _ _ h => h) (Or.inl ⟨by rfl, fun wz hSz => ?_⟩) (by assumption) ?_
        rotate_left
        · (have hf := (unhide HF) wz hSz; obtain ⟨f1, f2, -, -, -, -, -⟩ := hf; clear hSz; first | (go_simp; done) | (go_simp; with_reducible rfl))
        try simp only [Act.put, List.setIfInBounds_toArray, List.set_cons_zero, List.set_cons_succ, List.getElem_toArray, List.getElem_cons_succ, List.getElem_cons_zero]
        refine wpAnyH_take (i := 12) (oi := _) (v := ?_) rfl (by kernel_rfl) (by kernel_rfl) (by kernel_rfl) (fun _ _ _ h => h) (Or.inl ⟨by rfl, fun wz hSz => ?_⟩) (by assumption) ?_
        rotate_left
        · (have hf := (unhide HF) wz hSz; obtain ⟨f1, f2, -, -, -, -, -⟩ := hf; clear hSz; first | (go_simp; done) | (go_simp; with_reducible rfl))
        try simp only [Act.put, List.setIfInBounds_toArray, List.set_cons_zero, List.set_cons_succ, List.getElem_toArray, List.getElem_cons_succ, List.getElem_cons_zero]
        refine wpAnyH_take (i := 13) (oi := _) (v := ?_) rfl (by kernel_rfl) (by kernel_rfl) (by kernel_rfl) (fun _ _ _ h => h) (Or.inl ⟨by rfl, fun wz hSz => ?_⟩) (by assumption) ?_
        rotate_left
        · (have hf := (unhide HF) wz hSz; obtain ⟨f1, f2, -, -, -, -, -⟩ := hf; clear hSz; first | (go_simp; done) | (go_simp; with_reducible rfl))
        try simp only [Act.put, List.setIfInBounds_toArray, List.set_cons_zero, List.set_cons_succ, List.getElem_toArray, List.getElem_cons_succ, List.getElem_cons_zero]
        refine wpAnyH_take (i := 14) (oi := _) (v := ?_) rfl (by kernel_rfl) (by kernel_rfl) (by kernel_rfl) (fun _ _ _ h => h) (Or.inl ⟨by rfl, fun wz hSz => ?_⟩) (by assumption) ?_
        rotate_left
        · (have hf := (unhide HF) wz hSz; obtain ⟨f1, f2, -, -, -, -, -⟩ := hf; clear hSz; first | (go_simp; done) | (go_simp; with_reducible rfl))
        try simp only [Act.put, List.setIfInBounds_toArray, List.set_cons_zero, List.set_cons_succ, List.getElem_toArray, List.getElem_cons_succ, List.getElem_cons_zero]
        refine wpAnyH_take (i := 15) (oi := _) (v := ?_) rfl (by kernel_rfl) (by kernel_rfl) (by kernel_rfl) (fun _ _ _ h => h) (Or.inl ⟨by rfl, fun wz hSz => ?_⟩) (by assumption) ?_
        rotate_left
        · (have hf := (unhide HF) wz hSz; obtain ⟨f1, f2, -, -, -, -, -⟩ := hf; clear hSz; first | (go_simp; done) | (go_simp; with_reducible rfl))
        try simp only [Act.put, List.setIfInBounds_toArray, List.set_cons_zero, List.set_cons_succ, List.getElem_toArray, List.getElem_cons_succ, List.getElem_cons_zero]
        refine wpAnyH_take (i := 17) (oi := _) (v := _) rfl (by kernel_rfl) (by kernel_rfl) (by kernel_rfl) (fun _ _ _ h => h) (yl digest_wide rfl (by rfl) rfl (unhide HL1).1 (fun w hw => (unhide HQ).1.ext hw)) (by assumption) ?_
        try simp only [Act.put, List.setIfInBounds_toArray, List.set_cons_zero, List.set_cons_succ, List.getElem_toArray, List.getElem_cons_succ, List.getElem_cons_zero]
        refine wpAnyH_ready (rs := [16]) (by kernel_rfl) (by simp) (AllReadyH.cons (o := _) rfl (fun K hK => ?_) AllReadyH.nil)
        go_simp
        refine (rdigest_any tag ps _ _ ((unhide HP).ext ((unhide HE11).trans hHeld)) (by have := (unhide HBD).1; omega) (unhide HBD).2).mono ?_; rintro e w12 ⟨rfl, hE12⟩; rw [unhide HR1]; have hS := Ext.trans hHeld hE12; clear hE12 hHeld
        refine hK.out _ _ ?_ (fun hHeld => ?_)
        · exact hS
        clear hK K
        try simp only [Act.put, List.setIfInBounds_toArray, List.set_cons_zero, List.set_cons_succ, List.getElem_toArray, List.getElem_cons_succ, List.getElem_cons_zero]
        refine wpAnyH_take (i := 18) (oi := _) (v := ?_) rfl (by kernel_rfl) (by kernel_rfl) (by kernel_rfl) (fun _ _ _ h => h) (Or.inl ⟨by rfl, fun wz hSz => ?_⟩) (by assumption) ?_
        rotate_left
        · (have hf := (unhide HF) wz hSz; obtain ⟨f1, f2, -, -, -, -, -⟩ := hf; clear hSz; first | (go_simp; done) | (go_simp; with_reducible rfl))
        try simp only [Act.put, List.setIfInBounds_toArray, List.set_cons_zero, List.set_cons_succ, List.getElem_toArray, List.getElem_cons_succ, List.getElem_cons_zero]
        refine wpAnyH_take (i := 19) (oi := _) (v := ?_) rfl (by kernel_rfl) (by kernel_rfl) (by kernel_rfl) (fun _ _ _ h => h) (Or.inl ⟨by rfl, fun wz hSz => ?_⟩) (by assumption) ?_
        rotate_left
        · (have hf := (unhide HF) wz hSz; obtain ⟨f1, f2, -, -, -, -, -⟩ := hf; clear hSz; first | (go_simp; done) | (go_simp; with_reducible rfl))
        try simp only [Act.put, List.setIfInBounds_toArray, List.set_cons_zero, List.set_cons_succ, List.getElem_toArray, List.getElem_cons_succ, List.getElem_cons_zero]
        refine wpAnyH_take (i := 20) (oi := _) (v := ?_) rfl (by kernel_rfl) (by kernel_rfl) (by kernel_rfl) (fun _ _ _ h => h) (Or.inl ⟨by rfl, fun wz hSz => ?_⟩) (by assumption) ?_
        rotate_left
        · (have hf := (unhide HF) wz hSz; obtain ⟨f1, f2, -, -, -, -, -⟩ := hf; clear hSz; first | (go_simp; done) | (go_simp; with_reducible rfl))
        try simp only [Act.put, List.setIfInBounds_toArray, List.set_cons_zero, List.set_cons_succ, List.getElem_toArray, List.getElem_cons_succ, List.getElem_cons_zero]
        refine wpAnyH_take (i := 21) (oi := _) (v := ?_) rfl (by kernel_rfl) (by kernel_rfl) (by kernel_rfl) (fun _ _ _ h => h) (Or.inl ⟨by rfl, fun wz hSz => ?_⟩) (by assumption) ?_
        rotate_left
        · (have hf := (unhide HF) wz hSz; obtain ⟨f1, f2, -, -, -, -, -⟩ := hf; clear hSz; first | (go_simp; done) | (go_simp; with_reducible rfl))
        try simp only [Act.put, List.setIfInBounds_toArray, List.set_cons_zero, List.set_cons_succ, List.getElem_toArray, List.getElem_cons_succ, List.getElem_cons_zero]
        refine wpAnyH_take (i := 22) (oi := _) (v := ?_) rfl (by kernel_rfl) (by kernel_rfl) (by kernel_rfl) (fun _ _ _ h => h) (Or.inl ⟨by rfl, fun wz hSz => ?_⟩) (by assumption) ?_
        rotate_left
        · (have hf := (unhide HF) wz hSz; obtain ⟨f1, f2, -, -, -, -, -⟩ := hf; clear hSz; first | (go_simp; done) | (go_simp; with_reducible rfl))
        try simp only [Act.put, List.setIfInBounds_toArray, List.set_cons_zero, List.set_cons_succ, List.getElem_toArray, List.getElem_cons_succ, List.getElem_cons_zero]
        refine wpAnyH_take (i := 24) (oi := _) (v := _) rfl (by kernel_rfl) (by kernel_rfl) (by kernel_rfl) (fun _ _ _ h => h) (yl arr32_wide rfl (by rfl) rfl (unhide HL2).1 (fun w hw => (unhide HQ).2.1.ext hw)) (by assumption) ?_
        try simp only [Act.put, List.setIfInBounds_toArray, List.set_cons_zero, List.set_cons_succ, List.getElem_toArray, List.getElem_cons_succ, List.getElem_cons_zero]
        refine wpAnyH_ready (rs := [23]) (by kernel_rfl) (by simp) (AllReadyH.cons (o := _) rfl (fun K hK => ?_) AllReadyH.nil)
        go_simp
        refine (hmac_any key b _ _ _ ((unhide HM).ext ((unhide HE11).trans hHeld)) ((unhide HK).ext ((unhide HE11).trans hHeld)) ((unhide HB).ext ((unhide HE11).trans hHeld)) (by omega) (by omega)).mono ?_; rintro e w13 ⟨rfl, hE13⟩; rw [unhide HR2]; have hS := Ext.trans hHeld hE13; clear hE13 hHeld
        refine hK.out _ _ ?_ (fun hHeld => ?_)
        · exact hS
        clear hK K
        try simp only [Act.put, List.setIfInBounds_toArray, List.set_cons_zero, List.set_cons_succ, List.getElem_toArray, List.getElem_cons_succ, List.getElem_cons_zero]
        refine wpAnyH_take (i := 25) (oi := _) (v := ?_) rfl (by kernel_rfl) (by kernel_rfl) (by kernel_rfl) (fun _ _ _ h => h) (Or.inl ⟨by rfl, fun wz hSz => ?_⟩) (by assumption) ?_
        rotate_left
        · (have hf := (unhide HF) wz hSz; obtain ⟨f1, f2, -, -, -, -, -⟩ := hf; clear hSz; first | (go_simp; done) | (go_simp; with_reducible rfl))
        try simp only [Act.put, List.setIfInBounds_toArray, List.set_cons_zero, List.set_cons_succ, List.getElem_toArray, List.getElem_cons_succ, List.getElem_cons_zero]
        refine wpAnyH_take (i := 26) (oi := _) (v := ?_) rfl (by kernel_rfl) (by kernel_rfl) (by kernel_rfl) (fun _ _ _ h => h) (Or.inl ⟨by rfl, fun wz hSz => ?_⟩) (by assumption) ?_
        rotate_left
        · (have hf := (unhide HF) wz hSz; obtain ⟨f1, f2, -, -, -, -, -⟩ := hf; clear hSz; first | (go_simp; done) | (go_simp; with_reducible rfl))
        try simp only [Act.put, List.setIfInBounds_toArray, List.set_cons_zero, List.set_cons_succ, List.getElem_toArray, List.getElem_cons_succ, List.getElem_cons_zero]
        refine wpAnyH_take (i := 27) (oi := _) (v := ?_) rfl (by kernel_rfl) (by kernel_rfl) (by kernel_rfl) (fun _ _ _ h => h) (Or.inl ⟨by rfl, fun wz hSz => ?_⟩) (by assumption) ?_
        rotate_left
        · (have hf := (unhide HF) wz hSz; obtain ⟨f1, f2, -, -, -, -, -⟩ := hf; clear hSz; first | (go_simp; done) | (go_simp; with_reducible rfl))
        try simp only [Act.put, List.setIfInBounds_toArray, List.set_cons_zero, List.set_cons_succ, List.getElem_toArray, List.getElem_cons_succ, List.getElem_cons_zero]
        refine wpAnyH_take (i := 28) (oi := _) (v := ?_) rfl (by kernel_rfl) (by kernel_rfl) (by kernel_rfl) (fun _ _ _ h => h) (Or.inl ⟨by rfl, fun wz hSz => ?_⟩) (by assumption) ?_
        rotate_left
        · (have hf := (unhide HF) wz hSz; obtain ⟨f1, f2, -, -, -, -, -⟩ := hf; clear hSz; first | (go_simp; done) | (go_simp; with_reducible rfl))
        try simp only [Act.put, List.setIfInBounds_toArray, List.set_cons_zero, List.set_cons_succ, List.getElem_toArray, List.getElem_cons_succ, List.getElem_cons_zero]
        refine wpAnyH_take (i := 29) (oi := _) (v := ?_) rfl (by kernel_rfl) (by kernel_rfl) (by kernel_rfl) (fun _ _ _ h => h) (Or.inl ⟨by rfl, fun wz hSz => ?_⟩) (by assumption) ?_
        rotate_left
        · (have hf := (unhide HF) wz hSz; obtain ⟨f1, f2, -, -, -, -, -⟩ := hf; clear hSz; first | (go_simp; done) | (go_simp; with_reducible rfl))
        try simp only [Act.put, List.setIfInBounds_toArray, List.set_cons_zero, List.set_cons_succ, List.getElem_toArray, List.getElem_cons_succ, List.getElem_cons_zero]
        refine wpAnyH_take (i := 31) (oi := _) (v := _) rfl (by kernel_rfl) (by kernel_rfl) (by kernel_rfl) (fun _ _ _ h => h) (yl digest_wide rfl (by rfl) rfl (unhide HL1).1 (fun w hw => (unhide HQ).2.2.1.ext hw)) (by assumption) ?_
        try simp only [Act.put, List.setIfInBounds_toArray, List.set_cons_zero, List.set_cons_succ, List.getElem_toArray, List.getElem_cons_succ, List.getElem_cons_zero]
        refine wpAnyH_ready (rs := [30]) (by kernel_rfl) (by simp) (AllReadyH.cons (o := _) rfl (fun K hK => ?_) AllReadyH.nil)
        go_simp
        refine (digest_any tag ps _ _ ((unhide HM).ext ((unhide HE11).trans hHeld)) ((unhide HP).ext ((unhide HE11).trans hHeld)) (by have := (unhide HBD).1; omega) (unhide HBD).2).mono ?_; rintro e w14 ⟨rfl, hE14⟩; rw [unhide HR1]; have hS := Ext.trans hHeld hE14; clear hE14 hHeld
        refine hK.out _ _ ?_ (fun hHeld => ?_)
        · exact hS
        clear hK K
        try simp only [Act.put, List.setIfInBounds_toArray, List.set_cons_zero, List.set_cons_succ, List.getElem_toArray, List.getElem_cons_succ, List.getElem_cons_zero]
        refine wpAnyH_take (i := 32) (oi := _) (v := ?_) rfl (by kernel_rfl) (by kernel_rfl) (by kernel_rfl) (fun _ _ _ h => h) (Or.inl ⟨by rfl, fun wz hSz => ?_⟩) (by assumption) ?_
        rotate_left
        · (have hf := (unhide HF) wz hSz; obtain ⟨f1, f2, -, -, -, -, -⟩ := hf; clear hSz; first | (go_simp; done) | (go_simp; with_reducible rfl))
        try simp only [Act.put, List.setIfInBounds_toArray, List.set_cons_zero, List.set_cons_succ, List.getElem_toArray, List.getElem_cons_succ, List.getElem_cons_zero]
        refine wpAnyH_take (i := 33) (oi := _) (v := ?_) rfl (by kernel_rfl) (by kernel_rfl) (by kernel_rfl) (fun _ _ _ h => h) (Or.inl ⟨by rfl, fun wz hSz => ?_⟩) (by assumption) ?_
        rotate_left
        · (have hf := (unhide HF) wz hSz; obtain ⟨f1, f2, -, -, -, -, -⟩ := hf; clear hSz; first | (go_simp; done) | (go_simp; with_reducible rfl))
        try simp only [Act.put, List.setIfInBounds_toArray, List.set_cons_zero, List.set_cons_succ, List.getElem_toArray, List.getElem_cons_succ, List.getElem_cons_zero]
        refine wpAnyH_take (i := 34) (oi := _) (v := ?_) rfl (by kernel_rfl) (by kernel_rfl) (by kernel_rfl) (fun _ _ _ h => h) (Or.inl ⟨by rfl, fun wz hSz => ?_⟩) (by assumption) ?_
        rotate_left
        · (have hf := (unhide HF) wz hSz; obtain ⟨f1, f2, -, -, -, -, -⟩ := hf; clear hSz; first | (go_simp; done) | (go_simp; with_reducible rfl))
        try simp only [Act.put, List.setIfInBounds_toArray, List.set_cons_zero, List.set_cons_succ, List.getElem_toArray, List.getElem_cons_succ, List.getElem_cons_zero]
        refine wpAnyH_take (i := 35) (oi := _) (v := ?_) rfl (by kernel_rfl) (by kernel_rfl) (by kernel_rfl) (fun _ _ _ h => h) (Or.inl ⟨by rfl, fun wz hSz => ?_⟩) (by assumption) ?_
        rotate_left
        · (have hf := (unhide HF) wz hSz; obtain ⟨f1, f2, -, -, -, -, -⟩ := hf; clear hSz; first | (go_simp; done) | (go_simp; with_reducible rfl))
        try simp only [Act.put, List.setIfInBounds_toArray, List.set_cons_zero, List.set_cons_succ, List.getElem_toArray, List.getElem_cons_succ, List.getElem_cons_zero]
        refine wpAnyH_take (i := 36) (oi := _) (v := ?_) rfl (by kernel_rfl) (by kernel_rfl) (by kernel_rfl) (fun _ _ _ h => h) (Or.inl ⟨by rfl, fun wz hSz => ?_⟩) (by assumption) ?_
        rotate_left
        · (have hf := (unhide HF) wz hSz; obtain ⟨f1, f2, -, -, -, -, -⟩ := hf; clear hSz; first | (go_simp; done) | (go_simp; with_reducible rfl))
        try simp only [Act.put, List.setIfInBounds_toArray, List.set_cons_zero, List.set_cons_succ, List.getElem_toArray, List.getElem_cons_succ, List.getElem_cons_zero]
        refine wpAnyH_take (i := 37) (oi := _) (v := ?_) rfl (by kernel_rfl) (by kernel_rfl) (by kernel_rfl) (fun _ _ _ h => h) (Or.inl ⟨by rfl, fun wz hSz => ?_⟩) (by assumption) ?_
        rotate_left
        · (have hf := (unhide HF) wz hSz; obtain ⟨f1, f2, -, -, -, -, -⟩ := hf; clear hSz; first | (go_simp; done) | (go_simp; with_reducible rfl))
        try simp only [Act.put, List.setIfInBounds_toArray, List.set_cons_zero, List.set_cons_succ, List.getElem_toArray, List.getElem_cons_succ, List.getElem_cons_zero]
        refine wpAnyH_take (i := 39) (oi := _) (v := _) rfl (by kernel_rfl) (by kernel_rfl) (by kernel_rfl) (fun _ _ _ h => h) (yl digest_wide rfl (by rfl) rfl (unhide HL4).1 (fun w hw => (unhide HQ).2.2.2.1.ext hw)) (by assumption) ?_
        try simp only [Act.put, List.setIfInBounds_toArray, List.set_cons_zero, List.set_cons_succ, List.getElem_toArray, List.getElem_cons_succ, List.getElem_cons_zero]
        refine wpAnyH_ready (rs := [38]) (by kernel_rfl) (by simp) (AllReadyH.cons (o := _) rfl (fun K hK => ?_) AllReadyH.nil)
        go_simp
        refine (derive_any key _ sb ps _ _ ((unhide HM).ext ((unhide HE11).trans hHeld)) ((unhide HK).ext ((unhide HE11).trans hHeld)) (by omega) (unhide HSBL).2 ((unhide HP).ext ((unhide HE11).trans hHeld)) (unhide HBD).1 (unhide HBD).2).mono ?_; rintro e w15 ⟨rfl, hE15⟩; rw [(unhide HSBL).1, unhide HR4]; have hS := Ext.trans hHeld hE15; clear hE15 hHeld
        refine hK.out _ _ ?_ (fun hHeld => ?_)
        · exact hS
        clear hK K
        try simp only [Act.put, List.setIfInBounds_toArray, List.set_cons_zero, List.set_cons_succ, List.getElem_toArray, List.getElem_cons_succ, List.getElem_cons_zero]
        refine wpAnyH_take (i := 40) (oi := _) (v := ?_) rfl (by kernel_rfl) (by kernel_rfl) (by kernel_rfl) (fun _ _ _ h => h) (Or.inl ⟨by rfl, fun wz hSz => ?_⟩) (by assumption) ?_
        rotate_left
        · (have hf := (unhide HF) wz hSz; obtain ⟨f1, f2, -, -, -, -, -⟩ := hf; clear hSz; first | (go_simp; done) | (go_simp; with_reducible rfl))
        try simp only [Act.put, List.setIfInBounds_toArray, List.set_cons_zero, List.set_cons_succ, List.getElem_toArray, List.getElem_cons_succ, List.getElem_cons_zero]
        refine wpAnyH_take (i := 41) (oi := _) (v := ?_) rfl (by kernel_rfl) (by kernel_rfl) (by kernel_rfl) (fun _ _ _ h => h) (Or.inl ⟨by rfl, fun wz hSz => ?_⟩) (by assumption) ?_
        rotate_left
        · (have hf := (unhide HF) wz hSz; obtain ⟨f1, f2, -, -, -, -, -⟩ := hf; clear hSz; first | (go_simp; done) | (go_simp; with_reducible rfl))
        try simp only [Act.put, List.setIfInBounds_toArray, List.set_cons_zero, List.set_cons_succ, List.getElem_toArray, List.getElem_cons_succ, List.getElem_cons_zero]
        refine wpAnyH_take (i := 42) (oi := _) (v := ?_) rfl (by kernel_rfl) (by kernel_rfl) (by kernel_rfl) (fun _ _ _ h => h) (Or.inl ⟨by rfl, fun wz hSz => ?_⟩) (by assumption) ?_
        rotate_left
        · (have hf := (unhide HF) wz hSz; obtain ⟨f1, f2, -, -, -, -, -⟩ := hf; clear hSz; first | (go_simp; done) | (go_simp; with_reducible rfl))
        try simp only [Act.put, List.setIfInBounds_toArray, List.set_cons_zero, List.set_cons_succ, List.getElem_toArray, List.getElem_cons_succ, List.getElem_cons_zero]
        refine wpAnyH_take (i := 43) (oi := _) (v := ?_) rfl (by kernel_rfl) (by kernel_rfl) (by kernel_rfl) (fun _ _ _ h => h) (Or.inl ⟨by rfl, fun wz hSz => ?_⟩) (by assumption) ?_
        rotate_left
        · (have hf := (unhide HF) wz hSz; obtain ⟨f1, f2, -, -, -, -, -⟩ := hf; clear hSz; first | (go_simp; done) | (go_simp; with_reducible rfl))
        try simp only [Act.put, List.setIfInBounds_toArray, List.set_cons_zero, List.set_cons_succ, List.getElem_toArray, List.getElem_cons_succ, List.getElem_cons_zero]
        refine wpAnyH_take (i := 45) (oi := _) (v := _) rfl (by kernel_rfl) (by kernel_rfl) (by kernel_rfl) (fun _ _ _ h => h) (yl arr32_wide rfl (by rfl) rfl (unhide HL5).1 (fun w hw => (unhide HQ).2.2.2.2.ext hw)) (by assumption) ?_
        try simp only [Act.put, List.setIfInBounds_toArray, List.set_cons_zero, List.set_cons_succ, List.getElem_toArray, List.getElem_cons_succ, List.getElem_cons_zero]
        refine wpAnyH_ready (rs := [44]) (by kernel_rfl) (by simp) (AllReadyH.cons (o := _) rfl (fun K hK => ?_) AllReadyH.nil)
        go_simp
        refine (sum_any b _ _ ((unhide HM).ext ((unhide HE11).trans hHeld)) ((unhide HB).ext ((unhide HE11).trans hHeld)) (by omega)).mono ?_; rintro e w16 ⟨rfl, hE16⟩; rw [unhide HR5]; have hS := Ext.trans hHeld hE16; clear hE16 hHeld
        refine hK.out _ _ ?_ (fun hHeld => ?_)
        · exact hS
        clear hK K
        try simp only [Act.put, List.setIfInBounds_toArray, List.set_cons_zero, List.set_cons_succ, List.getElem_toArray, List.getElem_cons_succ, List.getElem_cons_zero]
        refine wpAnyH_take (i := 46) (oi := _) (v := ?_) rfl (by kernel_rfl) (by kernel_rfl) (by kernel_rfl) (fun _ _ _ h => h) (Or.inl ⟨by rfl, fun wz hSz => ?_⟩) (by assumption) ?_
        rotate_left
        · (have hf := (unhide HF) wz hSz; obtain ⟨f1, f2, -, -, -, -, -⟩ := hf; clear hSz; first | (go_simp; done) | (go_simp; with_reducible rfl))
        try simp only [Act.put, List.setIfInBounds_toArray, List.set_cons_zero, List.set_cons_succ, List.getElem_toArray, List.getElem_cons_succ, List.getElem_cons_zero]
        refine wpAnyH_take (i := 47) (oi := _) (v := ?_) rfl (by kernel_rfl) (by kernel_rfl) (by kernel_rfl) (fun _ _ _ h => h) (Or.inl ⟨by rfl, fun wz hSz => ?_⟩) (by assumption) ?_
        rotate_left
        · (have hf := (unhide HF) wz hSz; obtain ⟨f1, f2, -, -, -, -, -⟩ := hf; clear hSz; first | (go_simp; done) | (go_simp; with_reducible rfl))
        try simp only [Act.put, List.setIfInBounds_toArray, List.set_cons_zero, List.set_cons_succ, List.getElem_toArray, List.getElem_cons_succ, List.getElem_cons_zero]
        refine wpAnyH_take (i := 48) (oi := _) (v := ?_) rfl (by kernel_rfl) (by kernel_rfl) (by kernel_rfl) (fun _ _ _ h => h) (Or.inl ⟨by rfl, fun wz hSz => ?_⟩) (by assumption) ?_
        rotate_left
        · (have hf := (unhide HF) wz hSz; obtain ⟨f1, f2, -, -, -, -, -⟩ := hf; clear hSz; first | (go_simp; done) | (go_simp; with_reducible rfl))
        try simp only [Act.put, List.setIfInBounds_toArray, List.set_cons_zero, List.set_cons_succ, List.getElem_toArray, List.getElem_cons_succ, List.getElem_cons_zero]
        refine wpAnyH_done (by kernel_rfl) ?_ _
        go_wp2
        go_ret
        exact ⟨rfl, (unhide HE11).trans hHeld⟩

end Go.Proofs.YtnnecanjkogloaaDoor
