
/-
  sha's join, Digest, Derive, Stream.
-/
import Derived.Test.YtoefmncdloffaaaDoorShaI
namespace Go.Proofs.YtoefmncdloffaaaDoor
open Go.RowKit

theorem own_one (w : World) (B : Nat) (e : TypeId) (x : Value) (hB : B ≤ w.heap.size) : (w.alloc (.cells #[x] e)).ownsRow B e 1 (.slice (some ⟨w.heap.size, 0, none⟩) 1 1) 1 [x] :=
  ⟨by simp, .inr ⟨w.heap.size, 1, #[x], rfl, hB, heap_alloc_new w _, Nat.le_refl _, by unfold maxLen; omega, rfl, rfl⟩⟩

theorem own_one' (w : World) (B : Nat) (e : TypeId) (x : Value) {g : Nat} (hg : g = w.heap.size) (hB : B ≤ w.heap.size) : (w.alloc (.cells #[x] e)).ownsRow B e 1 (.slice (some ⟨g, 0, none⟩) 1 1) 1 [x] := by subst hg; exact own_one w B e x hB
set_option maxRecDepth 100000 in
set_option maxHeartbeats 1000000 in
theorem join_any (v : Value) (l : List UInt8) (pv : Value) (ps : List (List UInt8)) (B : Nat) (w : World) (h : w.ownsRow B 5 1 v l.length (l.map u8v)) (hB : B ≤ w.heap.size) (hp : Parts w pv ps)
    (hl : l.length ≤ 1000000) (hps : ps.length ≤ 1000) (hpl : ∀ p ∈ ps, p.length ≤ 1000000) (hS : ∀ X, Chg (fun k => v.ownBlock = some k) w X → Parts X pv ps) :
    Calls Tryd.prog 51 #[v, pv] w fun e w' => ∃ A c, e = .returned (.slice A (l ++ encs ps).length c) ∧ w'.ownsRow B 5 1 (.slice A (l ++ encs ps).length c) (l ++ encs ps).length ((l ++ encs ps).map u8v) ∧ Onto w v w' (.slice A (l ++ encs ps).length c) := by
  have H0 := hide h
  have HP := hide hp
  have HS := hide hS
  have HPL := hide hpl
  obtain ⟨A1, c1, rfl⟩ : ∃ A c, pv = .slice A ps.length c := by obtain ⟨vs, _, ⟨_, A, c, h, _⟩, _⟩ := hp; exact ⟨A, c, h⟩
  obtain ⟨A0, c0, rfl⟩ := own_slice h
  clear h hp hS hpl
  go_enter Tryd.func51, Tryd.ntmps51
  go_wp2
  go_loopw [0, 9] (fun b i wr => ∃ (k n : Nat) (A : Option Addr) (c : Nat), k ≤ ps.length ∧ i = .int .i64 k ∧ b = .slice A n c ∧ n ≤ 1000000 + k * 1000010 ∧ Hid (n = (l ++ encs (ps.take k)).length ∧ wr.ownsRow B 5 1 (.slice A n c) n ((l ++ encs (ps.take k)).map u8v) ∧ Onto w (.slice A0 l.length c0) wr (.slice A n c))) (fun _ i _ => ps.length - (intOf i).toNat)
  case atStart => exact ⟨0, l.length, A0, c0, Nat.zero_le _, rfl, rfl, by omega, hide ⟨by simp [encs], by simpa [encs] using unhide H0, Onto.refl _ _⟩⟩
  case round =>
    obtain ⟨k, n, A, c, hk, rfl, rfl, hn, HI⟩ := hrel
    by_cases hlt : k < ps.length
    · have hpw : Parts wr (.slice A1 ps.length c1) ps := unhide HS wr (unhide HI).2.2.chg
      obtain ⟨vs, q1, q2, q3⟩ := hpw
      obtain ⟨u, q4, q5⟩ := q3 k ps[k] (List.getElem?_eq_getElem hlt)
      obtain ⟨b, o, c', u', hv, _, _, hb, hu, hcc⟩ := q2.at1 hlt
      cases hv
      rw [q4] at hu
      cases hu
      obtain ⟨Au, cu, rfl⟩ : ∃ A c, u = .slice A ps[k].length c := by obtain ⟨_, A, c, h, _⟩ := q5; exact ⟨A, c, h⟩
      have hpk := unhide HPL ps[k] (List.getElem_mem hlt)
      have HQ5 := hide q5
      have HE := hide (encs_step ps k hlt)
      clear q1 q2 q3 q4 q5
      have hwl := wBytes_length ps[k]
      generalize ps[k] = p at *
      have HW := hide (fun w => wbytes_any (strOf p) w (by rw [strOf_size]; omega))
      rw [strOf_list] at HW
      go_wp2_with (first
        | (refine wpList_strOf (src := 29) (dst := 9) (x := .tmp 14) (l := p) rfl rfl Tryd.underlying29 Tryd.underlying5 Tryd.underlying9 rfl (unhide HQ5) ?_)
        | (go_at_call 18; refine (unhide HW _).mono ?_; rintro e w3 ⟨A3, c3, rfl, ho3, hE3⟩; have H3 := hide (And.intro ho3 hE3); clear ho3 hE3)
        | (at_builtin; refine wpList_app rfl rfl u8_row rfl (ownsRow_ext (unhide HI).2.1 (unhide H3).2) rfl (Reads.of_own (unhide H3).1) (AllOne.u8 _) (by omega) (Nat.le_trans hB (Nat.le_trans (unhide HI).2.2.chg.size (unhide H3).2.size')) ?_; intro A' c4 w4 ho hc hv; have H4 := hide (And.intro ho (((unhide HI).2.2.ext (unhide H3).2).trans (Onto.app hc hv))); clear ho hc hv))
      go_roundw
      case rel =>
        refine ⟨k + 1, n + (wBytes p).length, A', c4, by omega, by go_num, rfl, by rw [Nat.succ_mul]; omega, hide ⟨?_, ?_, (unhide H4).2⟩⟩
        · rw [unhide HE, ← List.append_assoc, List.length_append, ← (unhide HI).1]
        · rw [unhide HE, ← List.append_assoc, List.map_append]
          exact (unhide H4).1
      case measure => simp [intOf]; omega
    · obtain rfl : k = ps.length := by omega
      go_wp2
      go_ret
      obtain ⟨h1, h2, h3⟩ := unhide HI
      rw [List.take_length] at h1 h2
      subst h1
      exact ⟨A, c, rfl, h2, h3⟩

def tagByte (t : Int) : UInt8 := UInt8.ofNat (t % 256).toNat
theorem tag_wrap (t : Int) : t % 256 = ((tagByte t).toNat : Int) := by
  unfold tagByte; simp; omega
def digestS (tag : Int) (ps : List (List UInt8)) : List UInt8 := (sha ([tagByte tag] ++ encs ps)).take 16
def deriveS (key label : List UInt8) (ps : List (List UInt8)) : List UInt8 := mac key (wBytes label ++ encs ps)
theorem digestS_length (tag : Int) (ps : List (List UInt8)) : (digestS tag ps).length = 16 := by unfold digestS; rw [List.length_take, sha_length]; omega
theorem deriveS_length (key label : List UInt8) (ps : List (List UInt8)) : (deriveS key label ps).length = 16 := mac_length _ _
theorem digest_short (tag : Int) (ps : List (List UInt8)) (w : World) : Calls Tryd.prog 52 #[.agg ((sha ([tagByte tag] ++ encs ps)).map u8v).toArray] w fun e w' => e = .returned (.agg ((digestS tag ps).map u8v).toArray) ∧ Ext w w' := short_any _ _ (sha_length _)

set_option maxHeartbeats 1000000 in
theorem digest_any (tag : Int) (ps : List (List UInt8)) (pv : Value) (w : World) (hM : ShaMem w) (hp : Parts w pv ps) (hps : ps.length ≤ 1000) (hpl : ∀ p ∈ ps, p.length ≤ 10000) :
    Calls Tryd.prog 101 #[.int .i64 tag, pv] w fun e w' => e = .returned (.agg ((digestS tag ps).map u8v).toArray) ∧ Ext w w' := by
  have HM := hide hM
  have HP := hide hp
  have HPL := hide hpl
  have HT := hide (tag_wrap tag)
  have HB := hide (encs_bound ps 10000 hpl)
  clear hM hp hpl
  go_enter Tryd.func101, Tryd.ntmps101
  go_wp2_with fail
  rw [unhide HT]
  refine (join_any _ [tagByte tag] _ ps (w.heap.size + 1) _ ?h1 ?h2 ?h3 (by simp) hps ?h4 ?h5).mono ?_
  case h1 => exact own_one' _ _ _ _ (by simp) (by simp)
  case h2 => simp
  case h3 => exact (unhide HP).ext (((Ext.refl w).alloc _).alloc _)
  case h4 => intro p hp; have := unhide HPL p hp; omega
  case h5 =>
    intro X hX
    refine (unhide HP).ext ((((Ext.refl w).alloc _).alloc _).trans' hX (fun _ _ h => h) (fun i hi e => ?_))
    simp [Value.ownBlock] at e
    omega
  rintro e w1 ⟨A, c, rfl, ho, hO⟩
  have hE : Ext w w1 := (((Ext.refl w).alloc _).alloc _).trans' hO.chg (fun _ _ h => h) (fun i hi e => by simp [Value.ownBlock] at e; omega)
  have hB : Blk w1 w.heap.size 23 (Array.replicate 16 (.int .u8 0)) := ((Blk.new w 23 (Array.replicate 16 (.int .u8 0))).alloc _).chg hO.chg (by intro e; simp [Value.ownBlock] at e)
  have H1 := hide (And.intro ho (And.intro hE hB))
  clear ho hO hE hB
  go_wp2_with fail
  refine (sum_any ([tagByte tag] ++ encs ps) _ _ ((unhide HM).ext (unhide H1).2.1) ?hr ?hl).mono ?_
  case hr => have := Reads.of_own (unhide H1).1; first | exact this | (rw [List.length_append] at this; rw [List.length_append]; exact this) | (simp only [List.length_append, List.length_cons, List.length_nil] at this ⊢; exact this)
  case hl =>
    have := unhide HB
    have h2 : ps.length * (10000 + 10) ≤ 1000 * (10000 + 10) := Nat.mul_le_mul_right _ hps
    simp
    omega
  rintro e w2 ⟨rfl, hE2⟩
  go_wp2_with fail
  refine (digest_short tag ps _).mono ?_
  rintro e w3 ⟨rfl, hE3⟩
  have H3 := hide (And.intro ((unhide H1).2.1.trans (hE2.trans hE3)) ((unhide H1).2.2.ext (hE2.trans hE3)))
  clear hE2 hE3
  go_wp2_with (refine wpList_storeB (ty := 23) (t := 23) (x := .tmp 4) (y := .tmp 11) rfl rfl digest_wide rfl rfl (unhide H3).2 (by simp) ?_ (bytes_one _) ?_; (focus (simpa using digestS_length tag ps)); intro w4 hb4 hc4 hz4; have H4 := hide (And.intro hb4 hc4); clear hb4 hc4 hz4)
  refine bodyPost_ret (v := .agg ((digestS tag ps).map u8v).toArray) (results_blk digest_wide rfl (unhide H4).1 (by simpa using digestS_length tag ps) rfl) rfl ⟨rfl, ?_⟩
  exact (unhide H3).1.trans' (unhide H4).2 (fun _ _ h => h) (fun i hi e => by omega)

set_option maxHeartbeats 1000000 in
theorem derive_any (key : List UInt8) (kv : Value) (label : ByteArray) (ps : List (List UInt8)) (pv : Value) (w : World) (hM : ShaMem w) (hk : Reads w 1 kv key.length (key.map u8v)) (hkl : key.length ≤ 10000) (hll : label.size ≤ 10000) (hp : Parts w pv ps) (hps : ps.length ≤ 90) (hpl : ∀ p ∈ ps, p.length ≤ 10000) :
    Calls Tryd.prog 15 #[kv, .string label, pv] w fun e w' => e = .returned (.agg ((deriveS key label.data.toList ps).map u8v).toArray) ∧ Ext w w' := by
  have HM := hide hM
  have HK := hide hk
  have HP := hide hp
  have HPL := hide hpl
  have HB := hide (encs_bound ps 10000 hpl)
  have HW := hide (fun w => wbytes_any label w (by omega))
  have HWL := hide (show (wBytes label.data.toList).length ≤ 10 + label.size from wBytes_length label.data.toList)
  clear hM hp hpl hk
  go_enter Tryd.func15, Tryd.ntmps15
  go_wp2_with fail
  refine (unhide HW _).mono ?_
  rintro e w1 ⟨A1, c1, rfl, ho1, hE1⟩
  have H1 := hide (And.intro ho1 hE1)
  clear ho1 hE1
  have hge : Hid (∀ k, (Value.slice A1 (wBytes label.data.toList).length c1).ownBlock = some k → w.heap.size + 1 ≤ k) := hide (fun k hk => by have := ((unhide H1).1.lt k hk).1; simp at this; omega)
  go_wp2_with fail
  refine (join_any _ (wBytes label.data.toList) _ ps (w.heap.size + 1) _ ?h1 ?h2 ?h3 ?h6 (by omega) ?h4 ?h5).mono ?_
  case h1 => have := (unhide H1).1; simp only [World.size_alloc] at this; exact this
  case h2 => have := (unhide H1).2.size'; simp at this; omega
  case h3 => exact (unhide HP).ext (((Ext.refl w).alloc _).trans (unhide H1).2)
  case h6 => have := unhide HWL; omega
  case h4 => intro p hp; have := unhide HPL p hp; omega
  case h5 =>
    intro X hX
    refine (unhide HP).ext ((((Ext.refl w).alloc _).trans (unhide H1).2).trans' hX (fun _ _ h => h) (fun i hi e => ?_))
    have := unhide hge i e
    omega
  rintro e w2 ⟨A, c, rfl, ho, hO⟩
  have hE : Ext w w2 := (((Ext.refl w).alloc _).trans (unhide H1).2).trans' hO.chg (fun _ _ h => h) (fun i hi e => by have := unhide hge i e; omega)
  have hB : Blk w2 w.heap.size 23 (Array.replicate 16 (.int .u8 0)) := ((Blk.new w 23 (Array.replicate 16 (.int .u8 0))).ext (unhide H1).2).chg hO.chg (by intro e; have := unhide hge _ e; omega)
  have H2 := hide (And.intro ho (And.intro hE hB))
  clear ho hO hE hB
  go_wp2_with fail
  refine (mac_any key (wBytes label.data.toList ++ encs ps) _ _ _ ((unhide HM).ext (unhide H2).2.1) ((unhide HK).ext (unhide H2).2.1) ?hr (by omega) ?hl).mono ?_
  case hr => have := Reads.of_own (unhide H2).1; rw [List.length_append] at this; rw [List.length_append]; exact this
  case hl =>
    have := unhide HB
    have := unhide HWL
    have h2 : ps.length * (10000 + 10) ≤ 90 * (10000 + 10) := Nat.mul_le_mul_right _ hps
    simp
    omega
  rintro e w3 ⟨rfl, hE3⟩
  have H3 := hide (And.intro ((unhide H2).2.1.trans hE3) ((unhide H2).2.2.ext hE3))
  clear hE3
  go_wp2_with (refine wpList_storeB (ty := 23) (t := 23) (x := .tmp 6) (y := .tmp 12) rfl rfl digest_wide rfl rfl (unhide H3).2 (by simp) ?_ (bytes_one _) ?_; (focus (first | (simpa using deriveS_length _ _ _) | (simpa using mac_length _ _))); intro w4 hb4 hc4 hz4; have H4 := hide (And.intro hb4 hc4); clear hb4 hc4 hz4)
  refine bodyPost_ret (v := .agg ((deriveS key label.data.toList ps).map u8v).toArray) (results_blk digest_wide rfl (unhide H4).1 (by simpa using deriveS_length _ _ _) rfl) rfl ⟨rfl, ?_⟩
  exact (unhide H3).1.trans' (unhide H4).2 (fun _ _ h => h) (fun i hi e => by omega)

end Go.Proofs.YtoefmncdloffaaaDoor
