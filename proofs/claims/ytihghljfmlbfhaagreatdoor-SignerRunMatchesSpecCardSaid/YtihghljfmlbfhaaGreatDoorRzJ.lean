/-
  Several texts in one file: each has its own heading below.
-/
import Derived.Test.YtihghljfmlbfhaaGreatDoorRzI
import Derived.Laws.EntriesVeiled
import Derived.Test.YtihghljfmlbfhaaGreatDoorRzF
import Derived.ArgAppend
import Derived.Lib.MakeNoZero
import Derived.Laws.CopyOwn
import Derived.Deep.RegionLaw
import Derived.Deep.Cut
import Derived.Outline
import Derived.WalkKit
import Derived.Laws.BitsAllLaws
set_option maxRecDepth 100000
set_option maxHeartbeats 4000000
namespace Go.Proofs.YtihghljfmlbfhaaGreatDoor
open Go.RowKit
attribute [local go_sem] Oper.semAt_some
def aAz (l : List UInt8) (k : Nat) : List UInt8 := l ++ [128] ++ List.replicate k 0
theorem aGh (l : List UInt8) (k : Nat) : (aAz l k).length = l.length + 1 + k := by simp [aAz]; omega
theorem aOf (l : List UInt8) (k : Nat) : aAz l (k + 1) = aAz l k ++ [0] := by unfold aAz; rw [List.replicate_succ', List.append_assoc, List.append_assoc, List.append_assoc]
def jA (P : List UInt8) (l : List Nat) (v : List UInt32) : List UInt32 := l.foldl (fun v i => jF v ((P.drop (64 * i)).take 64)) v
theorem kJ (m : Nat) (v : List UInt32) (P : List UInt8) : jA P (List.range m) v = kN m v P := by
 induction m generalizing v P with
 | zero => rfl
 | succ m ih =>
  have e2 : ∀ i, (P.drop 64).drop (64 * i) = P.drop (64 * (i + 1)) := fun i => by rw [List.drop_drop, show 64 + 64 * i = 64 * (i + 1) from by omega]
  have h := ih (jF v (P.take 64)) (P.drop 64)
  refine Eq.trans ?_ h
  unfold jA
  simp only [e2]
  rw [List.range_succ_eq_map, List.foldl_cons, List.foldl_map, Nat.mul_zero, List.drop_zero]
theorem fZ (P : List UInt8) (l : List Nat) (v : List UInt32) (h : v.length = 8) : (jA P l v).length = 8 := by
 unfold jA
 induction l generalizing v with
 | nil => exact h
 | cons i l ih =>
  rw [List.foldl_cons]
  refine ih _ ?_
  unfold jF
  rw [List.length_zipWith, h]
  rw [show (uS ((P.drop (64 * i)).take 64) v).length = 8 from iU _ _ h 64]
  rfl
def aBa (l : List UInt32) (k : Nat) : List UInt8 := (l.take k).flatMap fun w => beBytes w.toNat 4
theorem aBx (l : List UInt32) (k : Nat) (h : k < l.length) : aBa l (k + 1) = aBa l k ++ beBytes (l.getD k 0).toNat 4 := by
 unfold aBa
 rw [jB l k h, List.flatMap_append, zG, zH h]
 simp
theorem wS (l : List UInt32) (k : Nat) (h : k ≤ l.length) : (aBa l k).length = 4 * k := by
 induction k with
 | zero => simp [aBa]
 | succ k ih => rw [aBx l k h, List.length_append, ih (by omega), beBytes_length]; omega
theorem Blk.putObj {W : World} {g : Nat} {t : TypeId} {cs : Array Value} (h : Blk W g t cs) {D : Nat} {o o' : Obj} (hd : W.heap[D]? = some o) (ho : o.isCells = false) : Blk (W.putObj D o') g t cs := by
 have hne : g ≠ D := fun e => by
  unfold Blk at h
  rw [e, hd] at h
  cases h
  cases ho
 exact (World.putObj_heap_other hne).trans h
theorem bG (l : List UInt8) : ((l.map u8v).toArray).all (·.oneCell') = true := by
 rw [← Array.all_toList]
 simp [u8v]
 intro x _
 rfl
def oQ (n : Nat) : Nat := (119 - n % 64) % 64
theorem dJ : Wide Tryz.prog 134 32 := ⟨⟨_, Tryz.underlying134, rfl⟩, by kernel_rfl⟩
def PadInv (l : List UInt8) (w : World) (v : Value) (n k : Nat) (wr : World) : Prop :=
 (n = l.length + 1 + k ∧ k ≤ oQ l.length) ∧ wr.ownsRow (w.heap.size + 1) 5 1 v n ((aAz l k).map u8v) ∧ Ext w wr ∧ (∃ o, Blk wr w.heap.size 134 o ∧ o.size = 32)
theorem sum_any (l : List UInt8) (v : Value) (w : World) (hM : ShaMem w) (hr : Reads w 1 v l.length (l.map u8v)) (hl : l.length ≤ 100000000) :
    Calls Tryz.prog 123 #[v] w fun e w' => e = .returned (.agg ((sha l).map u8v).toArray) ∧ Ext w w' := by
  have HM := hide hM
  have HR := hide hr
  obtain ⟨A, c, rfl⟩ : ∃ A c, v = .slice A l.length c := by obtain ⟨_, A, c, h, _⟩ := hr; exact ⟨A, c, h⟩
  clear hM hr
  refine (callsIn_wide (n := 3)).1 (callsIn_of_wp_marks Tryz.func123 rfl trivial ((wpIn_wide (n := 3)).2 ?_))
  simp only [Tryz.ntmps123, List.size_toArray, List.length_cons, List.length_nil, Nat.reduceAdd, Nat.reduceSub, Array.replicate_succ, Array.replicate_zero, List.push_toArray, List.append_toArray, List.nil_append, List.cons_append]
  go_wp2_with fail
  refine (clone_any _ l _ ?hr (by omega)).mono ?_
  case hr => exact (aA HR).ext ((Ext.refl w).alloc _)
  rintro e w1 ⟨v1, rfl, ho, hE⟩
  have HO := hide (And.intro ho (And.intro hE (Blk.ext (Blk.new w 134 _) hE)))
  clear ho hE
  go_wp2_with (at_builtin; refine aU rfl rfl eG rfl (aQ (aA HO).1 ((Ext.refl w1).alloc _)) rfl (Reads.new1 _ _ _) (bP.one rfl) (by omega) (by have := (aA HO).2.1.size'; simp at this ⊢; omega) ?_; intro A' c' w2 ho hc hv; have HQ := hide (And.intro ho (And.intro hc hv)); clear ho hc hv)
  have HI := hide (show PadInv l w (.slice A' (l.length + 1) c') (l.length + 1) 0 w2 from by
    obtain ⟨h1, h2, h3⟩ := aA HO
    obtain ⟨h4, h5, _⟩ := aA HQ
    have e0 : (aAz l 0).map u8v = l.map u8v ++ [u8v 128] := by unfold aAz; simp
    have hz := h2.size'
    simp only [World.size_alloc] at hz h4
    have hv := dB h1 (Chg.refl (fun k => ¬ v1.ownBlock = some k) w1) (fun k hk hn => hn hk)
    have hge : ∀ k, v1.ownBlock = some k → w.heap.size + 1 ≤ k := fun k hk => by have := h1.lt k hk; simp at this; omega
    refine ⟨⟨rfl, Nat.zero_le _⟩, by rw [e0]; exact h4, ?_, ⟨_, h3.chg ((Ext.refl w1).alloc _) (fun h => h) |>.chg h5 (fun e => by have := hge _ e; omega), rfl⟩⟩
    exact ((((Ext.refl w).alloc _).trans h2).alloc _).trans' h5 (fun _ _ h => h) (fun i hi e => by have := hge _ e; omega))
  clear HO HQ
  go_loopw [3] (fun b wr => ∃ (n k : Nat) (A : Option Addr) (c : Nat), b = .slice A n c ∧ n ≤ 200000000 ∧ Hid (PadInv l w (.slice A n c) n k wr)) (fun b _ => match b with | .slice _ n _ => l.length + 1 + oQ l.length - n | _ => 0)
  case atStart => exact ⟨_, 0, _, _, rfl, by omega, HI⟩
  case round =>
    clear HI
    obtain ⟨n, k, A1, c1, rfl, hn, HI⟩ := hrel
    by_cases hlt : k < oQ l.length
    · have ht : n % 64 ≠ 56 := by have h1 := (aA HI).1; unfold oQ at h1 hlt; omega
      have ht2 : (((n : Int) % 64) == 56) = false := by simp; omega
      go_wp2_with (at_builtin; refine aU rfl rfl eG rfl (aQ (aA HI).2.1 ((Ext.refl wr).alloc _)) rfl (Reads.new1 _ _ _) (bP.one rfl) (by omega) (by have := (aA HI).2.2.1.size'; have := (aA HI).2.2.2.choose_spec.1.lt; simp; omega) ?_; intro A' c' w3 ho hc hv; have HQ := hide (And.intro ho hc); clear ho hc hv)
      go_roundw
      case rel =>
        obtain ⟨⟨e1, e2⟩, h1, h2, o8, h3, h4⟩ := aA HI
        obtain ⟨h5, h6⟩ := aA HQ
        have hge : ∀ k, (Value.slice A1 n c1).ownBlock = some k → w.heap.size + 1 ≤ k := fun k hk => (h1.lt k hk).1
        refine ⟨n + 1, k + 1, A', c', rfl, by unfold oQ at e2; omega, hide ⟨⟨by omega, hlt⟩, ?_, (h2.alloc _).trans' h6 (fun _ _ h => h) (fun i hi e => by have := hge _ e; omega), o8, (h3.alloc _).chg h6 (fun e => by have := hge _ e; omega), h4⟩⟩
        rw [aOf, List.map_append]
        exact h5
      case measure => have := (aA HI).1; simp; omega
    · obtain ⟨⟨e1, e2⟩, h1, h2, o8, h3, h4⟩ := aA HI
      have hkz : k = oQ l.length := by omega
      subst hkz
      have HP := hide (show aAz l (oQ l.length) ++ beBytes (8 * l.length) 8 = dP l from rfl)
      have hmod : n % 64 = 56 := by unfold oQ at e1; omega
      have ht2 : (((n : Int) % 64) == 56) = true := by simp; omega
      have HN := hide (And.intro e1 hmod)
      clear e1 e2 hlt hmod h1 h2 h3 h4
      go_wp2_with fail
      clear ht2
      refine (aFg _ n ((aAz l (oQ l.length)).map u8v) (8 * l.length) 8 (w.heap.size + 1) _ _ _ ?e1 ?e2 (aA HI).2.1 ?hb (by omega) (by omega) (by omega)).mono ?_
      case e1 => simp
      case e2 => rfl
      case hb => have := (aA HI).2.2.2.choose_spec.1.lt; omega
      rintro e w3 ⟨A3, c3, rfl, ho, hO⟩
      obtain ⟨g3, rfl⟩ : ∃ g3, A3 = some ⟨g3, 0, none⟩ := by
        obtain ⟨g, cap, u, hv, _⟩ := aGl (k := 0) ho (by omega)
        cases hv
        exact ⟨g, rfl⟩
      have HQ := hide (And.intro ho hO)
      clear ho hO
      obtain ⟨st0, hst⟩ : ∃ st, (kM.map w32).toArray = st := ⟨_, rfl⟩
      have HST := hide hst
      have HST2 := hide (show st0.size = 8 ∧ st0.all (·.oneCell') = true from by rw [← hst]; exact ⟨rfl, uJ _⟩)
      clear hst
      have HE3 := hide (show Ext w w3 from by
        obtain ⟨⟨e1, e2⟩, h1, h2, o8, h3, h4⟩ := aA HI
        exact h2.trans' (aA HQ).2.chg (fun _ _ h => h) (fun i hi e => by have := (h1.lt i e).1; omega))
      go_wp2_with (first
        | (refine mW (ty := 174) (x := .global 0) rfl rfl gZ rfl (arr := st0) (cs := kM.map w32) ?_ rfl (aA HST) ?_; (focus exact ((aA HM).ext (aA HE3)).h))
        | (refine aH (ty := 174) (t := 174) (x := .tmp 4) (y := .tmp 27) rfl rfl gZ rfl rfl ((Blk.new w3 _ _).alloc _) rfl (aA HST2).1 (aA HST2).2 ?_
           intro w4 hb4 hc4 hz4
           have k5 : w4.cell? ⟨w3.heap.size + 1, 0, none⟩ = some .nilFunc := Chg.cellv hc4 (fE _ _ _ (by simp) rfl) (by simp)
           have f5 : w4.frozen? ⟨w3.heap.size + 1, 0, none⟩ = false := Chg.frozenv hc4 ((Blk.new' _ _ _ (by simp)).frozen 0) (by simp) (by simp)
           have HV := hide (And.intro hb4 (And.intro hc4 hz4))
           clear hb4 hc4 hz4)
        | (go_at_call 132; refine (aVs _ _ _ _).mono ?_; rintro e w' ⟨rfl, rfl⟩))
      obtain ⟨m, hm⟩ : ∃ m, n + 8 = 64 * m := ⟨(n + 8) / 64, by have := (aA HN).2; omega⟩
      have HL := hide (show (dP l).length = 64 * m from by
        rw [← aA HP, List.length_append, aGh, beBytes_length, ← hm]; have := (aA HN).1; omega)
      have HS := hide (show w3.heap.size < w4.heap.size ∧ w4.heap.size = w3.heap.size + 2 from by have := (aA HV).2.2; simp at this; omega)
      refine wp_range (gf := 136) (S := fun k => k = w3.heap.size) (all := List.finRange m) (N := m) (encs := fun x : Fin m => #[.slice (some ⟨g3, 0 + 64 * x.val, none⟩) 64 64]) rfl (aF Tryz.func136 (by kernel_rfl) rfl) ?hS (aKd g3 0 c3 m _ _ _ _ (by omega) ?hc ?hs ?hn ?h1 ?h2) (fun _ => rfl)
        (fun pre W => Blk W w3.heap.size 174 ((jA (dP l) (pre.map Fin.val) kM).map w32).toArray ∧ W.cell? ⟨w3.heap.size + 1, 0, none⟩ = some (.func (.func 131) #[] #[]))
        (fun pre W W' h k => ⟨k.blk h.1, k.cell h.2⟩) ?h0 ?a1 ?assign ?body ?done
      case assign =>
        intro l x W K hK
        gi_wp2
        exact hK
      case hS => intro k e; have := (aA HS).1; simp; omega
      case hc =>
        have h1 := (aA HQ).1
        obtain ⟨g, cap, u, hv, _⟩ := aGl (k := 0) h1 (by omega)
        cases hv
        obtain ⟨_, h2⟩ := h1
        rcases h2 with ⟨e, _⟩ | ⟨g, cap, cur, hv, _, _, hle, _⟩
        · cases e
        · cases hv; omega
      case hs => have := (aA HS).1; omega
      case hn => have := (aA HS).1; omega
      case h1 =>
        rw [← hm]
        exact dS _ _ (fE _ _ _ (by simp) rfl)
      case h2 => exact fE _ _ _ (by simp) rfl
      case h0 =>
        refine ⟨?_, ?_⟩
        · have := (aA HV).1
          rw [← aA HST] at this
          exact ((this.far' (by omega) _ _).alloc _).alloc _
        · exact dS _ _ (dS _ _ (World.cell?_setCell_same' _ _ _ (by rw [k5]; rfl)))
      case body =>
        rintro lb pre x W hc ⟨hb, hf⟩ hlen
        have hg3 : w.heap.size + 1 ≤ g3 ∧ g3 < w3.heap.size := (aA HQ).1.lt g3 rfl
        obtain ⟨hg3a, hg3b⟩ := hg3
        have HR3 : Hid (Reads w3 1 (.slice (some ⟨g3, 0, none⟩) (n + 8) c3) (n + 8) ((dP l).map u8v)) := hide (by have := Reads.of_own (aA HQ).1; rwa [← List.map_append, aA HP] at this)
        have HEW : Hid (Chg (fun k => k = w3.heap.size) w3 W) := hide (by
          have h1 : Chg (fun k => k = w3.heap.size) w3 w4 := (((Ext.refl w3).alloc _).alloc _).chg.trans (aA HV).2.1
          exact (((h1.setCell (p := ⟨w3.heap.size + 1, 0, none⟩) (.inr (by simp)) _).alloc _).alloc _).trans hc)
        have HBX := hide (show ((((dP l).drop (64 * x.val)).take 64).length = 64) from by have := x.isLt; simp; rw [aA HL]; omega)
        have HRX : Hid (Reads W 1 (.slice (some ⟨g3, 64 * x.val, none⟩) 64 64) 64 ((((dP l).drop (64 * x.val)).take 64).map u8v)) := hide (by
          have h1 := (aA HR3).chg (aA HEW) (fun k _ hk e => by cases hk; exact absurd e (Nat.ne_of_lt hg3b))
          obtain ⟨b, o, c, hv, h2, h3, _, h4⟩ := h1.sub (64 * x.val) 64 (by have := x.isLt; omega) (by omega)
          cases hv
          rw [List.map_take, List.map_drop]
          rw [Nat.zero_add] at h4
          exact h4.cap (by omega) (by unfold maxLen; omega))
        have HMW : Hid (ShaMem W) := hide (((aA HM).ext (aA HE3)).chg (aA HEW) (fun e => by have h1 : _ < w.heap.size := lt_of_cell ((aA HM).k 0 _ rfl); have := (aA HE3).size'; simp at h1; omega) (fun e => by have h1 : _ < w.heap.size := lt_of_cell ((aA HM).h 0 _ rfl); have := (aA HE3).size'; simp at h1; omega))
        have HCC := hide (aHm (jA (dP l) (pre.map Fin.val) kM) (((dP l).drop (64 * x.val)).take 64) _ W (aA HMW) (fZ _ _ _ rfl) (aA HBX) (aA HRX))
        have HB := hide hb
        clear hb
        generalize hst : ((jA (dP l) (pre.map Fin.val) kM).map w32).toArray = stp at *
        have H8 := hide (show stp.size = 8 from by rw [← hst]; simp; exact fZ _ _ _ rfl)
        have HT := hide hst
        clear hst
        have HN8 := hide (show ((jF (jA (dP l) (pre.map Fin.val) kM) (((dP l).drop (64 * x.val)).take 64)).map w32).toArray.size = 8 from by simp; exact fZ (dP l) [x.val] (jA (dP l) (pre.map Fin.val) kM) (fZ _ _ _ rfl))
        gi_wp2_with (first
          | (refine sS (ty := 174) (t := 174) (x := .tmp 4) rfl rfl gZ rfl (aA HB) (aA H8) ?_)
          | (refine ⟨trivial, ?_⟩; gi_at_call 131; refine (CallsIn.inRound lb (callsIn_wide.2 (aA HCC))).mono ?_; rintro e w9 ⟨rfl, hE9⟩; have HX9 := hide hE9; clear hE9)
          | (refine qL (ty := 174) (t := 174) (x := .tmp 4) (y := .tmp 34) rfl rfl gZ rfl rfl ((aA HB).ext (aA HX9)) (aA H8) (aA HN8) (uJ _) ?_; intro w10 hb10 hc10 hz10))
        refine ⟨(aA HX9).chg.trans hc10, ?_, Chg.cellv hc10 (Ext.cellv (aA HX9) hf) (by simp)⟩
        rw [List.map_append]
        unfold jA
        rw [List.foldl_append]
        exact hb10
      case done =>
        rintro D W hD hc ⟨hb, hf⟩ hd
        have HEW : Hid (Ext w W) := hide (by
          have h1 : Chg (fun k => k = w3.heap.size) w3 w4 := (((Ext.refl w3).alloc _).alloc _).chg.trans (aA HV).2.1
          have h2 := (((h1.setCell (p := ⟨w3.heap.size + 1, 0, none⟩) (.inr (by simp)) _).alloc _).alloc _).trans hc
          exact (aA HE3).trans' h2 (fun _ _ h => h) (fun i hi e => by have := (aA HE3).size'; omega))
        have HO : Hid (∃ o, Blk W w.heap.size 134 o ∧ o.size = 32) := hide (by
          obtain ⟨_, h1, _, o8, h3, h4⟩ := aA HI
          have hlt := h3.lt
          have k1 := h3.chg (aA HQ).2.chg (fun e => by have := (h1.lt _ e).1; omega)
          have hlt3 := k1.lt
          have h1 : Chg (fun k => k = w3.heap.size) w3 w4 := (((Ext.refl w3).alloc _).alloc _).chg.trans (aA HV).2.1
          have h2 := (((h1.setCell (p := ⟨w3.heap.size + 1, 0, none⟩) (.inr (by simp)) _).alloc _).alloc _).trans hc
          exact ⟨o8, k1.chg h2 (by omega), h4⟩)
        rw [aUk, kJ] at hb
        have hm2 : m = (dP l).length / 64 := by rw [aA HL]; omega
        rw [hm2] at hb
        have HSL := hide (show (kN ((dP l).length / 64) kM (dP l)).length = 8 from by rw [← kJ]; exact fZ _ _ _ rfl)
        have HSH := hide (show (kN ((dP l).length / 64) kM (dP l)).flatMap (fun w => beBytes w.toNat 4) = sha l from rfl)
        generalize kN ((dP l).length / 64) kM (dP l) = stf at *
        obtain ⟨stq, hstq⟩ : ∃ s, (stf.map w32).toArray = s := ⟨_, rfl⟩
        rw [hstq] at hb
        have HB := hide hb
        have HTQ := hide hstq
        have H8 := hide (show stq.size = 8 from by rw [← hstq]; simpa using aA HSL)
        have hDw : w.heap.size < D := by have := (aA HE3).size'; have := (aA HS).1; simp at hD; omega
        have HD := hide (And.intro hDw hd)
        clear hDw
        clear hb hf hd hD hstq hm2 HQ HV HS HE3 HST HST2 HI HN k5 f5 hc
        go_wp2_with (refine aZ (ty := 174) (t := 174) (x := .tmp 4) rfl rfl gZ rfl (aA HB) (aA H8) ?_)
        go_loopw [7, 36] (fun b i wr => ∃ (k : Nat) (A : Option Addr) (c : Nat), k ≤ 8 ∧ i = .int .i64 k ∧ b = .slice A (4 * k) c ∧ Hid (wr.ownsRow W.heap.size 5 1 (.slice A (4 * k) c) (4 * k) ((aBa stf k).map u8v) ∧ Ext W wr)) (fun _ i _ => 8 - (intOf i).toNat)
        case atStart => exact ⟨0, none, 0, Nat.zero_le _, rfl, rfl, hide ⟨World.ownsRow_nil _ _ _ _, Ext.refl _⟩⟩
        case round =>
          obtain ⟨k, A7, c7, hk, rfl, rfl, HI⟩ := hrel
          by_cases hlt : k < 8
          · have hidx : ∀ X, (Instr.index 174 (.agg stq) (.int .i64 (k : Int))).run Tryz.prog X = .ok (.int .u32 ((stf.getD k 0).toNat : Int)) X := fun X =>
              uU (inf := _) Tryz.underlying174 (by kernel_rfl) rfl (by kernel_rfl) hlt (by rw [← aA HTQ, ← jH (aA HSL)]; exact iK (by rw [aA HSL]; exact hlt)) X
            have HS2 := hide (aBx stf k (by rw [aA HSL]; exact hlt))
            have hx := (stf.getD k 0).toNat_lt
            generalize stf.getD k 0 = xk at *
            go_wp2_with fail
            refine (aFg _ (4 * k) ((aBa stf k).map u8v) xk.toNat 4 W.heap.size _ _ _ ?e1 ?e2 (aA HI).1 ?hb (by omega) (by omega) (by omega)).mono ?_
            case e1 => first | rfl | simp
            case e2 => rfl
            case hb => exact (aA HI).2.size'
            rintro e w5 ⟨A5, c5, rfl, ho, hO⟩
            have HQ := hide (And.intro ho hO)
            clear ho hO
            go_wp2
            go_roundw
            case rel =>
              refine ⟨k + 1, A5, c5, by omega, by go_num, rfl, hide ⟨?_, ?_⟩⟩
              · rw [aA HS2, List.map_append]
                exact (aA HQ).1
              · exact Onto.new_ext (aA HI).2 (aA HQ).2 (fun q hq => ((aA HI).1.lt q hq).1)
            case measure => simp [intOf]; omega
          · obtain rfl : k = 8 := by omega
            clear hk hlt
            obtain ⟨g7, rfl⟩ : ∃ g7, A7 = some ⟨g7, 0, none⟩ := by
              obtain ⟨g, cap, u, hv, _⟩ := aGl (k := 0) (aA HI).1 (by omega)
              cases hv
              exact ⟨g, rfl⟩
            have HG := hide (show aBa stf 8 = sha l from by
              unfold aBa
              rw [List.take_of_length_le (by rw [aA HSL]; omega)]
              exact aA HSH)
            have HRG : Hid (wr.rangeAt g7 0 ((sha l).map u8v)) := hide (by
              have h1 := (aA HI).1
              rw [aA HG] at h1
              intro j v hj
              have := h1.cells (g := g7) rfl j v hj
              rwa [add_lit] at this)
            have HLS := hide (show (sha l).length = 32 from by rw [← aA HG]; exact wS stf 8 (by rw [aA HSL]; omega))
            obtain ⟨o8, ho8, ho8s⟩ := aA HO
            have HO8 := hide (And.intro (ho8.ext (aA HI).2) ho8s)
            clear ho8 ho8s
            obtain ⟨res, hres⟩ : ∃ r, ((sha l).map u8v).toArray = r := ⟨_, rfl⟩
            have HRS := hide (show res.size = 32 ∧ res.all (·.oneCell') = true from by rw [← hres]; exact ⟨by simpa using aA HLS, bG _⟩)
            have HRE := hide hres
            clear hres
            have harr := fun X => run_arrayAt (P := Tryz.prog) Tryz.underlying134 (ad := some ⟨g7, 0, none⟩) (len := 4 * 8) (c := c7) (by omega) X
            go_wp2_with (first
              | (refine mW (ty := 134) (x := .tmp 45) rfl rfl dJ rfl (arr := res) (cs := (sha l).map u8v) (aA HRG) ?_ (aA HRE) ?_; (focus (simpa using aA HLS)))
              | (refine aH (ty := 134) (t := 134) (x := .tmp 2) (y := .tmp 46) rfl rfl dJ rfl rfl (aA HO8).1 (aA HO8).2 (aA HRS).1 (aA HRS).2 ?_; intro w9 hb9 hc9 hz9))
            have hd9 := ((aA HI).2.blk (aA HD).2)
            have hd9' := Chg.blk hc9 hd9 (fun e => by have := (aA HD).1; omega)
            refine aCb rfl hd9' (aX dJ rfl (hb9.putObj hd9' rfl) (aA HRS).1 rfl) ⟨by rw [aA HRE], ?_⟩
            refine vU _ (((aA HEW).trans (aA HI).2).trans' hc9 (fun _ _ h => h) (fun i hi e => by omega)) (by have := (aA HD).1; omega)
end Go.Proofs.YtihghljfmlbfhaaGreatDoor
namespace Go.Proofs.YtihghljfmlbfhaaGreatDoor
open Go.RowKit
section
variable {P : Program} {w : World}
theorem run_appF {t ty e : TypeId} {bytes : Nat} (T : SlTy P t e 1 bytes) {b : Addr} {n : Nat} {xs : List Value} (hs : Reads w 1 (.slice (some b) n n) n xs) (hn : 0 < n)
  {u : Value} {m : Nat} {news : List Value} (hr : Reads w 1 u m news) (h1 : bP news) (hbytes : (n + m) * bytes ≤ 140737488355328) :
  ∃ A' c' w', (Builtin.append_ #[t, t] ty #[.slice (some b) n n, u]).run P w = .ok (.slice A' (n + m) c') w' ∧ Reads w' 1 (.slice A' (n + m) c') (n + m) (xs ++ news) ∧ Ext w w' := by
 obtain ⟨ht, ⟨i, z, hi, hz, hsize, hby, hzs⟩, _, hbp⟩ := T
 obtain ⟨hl, A, c, rfl, hmc, hcm, hcell⟩ := hr
 have h63 : n + m ≤ maxLen := by
  have : (n + m) * 1 ≤ (n + m) * bytes := Nat.mul_le_mul_left _ hbp
  unfold maxLen; omega
 rcases Nat.eq_zero_or_pos m with h0 | h0
 ·subst h0
  have hnl : news = [] := List.eq_nil_of_length_eq_zero (by simpa using hl)
  subst hnl
  refine ⟨_, n, w, ?_, by simpa using hs, Ext.refl _⟩
  rcases A with _ | ad
  ·simp [Builtin.append_, run_underlying ht, sizeOf, typeInfo, hi, Builtin.lenOf, Builtin.firstCells, storeCells]
  ·obtain ⟨_, A2, c2, e2, _, _, hc2⟩ := hs
   cases e2
   obtain ⟨b0, o0, e0, _⟩ := hc2 hn
   cases e0
   have := run_append_room_cells (P := P) w t ty e i ht hi b0 o0 n n ad 0 c [] (by simp) (fun j u h => by simp at h) (fun u h => by cases h) (by omega) (fun j h => by simp at h) (fun j h => by simp at h)
   simpa [World.setCells] using this
 ·obtain ⟨hxl, A2, c2, e2, _, _, hc2⟩ := hs
  cases e2
  obtain ⟨b0, o0, e0, hcs⟩ := hc2 hn
  cases e0
  obtain ⟨b1, o1, rfl, hcn⟩ := hcell h0
  obtain ⟨v', w', hrun, r1, r2⟩ := run_append_arg_grows (P := P) w t ty e i z 1 bytes ht hi hz hsize hby hzs (by omega) ⟨b0, o0, none⟩ n n xs hxl (fun j u hj => by rw [Addr.add_lit]; exact hcs j u hj) ⟨b1, o1, none⟩ m c news hl (fun j u hj => by rw [Addr.add_lit]; exact hcn j u hj) (by omega) h63 hbytes
  obtain ⟨A', c', rfl⟩ := iO r1
  exact ⟨A', c', w', hrun, Reads.of_own r1, (Ext.refl w).grown r2 (fun k h => by cases h)⟩
theorem aQf {o : Oper} {a : Act} {K : Act → World → Prop} {Q : Exit → Act → World → Prop} {s x : Operand} {t : TypeId}
  (ho : o.op = .call { callee := .builtin .append, args := #[s, x], argTypes := #[t, t] })
  {e : TypeId} {bytes : Nat} (T : SlTy P t e 1 bytes) {b : Addr} {n : Nat} {xs : List Value} (hs : a.eval s = .slice (some b) n n) (hown : Reads w 1 (.slice (some b) n n) n xs) (hn : 0 < n)
  {u : Value} (hx : a.eval x = u) {m : Nat} {news : List Value} (hr : Reads w 1 u m news) (h1 : bP news) (hbytes : (n + m) * bytes ≤ 140737488355328)
  (h : ∀ (A' : Option Addr) (c' : Nat) w', Reads w' 1 (.slice A' (n + m) c') (n + m) (xs ++ news) → Ext w w' → K (a.put o.dst (.slice A' (n + m) c')) w') : o.wp P a w K Q := by
 obtain ⟨A', c', w', hrun, h2, h3⟩ := run_appF (P := P) (ty := o.type) T hown hn hr h1 hbytes
 unfold Oper.wp execOp
 simp only [ho, resolve, invoke, builtin, Sem.run_bind, Sem.run_pure, Result.andThen_ok, List.map_toArray, List.map_cons, List.map_nil, hs, hx, hrun]
 exact h A' c' w' h2 h3
theorem aFh {ops : Array Oper} {o : Oper} {a : Act} {K : Act → World → Prop} {Q : Exit → Act → World → Prop} {E : Prop} (hgd : o.guard = none) {s x : Operand} {t : TypeId}
  (ho : o.op = .call { callee := .builtin .append, args := #[s, x], argTypes := #[t, t] })
  {e : TypeId} {bytes : Nat} (T : SlTy P t e 1 bytes) {b : Addr} {n : Nat} {xs : List Value} (hs : a.eval s = .slice (some b) n n) (hown : Reads w 1 (.slice (some b) n n) n xs) (hn : 0 < n)
  {u : Value} (hx : a.eval x = u) {m : Nat} {news : List Value} (hr : Reads w 1 u m news) (h1 : bP news) (hbytes : (n + m) * bytes ≤ 140737488355328)
  (h : ∀ (A' : Option Addr) (c' : Nat) w', Reads w' 1 (.slice A' (n + m) c') (n + m) (xs ++ news) → Ext w w' → K (a.put o.dst (.slice A' (n + m) c')) w') :
  if Region.wanted o (yielded ops a.tmps) = true then Oper.wp P o a w K Q else E := by
 have hw : Region.wanted o (yielded ops a.tmps) = true := by simp [Region.wanted, hgd]
 rw [if_pos hw]
 exact aQf ho T hs hown hn hx hr h1 hbytes h
theorem yE {ops : Array Oper} {rest : List Oper} {o : Oper} {a : Act} {Q : Exit → Act → World → Prop} (hgd : o.guard = none) {s x : Operand} {t : TypeId}
  (ho : o.op = .call { callee := .builtin .append, args := #[s, x], argTypes := #[t, t] })
  {e : TypeId} {bytes : Nat} (T : SlTy P t e 1 bytes) {b : Addr} {n : Nat} {xs : List Value} (hs : a.eval s = .slice (some b) n n) (hown : Reads w 1 (.slice (some b) n n) n xs) (hn : 0 < n)
  {u : Value} (hx : a.eval x = u) {m : Nat} {news : List Value} (hr : Reads w 1 u m news) (h1 : bP news) (hbytes : (n + m) * bytes ≤ 140737488355328)
  (h : ∀ (A' : Option Addr) (c' : Nat) w', Reads w' 1 (.slice A' (n + m) c') (n + m) (xs ++ news) → Ext w w' → wpList P ops Q rest (a.put o.dst (.slice A' (n + m) c')) w') : wpList P ops Q (o :: rest) a w :=
 wpList_plain hgd fun _ hK => aQf ho T hs hown hn hx hr h1 hbytes fun A' c' w' h2 h3 => hK _ _ (h A' c' w' h2 h3)
end
end Go.Proofs.YtihghljfmlbfhaaGreatDoor
namespace Go.Proofs.YtihghljfmlbfhaaGreatDoor
open Go.RowKit
theorem mul_1_64 (w : World) : Calls Tryz.prog 140 #[.int .u64 1, .int .u64 64] w fun e w' => e = .returned (.tuple #[.int .u64 0, .int .u64 64]) ∧ w = w' := by
 go_enter Tryz.func140, Tryz.ntmps140
 go_wp2
 go_ret2
 exact ⟨by kernel_rfl, rfl⟩
theorem aBn {α : Type} (cur : List α) (x : α) (p m : Nat) (h : cur.take p = List.replicate p x) (_hl : p + m ≤ cur.length) : (splice cur p (List.replicate m x)).take (p + m) = List.replicate (p + m) x := by
 unfold splice
 rw [h, ← List.append_assoc, List.replicate_append_replicate, List.take_left' (by simp)]
def aMo (x : UInt8) (w : World) (g n p : Nat) (wr : World) : Prop := ∃ cur : List Value, wr.heap[g]? = some (.cells cur.toArray 5 (0, 0)) ∧ cur.take p = List.replicate p (u8v x) ∧ cur.length = n ∧ Below w.heap.size w wr
theorem aQj : (Tryz.prog.info? 5).map (·.size) = some 1 := by kernel_rfl
theorem aNw (x : UInt8) (v : Value) (w : World) (hr : Reads w 1 v 1 [u8v x]) :
  Calls Tryz.prog 138 #[v, .int .i64 64] w fun e w' => ∃ g, e = .returned (.slice (some ⟨g, 0, none⟩) 64 64) ∧ Reads w' 1 (.slice (some ⟨g, 0, none⟩) 64 64) 64 (List.replicate 64 (u8v x)) ∧ Ext w w' ∧ w.heap.size ≤ g ∧ (∀ i, w'.frozen? ⟨g, i, none⟩ = false) := by
 have HR := hide hr
 obtain ⟨b, o, c, u, rfl, hc1, hc2, hb, hu, hcu⟩ := hr.at1 (k := 0) (by omega)
 cases hu
 unfold u8v at hcu
 have HU := hide hcu
 clear hr hcu
 obtain ⟨cs, hrunM, hle, hmax⟩ := Lib.run_makeNoZero (P := Tryz.prog) w #[3] 40 5 Tryz.underlying40 64 (by omega)
 have hcall : (callFunc 141 #[.int .i64 64]).run Tryz.prog w = .ok (.value (.slice (some ⟨w.heap.size, 0, none⟩) 64 cs.size)) ((w.alloc (.cells cs 5)).drewN 2) := by
  have := run_callFunc_extern (P := Tryz.prog) (args := #[.int .i64 64]) (w := w) Tryz.func141 (by kernel_rfl) (by kernel_rfl) (by kernel_rfl) (e := Extern.BytealgMakeNoZero.makeNoZero #[3] #[40]) (by kernel_rfl)
  rw [this]
  have h2 : (Extern.BytealgMakeNoZero.makeNoZero #[3] #[40] #[.int .i64 64]).run Tryz.prog w = _ := hrunM
  rw [h2]
  rfl
 clear hrunM
 have hmx := hmax (by unfold maxLen; omega)
 unfold maxLen at hmx
 clear hmax
 have i1 : (64 : Int) ≤ (cs.size : Int) := by omega
 have HC := hide (show aMo x w w.heap.size cs.size 0 ((w.alloc (.cells cs 5)).drewN 2) from ⟨cs.toList, (Blk.new w 5 cs).drewN 2, rfl, by simp, (((Ext.refl w).alloc _).drewN _).below⟩)
 go_enter Tryz.func138, Tryz.ntmps138
 go_upto_region 17 with (go_at_call 140; refine (mul_1_64 _).mono ?_; rintro e w' ⟨rfl, rfl⟩)
 iterate 7 (first | go_values | go_skip | go_guarded | go_step | go_upon)
 obtain ⟨cur0, C1, C2, C3, C4⟩ := aA HC
 refine wpList_copy_splice rfl (.tmp 58) (.tmp 59) 40 40 rfl 5 Tryz.underlying40 aQj (some ⟨w.heap.size, 0, none⟩) (some ⟨b, o, none⟩) 64 64 1 c rfl rfl w.heap.size 0 cur0 5 C1 [u8v x] rfl ?_ ?_ ?_ w.heap.size w C4 (Nat.le_refl _) ?_
 ·intro _
  refine ⟨rfl, _, rfl, fun j v hj => ?_⟩
  match j, hj with
  | 0, hj =>
   cases hj
   exact (C4.cell (p := ⟨b, o, none⟩) hb).trans (aA HU)
 ·simp; omega
 ·intro v hv; simp at hv; subst hv; rfl
 ·intro w2 G1 G2
  have HI := hide (show aMo x w w.heap.size cs.size 1 w2 from ⟨_, aA G1, by have := aBn cur0 (u8v x) 0 1 C2 (by omega); simpa using this, by rw [length_splice _ _ _ (by simp; omega)]; exact C3, G2⟩)
  clear C1 C2 C3 C4 G1 G2
  go_wp2
  go_loopw [10] (fun p wr => ∃ k : Nat, 0 < k ∧ k ≤ 64 ∧ p = .int .i64 k ∧ Hid (aMo x w w.heap.size cs.size k wr)) (fun p _ => 64 - (intOf p).toNat)
  case atStart => exact ⟨1, by omega, by omega, rfl, HI⟩
  case round =>
   clear HI
   obtain ⟨k, hk0, hk, rfl, HI⟩ := hrel
   by_cases hlt : k < 64
   ·obtain ⟨cur, C1, C2, C3, C4⟩ := aA HI
    have hC3 : 64 ≤ cur.length := by omega
    have HK := hide (And.intro C2 C3)
    clear C2 C3
    have d64 : decide ((k : Int) < 64) = true := decide_eq_true (by omega)
    have b64 : (k : Int) < 64 := by omega
    have bn : ¬ k = 64 := by omega
    have b1 : (k : Int) ≤ 64 := by omega
    have b0 : (0 : Int) ≤ (k : Int) := by omega
    obtain ⟨m, hm⟩ : ∃ m, Nat.min k (64 - k) = m := ⟨_, rfl⟩
    have hm1 : k + m ≤ 64 ∧ m ≤ k ∧ 0 < m := by have : Nat.min k (64 - k) = min k (64 - k) := rfl; omega
    have p2 : 0 < (List.replicate m (u8v x)).length → some (⟨w.heap.size, k, none⟩ : Addr) = some ⟨w.heap.size, k, none⟩ ∧ ∃ ad, some (⟨w.heap.size, 0, none⟩ : Addr) = some ad ∧ ∀ (j : Nat) (v : Value), (List.replicate m (u8v x))[j]? = some v → wr.drew.cell? (ad.add j) = some v := by
     intro _
     refine ⟨rfl, _, rfl, fun j v hj => ?_⟩
     have hjm : j < m := by
      rcases Nat.lt_or_ge j m with h | h
      ·exact h
      ·rw [List.getElem?_eq_none (by simpa using h)] at hj; cases hj
     rw [List.getElem?_replicate, if_pos hjm] at hj
     cases hj
     rw [add_lit, Nat.zero_add]
     have := Blk.cell (show Blk wr w.heap.size 5 cur.toArray from C1) j
     refine Eq.trans this ?_
     have e := (aA HK).1
     have e2 : (cur.take k)[j]? = some (u8v x) := by rw [e, List.getElem?_replicate, if_pos (by omega)]
     rw [List.getElem?_take, if_pos (by omega)] at e2
     simpa using e2
    have p1 : (List.replicate m (u8v x)).length = Nat.min k (64 - k) := by rw [hm]; simp
    have p4 : ∀ v ∈ List.replicate m (u8v x), v.oneCell' = true := by intro v hv; rw [(List.mem_replicate.1 hv).2]; rfl
    obtain ⟨w3, hrun, HN⟩ : ∃ w3, (Builtin.copy_ #[40, 40] 3 #[.slice (some ⟨w.heap.size, k, none⟩) (64 - k) (64 - k), .slice (some ⟨w.heap.size, 0, none⟩) k 64]).run Tryz.prog wr.drew = .ok (.int .i64 (m : Int)) w3 ∧ Hid (aMo x w w.heap.size cs.size (k + m) w3) := by
     obtain ⟨_, ad, e, hsrc⟩ := p2 (by simp; omega)
     cases e
     have h := run_copy_row (P := Tryz.prog) wr.drew 40 40 3 5 w.heap.size k (64 - k) (64 - k) ⟨w.heap.size, 0, none⟩ k 64 cur.toArray 5 (List.replicate m (u8v x)) Tryz.underlying40 aQj C1 p1 hsrc (by simp; omega) p4
     simp only [List.length_replicate] at h
     refine ⟨_, h, hide ⟨splice cur k (List.replicate m (u8v x)), ?_, aBn cur (u8v x) k m (aA HK).1 (by omega), ?_, ?_⟩⟩
     ·have := setRow_heap wr.drew w.heap.size _ (splice cur k (List.replicate m (u8v x))).toArray 5 _ C1
      simpa [splice, List.append_assoc] using this
     ·rw [length_splice _ _ _ (by simp; omega)]; exact (aA HK).2
     ·exact below_setRow (C4.trans (Ext.below ((Ext.refl wr).drew) |>.mono (by have := C4.size; omega))) (Nat.le_refl _) _
    have HM := hide (And.intro hm hm1)
    obtain ⟨hm2, hm3, hm4⟩ := hm1
    clear hm p1 p2 p4 C1 C4 hC3
    go_upto_region 20 with fail
    go_region
    all_goals
     go_wp2
     go_roundw
     case rel => exact ⟨k + m, by omega, by omega, by go_num, HN⟩
     case measure => simp [intOf]; omega
   ·obtain rfl : k = 64 := by omega
    go_wp2
    go_ret
    obtain ⟨cur, C1, C2, C3, C4⟩ := aA HI
    refine ⟨_, rfl, ?_, Ext.of_below C4, Nat.le_refl _, (show Blk wr w.heap.size 5 cur.toArray from C1).frozen⟩
    have := Reads.of_blk (show Blk wr w.heap.size 5 cur.toArray from C1) (i := 0) (n := 64) (c := 64) (by simp; omega) (by omega) (by unfold maxLen; omega)
    simpa [C2] using this
theorem Reads.set {w : World} {g n c : Nat} {xs : List Value} (h : Reads w 1 (.slice (some ⟨g, 0, none⟩) n c) n xs) {k : Nat} (hk : k < n) (u : Value) : Reads (w.setCell ⟨g, k, none⟩ u) 1 (.slice (some ⟨g, 0, none⟩) n c) n (xs.set k u) := by
 obtain ⟨hl, A, c2, e, h1, h2, h3⟩ := h
 cases e
 refine ⟨by rw [List.length_set]; exact hl, _, _, rfl, h1, h2, fun hn => ⟨g, 0, rfl, fun j v hj => ?_⟩⟩
 obtain ⟨b, o, e, hc⟩ := h3 hn
 cases e
 rw [Nat.zero_add]
 by_cases hjk : k = j
 ·subst hjk
  rw [List.getElem?_set_self (by omega)] at hj
  cases hj
  have := hc k _ (zH (by omega))
  rw [Nat.zero_add] at this
  exact World.cell?_setCell_same' _ _ _ (by rw [this]; rfl)
 ·rw [List.getElem?_set_ne hjk] at hj
  have := hc j v hj
  rw [Nat.zero_add] at this
  rw [World.cell?_setCell_other (h := fun e => hjk (by cases e; rfl))]
  exact this
def padG (n : Nat) (key : List UInt8) (x : UInt8) (k : Nat) : List UInt8 := (List.range n).map fun i => if i < k then x ^^^ key.getD i 0 else x
def padN (n : Nat) (key : List UInt8) (x : UInt8) : List UInt8 := (List.range n).map fun i => key.getD i 0 ^^^ x
theorem aSf (n : Nat) (key : List UInt8) (x : UInt8) : (padG n key x 0).map u8v = List.replicate n (u8v x) := by
 unfold padG
 apply List.ext_getElem
 ·simp
 ·intro i h1 h2; simp
theorem pO (n : Nat) (key : List UInt8) (x : UInt8) (k : Nat) : (padG n key x k).length = n := by simp [padG]
theorem aLe (n : Nat) (key : List UInt8) (x : UInt8) (k i : Nat) (h : i < n) : (padG n key x k)[i]? = some (if i < k then x ^^^ key.getD i 0 else x) := by
 unfold padG
 rw [List.getElem?_map, List.getElem?_range h]
 rfl
theorem aSg (n : Nat) (key : List UInt8) (x : UInt8) (k : Nat) : padG n key x (k + 1) = (padG n key x k).set k (x ^^^ key.getD k 0) := by
 apply List.ext_getElem?
 intro i
 by_cases hi : i < n
 ·rw [aLe n key x (k + 1) i hi, List.getElem?_set, aLe n key x k i hi, pO]
  by_cases hik : k = i
  ·subst hik
   rw [if_pos rfl, if_pos hi, if_pos (by omega)]
  ·rw [if_neg hik]
   by_cases h : i < k
   ·rw [if_pos h, if_pos (by omega)]
   ·rw [if_neg h, if_neg (by omega)]
 ·rw [List.getElem?_eq_none (by rw [pO]; omega), List.getElem?_eq_none (by rw [List.length_set, pO]; omega)]
theorem padG_end (n : Nat) (key : List UInt8) (x : UInt8) : padG n key x key.length = padN n key x := by
 unfold padG padN
 apply List.map_congr_left
 intro i _
 by_cases h : i < key.length
 ·rw [if_pos h, UInt8.xor_comm]
 ·rw [if_neg h, zG, List.getElem?_eq_none (by omega)]; simp
theorem padG_at (n : Nat) (key : List UInt8) (x : UInt8) (k : Nat) (h : k < n) : ((padG n key x k).map u8v)[k]? = some (u8v x) := by
 rw [List.getElem?_map, zH (by rw [pO]; exact h)]
 simp [padG]
def qX (key : List UInt8) (x : UInt8) (k : Nat) : List UInt8 := padG 64 key x k
def kU (key : List UInt8) (x : UInt8) : List UInt8 := padN 64 key x
theorem aGi (key : List UInt8) (x : UInt8) : (qX key x 0).map u8v = List.replicate 64 (u8v x) := aSf 64 key x
theorem aGj (key : List UInt8) (x : UInt8) (k : Nat) : qX key x (k + 1) = (qX key x k).set k (x ^^^ key.getD k 0) := aSg 64 key x k
theorem aJg (key : List UInt8) (x : UInt8) : qX key x key.length = kU key x := padG_end 64 key x
theorem aOg (key : List UInt8) (x : UInt8) (k : Nat) (h : k < 64) : ((qX key x k).map u8v)[k]? = some (u8v x) := padG_at 64 key x k h
theorem dX (key : List UInt8) (x : UInt8) : (kU key x).length = 64 := by unfold kU padN; rw [List.length_map, List.length_range]
theorem aDr (x : UInt8) (xI : Int) (hx : xI = (x.toNat : Int)) (key : List UInt8) (kb : Nat) (v : Value) (w : World) (hk : w.cell? ⟨kb, 0, none⟩ = some v) (hr : Reads w 1 v key.length (key.map u8v)) (hl : key.length ≤ 64) :
  Calls Tryz.prog 137 #[.int .u8 xI, .pointer (some ⟨kb, 0, none⟩)] w fun e w' => ∃ g, e = .returned (.slice (some ⟨g, 0, none⟩) 64 64) ∧ Reads w' 1 (.slice (some ⟨g, 0, none⟩) 64 64) 64 ((kU key x).map u8v) ∧ Ext w w' := by
 subst hx
 have HR := hide hr
 obtain ⟨A, c, rfl⟩ : ∃ A c, v = .slice A key.length c := by obtain ⟨_, A, c, h, _⟩ := hr; exact ⟨A, c, h⟩
 have HK := hide hk
 have HL := hide (lt_of_cell hk)
 clear hr hk
 go_enter Tryz.func137, Tryz.ntmps137
 go_wp2_with fail
 refine (aNw x _ _ ?hr).mono ?_
 case hr => exact Reads.new1 _ _ _
 rintro e w1 ⟨g, rfl, hR, hE, hg, hf⟩
 have hk1 : w1.cell? ⟨kb, 0, none⟩ = some (.slice A key.length c) := Ext.cellv (((Ext.refl w).alloc _).trans hE) (aA HK)
 have HG := hide (show w.heap.size ≤ g from Nat.le_trans (((Ext.refl w).alloc (.cells #[u8v x] 5)).size') hg)
 have HE := hide (((Ext.refl w).alloc (.cells #[u8v x] 5)).trans hE)
 have HQ := hide (And.intro hR hf)
 clear hR hE hg hf
 go_wp2
 clear hk1
 go_loopw [12] (fun i wr => ∃ k : Nat, k ≤ key.length ∧ i = .int .i64 k ∧ Hid (Reads wr 1 (.slice (some ⟨g, 0, none⟩) 64 64) 64 ((qX key x k).map u8v) ∧ (∀ i, wr.frozen? ⟨g, i, none⟩ = false) ∧ Ext w wr)) (fun i _ => key.length - (intOf i).toNat)
 case atStart => exact ⟨0, Nat.zero_le _, rfl, hide ⟨by rw [aGi]; exact (aA HQ).1, (aA HQ).2, aA HE⟩⟩
 case round =>
  obtain ⟨k, hk, rfl, HI⟩ := hrel
  by_cases hlt : k < key.length
  ·obtain ⟨b, o, c', u, hv, _, _, hb, hu, hcc⟩ := ((aA HR).ext (aA HI).2.2).at1 hlt
   cases hv
   rw [List.getElem?_map, zH hlt] at hu
   cases hu
   have ho : wr.cell? ⟨g, k, none⟩ = some (u8v x) := by
    obtain ⟨_, _, _, e, _, _, h⟩ := (aA HI).1
    cases e
    obtain ⟨b2, o2, e2, h2⟩ := h (by omega)
    cases e2
    have := h2 k _ (aOg key x k (by omega))
    rwa [Nat.zero_add] at this
   have hf := (aA HI).2.1 k
   unfold u8v at hcc ho
   have HS := hide (show qX key x (k + 1) = (qX key x k).set k (x ^^^ key[k]) from by rw [aGj key x k, zG, zH hlt]; rfl)
   have hk64 : (k : Int) < 64 := by omega
   generalize key[k] = z at *
   have hX := xor8 x z
   have HX := hide hX
   clear hX
   go_wp2
   go_roundw
   case rel =>
    refine ⟨k + 1, by omega, by go_num, hide ⟨?_, fun i => by rw [World.frozen?_setCell]; exact (aA HI).2.1 i, (aA HI).2.2.setCell (aA HG) _⟩⟩
    rw [aA HS, List.map_set]
    have := (aA HI).1.set (k := k) (by omega) (u8v (x ^^^ z))
    rw [aA HX]
    exact this
   case measure => simp [intOf]; omega
  ·obtain rfl : k = key.length := by omega
   go_wp2
   go_ret
   refine ⟨g, rfl, ?_, (aA HI).2.2⟩
   rw [← aJg]
   exact (aA HI).1
theorem aJu (key m : List UInt8) : hmac key m = sha (kU (if key.length > 64 then sha key else key) 92 ++ sha (kU (if key.length > 64 then sha key else key) 54 ++ m)) := rfl
theorem bQ (l : List UInt8) : (sha l).length = 32 := by
 have h : (kN ((dP l).length / 64) kM (dP l)).length = 8 := by rw [← kJ]; exact fZ _ _ _ rfl
 have h2 := wS (kN ((dP l).length / 64) kM (dP l)) 8 (by omega)
 unfold aBa at h2
 rw [List.take_of_length_le (by omega)] at h2
 exact h2
theorem tV (key m : List UInt8) : (hmac key m).length = 32 := by rw [aJu]; exact bQ _
theorem hmac_any (key b : List UInt8) (kv bv : Value) (w : World) (hM : ShaMem w) (hk : Reads w 1 kv key.length (key.map u8v)) (hb : Reads w 1 bv b.length (b.map u8v)) (hkl : key.length ≤ 1000000) (hbl : b.length ≤ 1000000) :
    Calls Tryz.prog 133 #[kv, bv] w fun e w' => e = .returned (.agg ((hmac key b).map u8v).toArray) ∧ Ext w w' := by
  have HM := hide hM
  have HB := hide hb
  obtain ⟨A, c, rfl⟩ : ∃ A c, kv = .slice A key.length c := by obtain ⟨_, A, c, h, _⟩ := hk; exact ⟨A, c, h⟩
  have HK0 := hide hk
  clear hM hk hb
  rw [aJu]
  by_cases hlen : key.length > 64
  · rw [if_pos hlen]
    have d64 : decide ((64 : Int) < (key.length : Int)) = true := decide_eq_true (by omega)
    have hl' : (sha key).length ≤ 64 := by rw [bQ]; omega
    obtain ⟨k', hk'⟩ : ∃ k', sha key = k' := ⟨_, rfl⟩
    rw [hk'] at hl' ⊢
    have HKK := hide hk'
    clear hk' hlen
    go_enter Tryz.func133, Tryz.ntmps133
    go_wp2_with fail
    refine (sum_any key _ _ ((aA HM).ext (((Ext.refl w).alloc _).alloc _)) ((aA HK0).ext (((Ext.refl w).alloc _).alloc _)) (by omega)).mono ?_
    rintro e w1 ⟨rfl, hE1⟩
    clear d64
    rw [aA HKK]
    have H1 := hide hE1
    clear hE1
    have HS1 := hide (show ((k'.map u8v).toArray).size = 32 from by rw [← aA HKK]; simpa using bQ _)
    have c0 : w1.cell? ⟨w.heap.size, 0, none⟩ = some (.slice A key.length c) := Ext.cellv (aA H1) (dS _ _ (fE _ _ _ rfl rfl))
    have f0 : w1.frozen? ⟨w.heap.size, 0, none⟩ = false := Ext.frozenv (aA H1) (((Blk.new w 40 #[.slice A key.length c]).alloc _).frozen 0) (by simp; omega)
    have HC0 := hide (And.intro c0 (And.intro f0 (lt_of_cell c0)))
    clear c0 f0
    go_wp2_with (refine aH (ty := 134) (t := 134) (x := .tmp 5) (y := .tmp 12) rfl rfl dJ rfl rfl (Blk.new w1 _ _) rfl (aA HS1) (bG _) ?_; intro w2 hb2 hc2 hz2; have c0 := Chg.cellv (hc2) (dS _ _ (aA HC0).1) (Nat.ne_of_lt (aA HC0).2.2); have f0 := Chg.frozenv hc2 (Ext.frozenv ((Ext.refl w1).alloc _) (aA HC0).2.1 (aA HC0).2.2) (by have := (aA HC0).2.2; simp; omega) (Nat.ne_of_lt (aA HC0).2.2); have HW2 := hide (And.intro hb2 (And.intro hc2 hz2)); clear hb2 hc2 hz2)
    obtain ⟨kv', hkv'⟩ : ∃ v, v = Value.slice (some ⟨w1.heap.size, 0, none⟩) 32 32 := ⟨_, rfl⟩
    have hwl : w.heap.size + 2 ≤ w1.heap.size := by have := (aA H1).size'; simp at this; omega
    have e32 : k'.length = 32 := by rw [← aA HKK]; exact bQ _
    have hX0 : Chg (fun k => k = w.heap.size) w1 (w2.setCell ⟨w.heap.size, 0, none⟩ kv') := by
      have h1 : Chg (fun k => k = w.heap.size) w1 w2 := ((Ext.refl w1).alloc _).trans' (aA HW2).2.1 (fun _ _ h => h.elim) (fun i hi e => by omega)
      exact h1.setCell (p := ⟨w.heap.size, 0, none⟩) (.inl rfl) _
    have HK : Hid ((w2.setCell ⟨w.heap.size, 0, none⟩ kv').cell? ⟨w.heap.size, 0, none⟩ = some kv' ∧ Reads (w2.setCell ⟨w.heap.size, 0, none⟩ kv') 1 kv' k'.length (k'.map u8v) ∧ Ext w (w2.setCell ⟨w.heap.size, 0, none⟩ kv') ∧
        Blk (w2.setCell ⟨w.heap.size, 0, none⟩ kv') (w.heap.size + 1) 134 (Array.replicate 32 (.int .u8 0))) := hide (by
      refine ⟨World.cell?_setCell_same' _ _ _ (by rw [c0]; rfl), ?_, ?_, ?_⟩
      · have hb := (aA HW2).1.far' (show ¬ w1.heap.size = w.heap.size by omega) 0 kv'
        have := Reads.of_blk hb (i := 0) (n := 32) (c := 32) (by rw [aA HS1]; omega) (by omega) (by unfold maxLen; omega)
        simp only [List.drop_zero] at this
        rw [List.take_of_length_le (by rw [List.length_map]; omega)] at this
        rw [e32, hkv']
        rw [hkv'] at this
        exact this
      · exact ((((Ext.refl w).alloc _).alloc _).trans (aA H1)).trans' hX0 (fun _ _ h => h) (fun i hi e => by omega)
      · have h1 : Blk ((w.alloc (.cells #[.slice A key.length c] 40)).alloc (.cells (Array.replicate 32 (.int .u8 0)) 134)) (w.heap.size + 1) 134 (Array.replicate 32 (.int .u8 0)) := Blk.new' _ _ _ (by simp)
        exact (h1.ext (aA H1)).chg hX0 (by omega))
    subst hkv'
    clear c0 f0 hX0 hwl e32 HC0
    have HL' := hide hl'
    go_wp2_with fail
    refine (aDr 54 _ rfl k' w.heap.size (.slice (some ⟨w1.heap.size, 0, none⟩) 32 32) _ (aA HK).1 (aA HK).2.1 hl').mono ?_
    rintro e w2 ⟨g2, rfl, hR2, hE2⟩
    have H2 := hide (And.intro hR2 hE2)
    clear hR2 hE2
    go_wp2_with (at_builtin; refine yE rfl rfl eG rfl (aA H2).1 (by omega) rfl (((aA HB).ext (aA HK).2.2.1).ext (aA H2).2) (bP.u8 b) (by omega) ?_; intro A3 c3 w3 hr3 hE3; have H3 := hide (And.intro hr3 hE3); clear hr3 hE3)
    refine (sum_any (kU k' 54 ++ b) _ _ (((aA HM).ext (aA HK).2.2.1).ext ((aA H2).2.trans (aA H3).2)) ?hr (by rw [List.length_append, dX]; omega)).mono ?_
    case hr => have := (aA H3).1; rw [← List.map_append] at this; rw [List.length_append, dX]; exact this
    rintro e w4 ⟨rfl, hE4⟩
    obtain ⟨in1, hin1⟩ : ∃ r, ((sha (kU k' 54 ++ b)).map u8v).toArray = r := ⟨_, rfl⟩
    have HI1 := hide hin1
    have HI2 := hide (show in1.size = 32 ∧ in1.all (·.oneCell') = true from by rw [← hin1]; exact ⟨by simpa using bQ _, bG _⟩)
    rw [hin1]
    have H4 := hide ((aA H2).2.trans ((aA H3).2.trans hE4))
    clear hin1 hE4
    go_wp2_with (refine aH (ty := 134) (t := 134) (x := .tmp 7) (y := .tmp 19) rfl rfl dJ rfl rfl (Blk.new w4 _ _) rfl (aA HI2).1 (aA HI2).2 ?_; intro w5 hb5 hc5 hz5; have H5 := hide (And.intro hb5 (And.intro hc5 hz5)); clear hb5 hc5 hz5)
    have HE5 := hide ((aA H4).trans (((Ext.refl w4).alloc (.cells #[Value.int IntKind.u8 0, Value.int IntKind.u8 0, Value.int IntKind.u8 0, Value.int IntKind.u8 0, Value.int IntKind.u8 0, Value.int IntKind.u8 0, Value.int IntKind.u8 0, Value.int IntKind.u8 0, Value.int IntKind.u8 0, Value.int IntKind.u8 0, Value.int IntKind.u8 0, Value.int IntKind.u8 0, Value.int IntKind.u8 0, Value.int IntKind.u8 0, Value.int IntKind.u8 0, Value.int IntKind.u8 0, Value.int IntKind.u8 0, Value.int IntKind.u8 0, Value.int IntKind.u8 0, Value.int IntKind.u8 0, Value.int IntKind.u8 0, Value.int IntKind.u8 0, Value.int IntKind.u8 0, Value.int IntKind.u8 0, Value.int IntKind.u8 0, Value.int IntKind.u8 0, Value.int IntKind.u8 0, Value.int IntKind.u8 0, Value.int IntKind.u8 0, Value.int IntKind.u8 0, Value.int IntKind.u8 0, Value.int IntKind.u8 0] 134)).trans' (aA H5).2.1 (fun _ _ h => h) (fun i hi e => by omega)))
    have HR7 := hide (show Reads w5 1 (.slice (some ⟨w4.heap.size, 0, none⟩) 32 32) 32 ((sha (kU k' 54 ++ b)).map u8v) from by
      have := Reads.of_blk (aA H5).1 (i := 0) (n := 32) (c := 32) (by rw [(aA HI2).1]; omega) (by omega) (by unfold maxLen; omega)
      rw [← aA HI1] at this
      simp only [List.drop_zero] at this
      rwa [List.take_of_length_le (by rw [List.length_map, bQ]; omega)] at this)
    go_region_law (first
      | (refine aFh (s := .tmp 21) (x := .tmp 22) rfl rfl eG rfl (aA H6).1 (by omega) rfl ((aA HR7).ext (((Ext.refl w5).drew).trans (aA H6).2)) (bP.u8 _) (by omega) ?_; intro A8 c8 w8 hr8 hE8; have H8 := hide (And.intro hr8 hE8); clear hr8 hE8)
      | (go_simp; go_at_call 137; refine (aDr 92 _ rfl k' w.heap.size (.slice (some ⟨w1.heap.size, 0, none⟩) 32 32) _ (Ext.cellv ((aA HE5).drew) (aA HK).1) ((aA HK).2.1.ext ((aA HE5).drew)) hl').mono ?_; rintro e w6 ⟨g6, rfl, hR6, hE6⟩; have H6 := hide (And.intro hR6 hE6); clear hR6 hE6)
      | (rename_i K hK; go_simp; go_at_call 123; refine (sum_any (kU k' 92 ++ sha (kU k' 54 ++ b)) _ _ ((((aA HM).ext (aA HK).2.2.1).ext (aA HE5)).ext (((Ext.refl w5).drew).trans ((aA H6).2.trans (aA H8).2))) ?_ ?_).mono ?_; (focus (have := (aA H8).1; rw [← List.map_append] at this; rw [List.length_append, dX, bQ]; exact this)); (focus (rw [List.length_append, dX, bQ]; omega)); rintro e w9 ⟨rfl, hE9⟩; have H9 := hide ((aA HE5).trans (((Ext.refl w5).drew).trans ((aA H6).2.trans ((aA H8).2.trans hE9)))); clear hE9
         dsimp only
         refine hK _ _ ?_
         clear hK K
         refine wpAny_ready (rs := [5]) (by kernel_rfl) (by simp) (AllReady.cons rfl (fun J hJ => ?_) AllReady.nil)
         refine eP (ty := 134) (t := 134) (x := .tmp 4) (y := .tmp 24) rfl rfl dJ rfl rfl ((aA HK).2.2.2.ext (aA H9)) ?_ ?_ ?_ ?_
         · rw [Array.size_replicate]
         · simpa using bQ _
         · exact bG _
         intro w10 hb10 hc10 hz10
         have H10 := hide (And.intro hb10 hc10)
         clear hb10 hc10 hz10
         refine hJ _ _ ?_
         clear hJ J))
    go_wp2
    refine bodyPost_ret (v := .agg ((sha (kU k' 92 ++ sha (kU k' 54 ++ b))).map u8v).toArray) (aX dJ rfl (aA H10).1 (by simpa using bQ _) rfl) rfl ⟨rfl, ?_⟩
    exact ((aA HK).2.2.1.trans (aA H9)).trans' (aA H10).2 (fun _ _ h => h) (fun i hi e => by omega)
  · rw [if_neg hlen]
    have hl' : key.length ≤ 64 := by omega
    have d64 : decide ((64 : Int) < (key.length : Int)) = false := decide_eq_false (by omega)
    obtain ⟨k', hk'⟩ : ∃ k', k' = key := ⟨_, rfl⟩
    subst hk'
    obtain ⟨kv', hkv'⟩ : ∃ v, v = Value.slice A k'.length c := ⟨_, rfl⟩
    have HK : Hid ((((w.alloc (.cells #[.slice A k'.length c] 40)).alloc (.cells (Array.replicate 32 (.int .u8 0)) 134)).cell? ⟨w.heap.size, 0, none⟩ = some kv') ∧
        Reads ((w.alloc (.cells #[.slice A k'.length c] 40)).alloc (.cells (Array.replicate 32 (.int .u8 0)) 134)) 1 kv' k'.length (k'.map u8v) ∧ Ext w ((w.alloc (.cells #[.slice A k'.length c] 40)).alloc (.cells (Array.replicate 32 (.int .u8 0)) 134)) ∧
        Blk ((w.alloc (.cells #[.slice A k'.length c] 40)).alloc (.cells (Array.replicate 32 (.int .u8 0)) 134)) (w.heap.size + 1) 134 (Array.replicate 32 (.int .u8 0))) := hide ⟨by rw [hkv']; exact dS _ _ (fE _ _ _ rfl rfl), by rw [hkv']; exact (aA HK0).ext (((Ext.refl w).alloc _).alloc _), ((Ext.refl w).alloc _).alloc _, Blk.new' _ _ _ (by simp)⟩
    have HKV := hide hkv'
    clear hkv' hlen
    go_enter Tryz.func133, Tryz.ntmps133
    have HL' := hide hl'
    go_wp2_with fail
    refine (aDr 54 _ rfl k' w.heap.size kv' _ (aA HK).1 (aA HK).2.1 hl').mono ?_
    rintro e w2 ⟨g2, rfl, hR2, hE2⟩
    have H2 := hide (And.intro hR2 hE2)
    clear hR2 hE2
    go_wp2_with (at_builtin; refine yE rfl rfl eG rfl (aA H2).1 (by omega) rfl (((aA HB).ext (aA HK).2.2.1).ext (aA H2).2) (bP.u8 b) (by omega) ?_; intro A3 c3 w3 hr3 hE3; have H3 := hide (And.intro hr3 hE3); clear hr3 hE3)
    refine (sum_any (kU k' 54 ++ b) _ _ (((aA HM).ext (aA HK).2.2.1).ext ((aA H2).2.trans (aA H3).2)) ?hr (by rw [List.length_append, dX]; omega)).mono ?_
    case hr => have := (aA H3).1; rw [← List.map_append] at this; rw [List.length_append, dX]; exact this
    rintro e w4 ⟨rfl, hE4⟩
    obtain ⟨in1, hin1⟩ : ∃ r, ((sha (kU k' 54 ++ b)).map u8v).toArray = r := ⟨_, rfl⟩
    have HI1 := hide hin1
    have HI2 := hide (show in1.size = 32 ∧ in1.all (·.oneCell') = true from by rw [← hin1]; exact ⟨by simpa using bQ _, bG _⟩)
    rw [hin1]
    have H4 := hide ((aA H2).2.trans ((aA H3).2.trans hE4))
    clear hin1 hE4
    go_wp2_with (refine aH (ty := 134) (t := 134) (x := .tmp 7) (y := .tmp 19) rfl rfl dJ rfl rfl (Blk.new w4 _ _) rfl (aA HI2).1 (aA HI2).2 ?_; intro w5 hb5 hc5 hz5; have H5 := hide (And.intro hb5 (And.intro hc5 hz5)); clear hb5 hc5 hz5)
    have HE5 := hide ((aA H4).trans (((Ext.refl w4).alloc (.cells #[Value.int IntKind.u8 0, Value.int IntKind.u8 0, Value.int IntKind.u8 0, Value.int IntKind.u8 0, Value.int IntKind.u8 0, Value.int IntKind.u8 0, Value.int IntKind.u8 0, Value.int IntKind.u8 0, Value.int IntKind.u8 0, Value.int IntKind.u8 0, Value.int IntKind.u8 0, Value.int IntKind.u8 0, Value.int IntKind.u8 0, Value.int IntKind.u8 0, Value.int IntKind.u8 0, Value.int IntKind.u8 0, Value.int IntKind.u8 0, Value.int IntKind.u8 0, Value.int IntKind.u8 0, Value.int IntKind.u8 0, Value.int IntKind.u8 0, Value.int IntKind.u8 0, Value.int IntKind.u8 0, Value.int IntKind.u8 0, Value.int IntKind.u8 0, Value.int IntKind.u8 0, Value.int IntKind.u8 0, Value.int IntKind.u8 0, Value.int IntKind.u8 0, Value.int IntKind.u8 0, Value.int IntKind.u8 0, Value.int IntKind.u8 0] 134)).trans' (aA H5).2.1 (fun _ _ h => h) (fun i hi e => by omega)))
    have HR7 := hide (show Reads w5 1 (.slice (some ⟨w4.heap.size, 0, none⟩) 32 32) 32 ((sha (kU k' 54 ++ b)).map u8v) from by
      have := Reads.of_blk (aA H5).1 (i := 0) (n := 32) (c := 32) (by rw [(aA HI2).1]; omega) (by omega) (by unfold maxLen; omega)
      rw [← aA HI1] at this
      simp only [List.drop_zero] at this
      rwa [List.take_of_length_le (by rw [List.length_map, bQ]; omega)] at this)
    go_region_law (first
      | (refine aFh (s := .tmp 21) (x := .tmp 22) rfl rfl eG rfl (aA H6).1 (by omega) rfl ((aA HR7).ext (((Ext.refl w5).drew).trans (aA H6).2)) (bP.u8 _) (by omega) ?_; intro A8 c8 w8 hr8 hE8; have H8 := hide (And.intro hr8 hE8); clear hr8 hE8)
      | (go_simp; go_at_call 137; refine (aDr 92 _ rfl k' w.heap.size kv' _ (Ext.cellv ((aA HE5).drew) (aA HK).1) ((aA HK).2.1.ext ((aA HE5).drew)) hl').mono ?_; rintro e w6 ⟨g6, rfl, hR6, hE6⟩; have H6 := hide (And.intro hR6 hE6); clear hR6 hE6)
      | (rename_i K hK; go_simp; go_at_call 123; refine (sum_any (kU k' 92 ++ sha (kU k' 54 ++ b)) _ _ ((((aA HM).ext (aA HK).2.2.1).ext (aA HE5)).ext (((Ext.refl w5).drew).trans ((aA H6).2.trans (aA H8).2))) ?_ ?_).mono ?_; (focus (have := (aA H8).1; rw [← List.map_append] at this; rw [List.length_append, dX, bQ]; exact this)); (focus (rw [List.length_append, dX, bQ]; omega)); rintro e w9 ⟨rfl, hE9⟩; have H9 := hide ((aA HE5).trans (((Ext.refl w5).drew).trans ((aA H6).2.trans ((aA H8).2.trans hE9)))); clear hE9
         dsimp only
         refine hK _ _ ?_
         clear hK K
         refine wpAny_ready (rs := [5]) (by kernel_rfl) (by simp) (AllReady.cons rfl (fun J hJ => ?_) AllReady.nil)
         refine eP (ty := 134) (t := 134) (x := .tmp 4) (y := .tmp 24) rfl rfl dJ rfl rfl ((aA HK).2.2.2.ext (aA H9)) ?_ ?_ ?_ ?_
         · rw [Array.size_replicate]
         · simpa using bQ _
         · exact bG _
         intro w10 hb10 hc10 hz10
         have H10 := hide (And.intro hb10 hc10)
         clear hb10 hc10 hz10
         refine hJ _ _ ?_
         clear hJ J))
    go_wp2
    refine bodyPost_ret (v := .agg ((sha (kU k' 92 ++ sha (kU k' 54 ++ b))).map u8v).toArray) (aX dJ rfl (aA H10).1 (by simpa using bQ _) rfl) rfl ⟨rfl, ?_⟩
    exact ((aA HK).2.2.1.trans (aA H9)).trans' (aA H10).2 (fun _ _ h => h) (fun i hi e => by omega)
def zig (n : Int) : Nat := if 0 ≤ n then (2 * n).toNat else (-2 * n - 1).toNat
def varint : Nat → Nat → List UInt8
 | 0, u => [UInt8.ofNat u]
 | f + 1, u => if u < 128 then [UInt8.ofNat u] else UInt8.ofNat (128 + u % 128) :: varint f (u / 128)
def wInt (n : Int) : List UInt8 := varint 9 (zig n)
def iH (l : List UInt8) : List UInt8 := wInt l.length ++ l
theorem aFc {f u : Nat} (h : u < 128) : varint f u = [UInt8.ofNat u] := by cases f with
 | zero => rfl
 | succ f => rw [varint, if_pos h]
theorem aMv {f u : Nat} (h : ¬ u < 128) : varint (f + 1) u = UInt8.ofNat (128 + u % 128) :: varint f (u / 128) := by rw [varint, if_neg h]
theorem aCz (f u : Nat) : (varint f u).length ≤ f + 1 := by
 induction f generalizing u with
 | zero => simp [varint]
 | succ f ih =>
  rw [varint]
  split
  ·simp
  ·simp; exact ih _
theorem gQ (n : Int) : (wInt n).length ≤ 10 := aCz 9 _
theorem iZ (l : List UInt8) : (iH l).length ≤ 10 + l.length := by unfold iH; have := gQ l.length; simp; omega
theorem aQd {n : Int} (h1 : -9223372036854775808 ≤ n) (h2 : n < 9223372036854775808) : zig n < 18446744073709551616 := by unfold zig; split <;> omega
theorem or128 : ∀ x, x < 256 → x ||| 128 = 128 + x % 128 := by decide +kernel
theorem aSk (u : Nat) : bits BinOp.or IntKind.u8 ((u : Int) % 256) 128 = ((UInt8.ofNat (128 + u % 128)).toNat : Int) := by
 rw [u8_or _ _ (by omega) (by omega) (by omega) (by omega)]
 have e : ((u : Int) % 256).toNat = u % 256 := by omega
 rw [e, show (128 : Int).toNat = 128 from rfl, or128 _ (by omega)]
 simp
 omega
def aEs (x : Nat) : Prop := x < 18446744073709551616
def WI (n : Int) (w : World) (x f m : Nat) (v : Value) (wr : World) : Prop :=
 ∃ pre : List UInt8, wInt n = pre ++ varint f x ∧ m = pre.length ∧ x < 128 ^ (f + 1) ∧ f ≤ 9 ∧ wr.ownsRow w.heap.size 5 1 v m (pre.map u8v) ∧ Ext w wr
theorem WI.small {n : Int} {w wr : World} {x f m : Nat} {v : Value} (h : WI n w x f m v wr) : m ≤ 10 := by
 obtain ⟨pre, h1, rfl, _⟩ := h
 have := gQ n
 rw [h1] at this
 simp at this
 omega
theorem WI.app {n : Int} {w wr w3 : World} {x f m : Nat} {A A' : Option Addr} {c c' : Nat} (h : WI n w x f m (.slice A m c) wr) (hx : ¬ x < 128)
  (ho : w3.ownsRow w.heap.size 5 1 (.slice A' (m + 1) c') (m + 1) ((h.choose).map u8v ++ [u8v (UInt8.ofNat (128 + x % 128))])) {o : Obj} (hc : Chg (fun k => (Value.slice A m c).ownBlock = some k) (wr.alloc o) w3) :
  ∃ g, WI n w (x / 128) g (m + 1) (.slice A' (m + 1) c') w3 := by
 obtain ⟨h1, h2, h3, h4, h5, h6⟩ := h.choose_spec
 generalize h.choose = pre at *
 cases f with
 | zero => simp at h3; omega
 | succ g =>
  rw [aMv hx] at h1
  refine ⟨g, pre ++ [UInt8.ofNat (128 + x % 128)], by rw [h1]; simp, by simp [h2], ?_, by omega, by simpa using ho, (h6.alloc o).trans' hc (fun _ _ h => h) (fun i hi e => by have := h5.lt i e; omega)⟩
  rw [Nat.pow_succ] at h3
  exact Nat.div_lt_of_lt_mul (by rw [Nat.mul_comm]; exact h3)
theorem WI.last {n : Int} {w wr w3 : World} {x f m : Nat} {A A' : Option Addr} {c c' : Nat} (h : WI n w x f m (.slice A m c) wr) (hx : x < 128)
  (ho : w3.ownsRow w.heap.size 5 1 (.slice A' (m + 1) c') (m + 1) ((h.choose).map u8v ++ [u8v (UInt8.ofNat x)])) {o : Obj} (hc : Chg (fun k => (Value.slice A m c).ownBlock = some k) (wr.alloc o) w3) :
  m + 1 = (wInt n).length ∧ w3.ownsRow w.heap.size 5 1 (.slice A' (m + 1) c') (m + 1) ((wInt n).map u8v) ∧ Ext w w3 := by
 obtain ⟨h1, h2, h3, h4, h5, h6⟩ := h.choose_spec
 generalize h.choose = pre at *
 rw [aFc hx] at h1
 refine ⟨by rw [h1]; simp [h2], by rw [h1]; simpa using ho, (h6.alloc o).trans' hc (fun _ _ h => h) (fun i hi e => by have := h5.lt i e; omega)⟩
theorem not64 (a : Nat) (h : a < 18446744073709551616) : bits BinOp.xor IntKind.u64 IntKind.u64.max (a : Int) = ((18446744073709551615 - a : Nat) : Int) := by
 have e := u64_xor IntKind.u64.max (a : Int) (by decide) (by decide) (by omega) (by omega)
 rw [e]
 have h1 : (UInt64.ofNat a).toNat = a := by simp; omega
 have h2 : (-1 ^^^ UInt64.ofNat a).toNat = 18446744073709551615 - a := by
  rw [UInt64.neg_one_xor, UInt64.toNat_not, h1]
  rfl
 rw [UInt64.toNat_xor, h1] at h2
 rw [← h2]
 rfl
theorem zig_pos (n : Int) (h0 : 0 ≤ n) (h2 : n < 9223372036854775808) : IntKind.u64.wrap (IntKind.u64.wrap n * 2) = (zig n : Int) := by
 rw [IntKind.wrap_u64, IntKind.wrap_u64]; unfold zig; rw [if_pos h0]; omega
theorem zig_neg (n : Int) (h0 : n < 0) (h1 : -9223372036854775808 ≤ n) : bits BinOp.xor IntKind.u64 IntKind.u64.max (IntKind.u64.wrap (IntKind.u64.wrap n * 2)) = (zig n : Int) := by
 have e : IntKind.u64.wrap (IntKind.u64.wrap n * 2) = ((2 * n + 18446744073709551616).toNat : Int) := by rw [IntKind.wrap_u64, IntKind.wrap_u64]; omega
 rw [e, not64 _ (by omega)]; unfold zig; rw [if_neg (by omega)]; omega
theorem WI.start {n : Int} (h1 : -9223372036854775808 ≤ n) (h2 : n < 9223372036854775808) (w : World) : WI n w (zig n) 9 0 (.slice none 0 0) w :=
 ⟨[], rfl, rfl, Nat.lt_of_lt_of_le (aQd h1 h2) (by decide), by omega, World.ownsRow_nil _ _ _ _, Ext.refl _⟩
theorem aMt (n : Int) (w : World) (h1 : -9223372036854775808 ≤ n) (h2 : n < 9223372036854775808) :
  Calls Tryz.prog 109 #[.int .i64 n] w fun e w' => e = .returned (.int .u64 (zig n : Int)) ∧ w = w' := by
 by_cases h0 : 0 ≤ n
 ·have hz := hide (show ((zig n : Nat) : Int) = 2 * n from by unfold zig; rw [if_pos h0]; omega)
  go_enter Tryz.func109, Tryz.ntmps109
  go_wp2
  go_ret
  exact ⟨pF (by first | exact (aA hz).symm | (rw [aA hz]; omega) | (rw [aA hz]; simp [IntKind.wrap_u64]; omega)), rfl⟩
 ·have hz := hide (show ((zig n : Nat) : Int) = -2 * n - 1 from by unfold zig; rw [if_neg h0]; omega)
  have d0 : decide (0 ≤ n) = false := decide_eq_false h0
  have hn : n < 0 := by omega
  clear h0
  go_enter Tryz.func109, Tryz.ntmps109
  go_wp2
  go_ret
  exact ⟨pF (by first | exact (aA hz).symm | (rw [aA hz]; omega) | (rw [aA hz]; simp [IntKind.wrap_u64]; omega)), rfl⟩
theorem xK (n : Int) (w : World) (h1 : -9223372036854775808 ≤ n) (h2 : n < 9223372036854775808) :
  Calls Tryz.prog 88 #[.int .i64 n] w fun e w' => ∃ A c, e = .returned (.slice A (wInt n).length c) ∧ w'.ownsRow w.heap.size 5 1 (.slice A (wInt n).length c) (wInt n).length ((wInt n).map u8v) ∧ Ext w w' := by
 have HI := hide (WI.start h1 h2 w)
 have HZ := hide (show aEs (zig n) from aQd h1 h2)
 have HZZ := hide (fun w => aMt n w h1 h2)
 clear h1 h2
 go_enter Tryz.func88, Tryz.ntmps88
 go_wp2_with (go_at_call 109; refine (aA HZZ _).mono ?_; rintro e w' ⟨rfl, rfl⟩)
 generalize zig n = z at *
 go_loopw [3, 4] (fun u b wr => ∃ (x f m : Nat) (A : Option Addr) (c : Nat), u = .int .u64 (x : Int) ∧ aEs x ∧ b = .slice A m c ∧ Hid (WI n w x f m (.slice A m c) wr)) (fun u _ _ => (intOf u).toNat)
 case atStart => exact ⟨z, 9, 0, none, 0, rfl, aA HZ, rfl, HI⟩
 case round =>
  clear HI HZ
  obtain ⟨x, f, m, A, c, rfl, hx64, rfl, HI⟩ := hrel
  have hm := (aA HI).small
  by_cases hlt : x < 128
  ·have HB := hide (show (x : Int) = ((UInt8.ofNat x).toNat : Int) from by simp; omega)
   go_wp2_with (at_builtin; refine aU rfl rfl eG rfl (aQ (aA HI).choose_spec.2.2.2.2.1 ((Ext.refl wr).alloc _)) rfl (Reads.new1 _ _ _) (bP.one rfl) (by omega) (by have := (aA HI).choose_spec.2.2.2.2.2.size'; simp; omega) ?_; intro A' c' w3 ho hc hv; have HQ := hide (And.intro ho hc); clear ho hc hv)
   go_ret
   obtain ⟨q1, q2⟩ := aA HQ
   rw [aA HB] at q1
   obtain ⟨q3, q4, q5⟩ := (aA HI).last hlt q1 q2
   rw [q3] at q4 ⊢
   exact ⟨_, _, rfl, q4, q5⟩
  ·have hwq : IntKind.u64.wrap ((x : Int) / 128) = ((x / 128 : Nat) : Int) := by rw [IntKind.wrap_u64]; unfold aEs at hx64; omega
   have HB := hide (show 128 + (x : Int) % 128 = ((UInt8.ofNat (128 + x % 128)).toNat : Int) from by simp; omega)
   go_wp2_with (at_builtin; refine aU rfl rfl eG rfl (aQ (aA HI).choose_spec.2.2.2.2.1 ((Ext.refl wr).alloc _)) rfl (Reads.new1 _ _ _) (bP.one rfl) (by omega) (by have := (aA HI).choose_spec.2.2.2.2.2.size'; simp; omega) ?_; intro A' c' w3 ho hc hv; have HQ := hide (And.intro ho hc); clear ho hc hv)
   go_roundw
   case rel =>
    obtain ⟨q1, q2⟩ := aA HQ
    rw [aA HB] at q1
    obtain ⟨g, q3⟩ := (aA HI).app hlt q1 q2
    exact ⟨x / 128, g, m + 1, A', c', by go_num, by unfold aEs at hx64 ⊢; omega, rfl, hide q3⟩
   case measure => simp [intOf]; omega
theorem xE (n : Int) (w : World) (h1 : -9223372036854775808 ≤ n) (h2 : n < 9223372036854775808) :
  Calls Tryz.prog 118 #[.int .i64 n] w fun e w' => ∃ A c, e = .returned (.slice A (wInt n).length c) ∧ w'.ownsRow w.heap.size 5 1 (.slice A (wInt n).length c) (wInt n).length ((wInt n).map u8v) ∧ Ext w w' := by
 have HI := hide (WI.start h1 h2 w)
 have HZ := hide (show aEs (zig n) from aQd h1 h2)
 rcases Int.lt_or_le n 0 with h0 | h0
 ·have hz := zig_neg n h0 h1
  have d0 : decide (n < 0) = true := decide_eq_true h0
  clear h1 h2
  go_enter Tryz.func118, Tryz.ntmps118
  go_wp2
  go_step3
  go_wp2
  go_step3
  go_wp2
  generalize zig n = z at *
  clear hz d0
  go_loopw [3, 4] (fun u b wr => ∃ (x f m : Nat) (A : Option Addr) (c : Nat), u = .int .u64 (x : Int) ∧ aEs x ∧ b = .slice A m c ∧ Hid (WI n w x f m (.slice A m c) wr)) (fun u _ _ => (intOf u).toNat)
  case atStart => exact ⟨z, 9, 0, none, 0, rfl, aA HZ, rfl, HI⟩
  case round =>
   clear HI HZ
   obtain ⟨x, f, m, A, c, rfl, hx64, rfl, HI⟩ := hrel
   have hm := (aA HI).small
   by_cases hlt : x < 128
   ·have HB := hide (show (x : Int) = ((UInt8.ofNat x).toNat : Int) from by simp; omega)
    go_wp2_with (at_builtin; refine aU rfl rfl eG rfl (aQ (aA HI).choose_spec.2.2.2.2.1 ((Ext.refl wr).alloc _)) rfl (Reads.new1 _ _ _) (bP.one rfl) (by omega) (by have := (aA HI).choose_spec.2.2.2.2.2.size'; simp; omega) ?_; intro A' c' w3 ho hc hv; have HQ := hide (And.intro ho hc); clear ho hc hv)
    try rw [Exit.noGoto_ret]
    go_ret
    obtain ⟨q1, q2⟩ := aA HQ
    rw [aA HB] at q1
    obtain ⟨q3, q4, q5⟩ := (aA HI).last hlt q1 q2
    rw [q3] at q4 ⊢
    exact ⟨_, _, rfl, q4, q5⟩
   ·have hwq : (x : Int).fdiv (2 ^ min (Int.toNat 7) IntKind.u64.bits) = ((x / 128 : Nat) : Int) := by
     show (x : Int).fdiv 128 = _
     rw [Int.fdiv_eq_ediv_of_nonneg _ (by omega)]; omega
    have HB := hide (aSk x)
    go_wp2_with (at_builtin; refine aU rfl rfl eG rfl (aQ (aA HI).choose_spec.2.2.2.2.1 ((Ext.refl wr).alloc _)) rfl (Reads.new1 _ _ _) (bP.one rfl) (by omega) (by have := (aA HI).choose_spec.2.2.2.2.2.size'; simp; omega) ?_; intro A' c' w3 ho hc hv; have HQ := hide (And.intro ho hc); clear ho hc hv)
    go_roundw
    case rel =>
     obtain ⟨q1, q2⟩ := aA HQ
     rw [aA HB] at q1
     obtain ⟨g, q3⟩ := (aA HI).app hlt q1 q2
     exact ⟨x / 128, g, m + 1, A', c', by go_num, by unfold aEs at hx64 ⊢; omega, rfl, hide q3⟩
    case measure => simp [intOf]; omega
 ·have hz := zig_pos n h0 h2
  have d0 : decide (n < 0) = false := decide_eq_false (by omega)
  clear h1 h2
  go_enter Tryz.func118, Tryz.ntmps118
  go_wp2
  go_step3
  go_wp2
  go_step3
  go_wp2
  generalize zig n = z at *
  clear hz d0
  go_loopw [3, 4] (fun u b wr => ∃ (x f m : Nat) (A : Option Addr) (c : Nat), u = .int .u64 (x : Int) ∧ aEs x ∧ b = .slice A m c ∧ Hid (WI n w x f m (.slice A m c) wr)) (fun u _ _ => (intOf u).toNat)
  case atStart => exact ⟨z, 9, 0, none, 0, rfl, aA HZ, rfl, HI⟩
  case round =>
   clear HI HZ
   obtain ⟨x, f, m, A, c, rfl, hx64, rfl, HI⟩ := hrel
   have hm := (aA HI).small
   by_cases hlt : x < 128
   ·have HB := hide (show (x : Int) = ((UInt8.ofNat x).toNat : Int) from by simp; omega)
    go_wp2_with (at_builtin; refine aU rfl rfl eG rfl (aQ (aA HI).choose_spec.2.2.2.2.1 ((Ext.refl wr).alloc _)) rfl (Reads.new1 _ _ _) (bP.one rfl) (by omega) (by have := (aA HI).choose_spec.2.2.2.2.2.size'; simp; omega) ?_; intro A' c' w3 ho hc hv; have HQ := hide (And.intro ho hc); clear ho hc hv)
    try rw [Exit.noGoto_ret]
    go_ret
    obtain ⟨q1, q2⟩ := aA HQ
    rw [aA HB] at q1
    obtain ⟨q3, q4, q5⟩ := (aA HI).last hlt q1 q2
    rw [q3] at q4 ⊢
    exact ⟨_, _, rfl, q4, q5⟩
   ·have hwq : (x : Int).fdiv (2 ^ min (Int.toNat 7) IntKind.u64.bits) = ((x / 128 : Nat) : Int) := by
     show (x : Int).fdiv 128 = _
     rw [Int.fdiv_eq_ediv_of_nonneg _ (by omega)]; omega
    have HB := hide (aSk x)
    go_wp2_with (at_builtin; refine aU rfl rfl eG rfl (aQ (aA HI).choose_spec.2.2.2.2.1 ((Ext.refl wr).alloc _)) rfl (Reads.new1 _ _ _) (bP.one rfl) (by omega) (by have := (aA HI).choose_spec.2.2.2.2.2.size'; simp; omega) ?_; intro A' c' w3 ho hc hv; have HQ := hide (And.intro ho hc); clear ho hc hv)
    go_roundw
    case rel =>
     obtain ⟨q1, q2⟩ := aA HQ
     rw [aA HB] at q1
     obtain ⟨g, q3⟩ := (aA HI).app hlt q1 q2
     exact ⟨x / 128, g, m + 1, A', c', by go_num, by unfold aEs at hx64 ⊢; omega, rfl, hide q3⟩
    case measure => simp [intOf]; omega
theorem u8_zero : (Tryz.prog.info? 5).map (·.zero) = some (some (.int .u8 0)) := by kernel_rfl
theorem aBk (s : ByteArray) : (iH s.data.toList).length = (wInt s.size).length + s.size := by
 unfold iH
 rw [List.length_append, Array.length_toList]
 rfl
theorem aBj (s : ByteArray) : (iH s.data.toList).map u8v = (wInt s.size).map u8v ++ s.data.toList.map aPv := by
 unfold iH
 rw [List.map_append, Array.length_toList]
 rfl
theorem aBi (s : ByteArray) (w : World) (hs : s.size ≤ 1000000000) :
  Calls Tryz.prog 128 #[.string s] w fun e w' => ∃ A c, e = .returned (.slice A (iH s.data.toList).length c) ∧ w'.ownsRow w.heap.size 5 1 (.slice A (iH s.data.toList).length c) (iH s.data.toList).length ((iH s.data.toList).map u8v) ∧ Ext w w' := by
 have HW := hide (fun w => xE (s.size : Int) w (by omega) (by omega))
 have HL := hide (aBk s)
 have HM := hide (aBj s)
 have hl := gQ (s.size : Int)
 go_enter Tryz.func128, Tryz.ntmps128
 go_wp2_with fail
 refine (aA HW _).mono ?_
 rintro e w1 ⟨A, c, rfl, ho, hE⟩
 have HO := hide (And.intro ho hE)
 clear ho hE
 go_wp2_with (at_builtin; refine aIa rfl rfl eG u8_zero Tryz.underlying9 rfl (aA HO).1 rfl (by omega) (aA HO).2.size' ?_; intro A' c' w2 ho hc; have HQ := hide (And.intro ho hc); clear ho hc)
 go_ret
 obtain ⟨h1, h2⟩ := aA HQ
 rw [← aA HL, ← aA HM] at h1
 exact ⟨A', c', by rw [aA HL]; rfl, h1, (aA HO).2.trans' h2 (fun _ _ h => h) (fun i hi e => by have := ((aA HO).1.lt i e).1; omega)⟩
theorem vT (s : ByteArray) (w : World) (hs : s.size ≤ 1000000000) :
  Calls Tryz.prog 63 #[.string s] w fun e w' => ∃ A c, e = .returned (.slice A (iH s.data.toList).length c) ∧ w'.ownsRow w.heap.size 5 1 (.slice A (iH s.data.toList).length c) (iH s.data.toList).length ((iH s.data.toList).map u8v) ∧ Ext w w' := by
 have HW := hide (fun w => xK (s.size : Int) w (by omega) (by omega))
 have HL := hide (aBk s)
 have HM := hide (aBj s)
 have hl := gQ (s.size : Int)
 go_enter Tryz.func63, Tryz.ntmps63
 go_wp2_with fail
 refine (aA HW _).mono ?_
 rintro e w1 ⟨A, c, rfl, ho, hE⟩
 have HO := hide (And.intro ho hE)
 clear ho hE
 go_wp2_with (first
  | (refine aAs (src := 9) (dst := 40) (x := .tmp 6) (s := s) rfl rfl Tryz.underlying9 Tryz.underlying40 Tryz.underlying5 rfl (by unfold maxLen; omega) ?_; intro c2 w2 hr2 hE2 hf2; have HR := hide (And.intro hr2 hE2); clear hr2 hE2 hf2)
  | (at_builtin; refine aU rfl rfl eG rfl (aQ (aA HO).1 (aA HR).2) rfl (aA HR).1 (bP.map (fun _ => rfl) _) (by omega) (Nat.le_trans (aA HO).2.size' (aA HR).2.size') ?_; intro A' c' w3 ho hc hv; have HQ := hide (And.intro ho hc); clear ho hc hv))
 go_ret
 obtain ⟨h1, h2⟩ := aA HQ
 rw [← aA HL, ← aA HM] at h1
 exact ⟨A', c', by rw [aA HL]; rfl, h1, ((aA HO).2.trans (aA HR).2).trans' h2 (fun _ _ h => h) (fun i hi e => by have := ((aA HO).1.lt i e).1; omega)⟩
theorem aC : Wide Tryz.prog 23 16 := ⟨⟨_, Tryz.underlying23, rfl⟩, by kernel_rfl⟩
theorem short_any (l : List UInt8) (w : World) (hl : l.length = 32) :
  Calls Tryz.prog 122 #[.agg (l.map u8v).toArray] w fun e w' => e = .returned (.agg ((l.take 16).map u8v).toArray) ∧ Ext w w' := by
 obtain ⟨arr, harr⟩ : ∃ r, (l.map u8v).toArray = r := ⟨_, rfl⟩
 obtain ⟨res, hres⟩ : ∃ r, ((l.take 16).map u8v).toArray = r := ⟨_, rfl⟩
 have HA := hide (And.intro harr hl)
 have HR := hide hres
 have HS := hide (show res.size = 16 ∧ res.all (·.oneCell') = true from by rw [← hres]; exact ⟨by simp; omega, bG _⟩)
 rw [harr, hres]
 clear harr hres hl
 have hat := fun X => run_arrayAt (P := Tryz.prog) Tryz.underlying23 (ad := some ⟨w.heap.size, 0, none⟩) (len := 16) (c := 32) (by omega) X
 go_enter Tryz.func122, Tryz.ntmps122
 go_wp2_with (first
  | (refine mW (ty := 23) (x := .tmp 4) rfl rfl aC rfl (arr := res) (cs := (l.take 16).map u8v) ?_ ?_ (aA HR) ?_; (focus (refine lY (w := w.alloc (.cells arr 134)) (S := Non) (fun j v hj => ?_) ((Ext.refl _).alloc _) (fun h => h); rw [Nat.zero_add, (Blk.new w _ arr).cell, ← (aA HA).1]; rw [List.map_take, List.getElem?_take] at hj; split at hj; (simpa using hj); (cases hj))); (focus (have := (aA HA).2; simp; omega)))
  | (refine aH (ty := 23) (t := 23) (x := .tmp 2) (y := .tmp 5) rfl rfl aC rfl rfl (Blk.new' _ _ _ ?_) rfl (aA HS).1 (aA HS).2 ?_; (focus (simp; done)); intro w2 hb2 hc2 hz2; have H2 := hide (And.intro hb2 hc2); clear hb2 hc2 hz2))
 refine bodyPost_ret (v := .agg res) (aX aC rfl (aA H2).1 (aA HS).1 rfl) rfl ⟨rfl, ?_⟩
 exact (((Ext.refl w).alloc _).alloc _).trans' (aA H2).2 (fun _ _ h => h) (fun i hi e => by omega)
theorem aSw (key b : List UInt8) (w : World) : Calls Tryz.prog 122 #[.agg ((hmac key b).map u8v).toArray] w fun e w' => e = .returned (.agg ((mac key b).map u8v).toArray) ∧ Ext w w' := short_any _ _ (tV _ _)
theorem oL (key b : List UInt8) : (mac key b).length = 16 := by unfold mac; rw [List.length_take, tV]; omega
theorem mac_any (key b : List UInt8) (kv bv : Value) (w : World) (hM : ShaMem w) (hk : Reads w 1 kv key.length (key.map u8v)) (hb : Reads w 1 bv b.length (b.map u8v)) (hkl : key.length ≤ 1000000) (hbl : b.length ≤ 1000000) :
  Calls Tryz.prog 127 #[kv, bv] w fun e w' => e = .returned (.agg ((mac key b).map u8v).toArray) ∧ Ext w w' := by
 have HH := hide (hmac_any key b kv bv _ (hM.ext ((Ext.refl w).alloc (.cells (Array.replicate 16 (.int .u8 0)) 23))) (hk.ext ((Ext.refl w).alloc _)) (hb.ext ((Ext.refl w).alloc _)) hkl hbl)
 have HL := hide (oL key b)
 clear hM hk hb
 go_enter Tryz.func127, Tryz.ntmps127
 go_wp2_with fail
 refine (aA HH).mono ?_
 rintro e w1 ⟨rfl, hE1⟩
 go_wp2_with fail
 refine (aSw key b _).mono ?_
 rintro e w2 ⟨rfl, hE2⟩
 have hB := (Blk.new w 23 (Array.replicate 16 (.int .u8 0))).ext (hE1.trans hE2)
 have HB := hide (And.intro hB (hE1.trans hE2))
 clear hB hE1 hE2
 go_wp2_with (refine aH (ty := 23) (t := 23) (x := .tmp 4) (y := .tmp 8) rfl rfl aC rfl rfl (aA HB).1 (by simp) ?_ (bG _) ?_; (focus (simpa using aA HL)); intro w3 hb3 hc3 hz3; have H3 := hide (And.intro hb3 hc3); clear hb3 hc3 hz3)
 refine bodyPost_ret (v := .agg ((mac key b).map u8v).toArray) (aX aC rfl (aA H3).1 (by simpa using aA HL) rfl) rfl ⟨rfl, ?_⟩
 exact (((Ext.refl w).alloc _).trans (aA HB).2).trans' (aA H3).2 (fun _ _ h => h) (fun i hi e => by omega)
def Parts (w : World) (v : Value) (ps : List (List UInt8)) : Prop := ∃ vs : List Value, vs.length = ps.length ∧ Reads w 1 v ps.length vs ∧ ∀ (i : Nat) (p : List UInt8), ps[i]? = some p → ∃ u, vs[i]? = some u ∧ Reads w 1 u p.length (p.map u8v)
theorem Parts.ext {w w' : World} {v : Value} {ps : List (List UInt8)} (h : Parts w v ps) (hE : Ext w w') : Parts w' v ps := by
 obtain ⟨vs, h1, h2, h3⟩ := h
 refine ⟨vs, h1, h2.ext hE, fun i p hp => ?_⟩
 obtain ⟨u, h4, h5⟩ := h3 i p hp
 exact ⟨u, h4, h5.ext hE⟩
theorem Parts.nil (w : World) : Parts w (.slice none 0 0) [] := ⟨[], rfl, Reads.nil w 1, fun i p h => by simp at h⟩
def encs (ps : List (List UInt8)) : List UInt8 := ps.flatMap iH
theorem aAg (ps : List (List UInt8)) (k : Nat) (h : k < ps.length) : encs (ps.take (k + 1)) = encs (ps.take k) ++ iH ps[k] := by
 unfold encs
 rw [jB ps k h, List.flatMap_append]
 simp
theorem aCn (ps : List (List UInt8)) (M : Nat) (h : ∀ p ∈ ps, p.length ≤ M) : (encs ps).length ≤ ps.length * (M + 10) := by
 unfold encs
 induction ps with
 | nil => simp
 | cons p ps ih =>
  have h1 := ih fun q hq => h q (List.mem_cons_of_mem _ hq)
  have h2 := h p List.mem_cons_self
  have h3 := iZ p
  rw [List.flatMap_cons, List.length_append, List.length_cons, Nat.succ_mul]
  omega
theorem own_less {w : World} {B B' : Nat} {e : TypeId} {size n : Nat} {v : Value} {xs : List Value} (h : w.ownsRow B e size v n xs) (hB : B' ≤ B) : w.ownsRow B' e size v n xs := by
 refine ⟨h.1, ?_⟩
 rcases h.2 with h | ⟨g, cap, cur, hv, hb, h⟩
 ·exact .inl h
 ·exact .inr ⟨g, cap, cur, hv, Nat.le_trans hB hb, h⟩
theorem aDm (l : List UInt8) (w : World) (hl : l.length = 32) :
  Calls Tryz.prog 129 #[.agg (l.map u8v).toArray] w fun e w' => ∃ A c, e = .returned (.slice A 32 c) ∧ GB w w.heap.size (.slice A 32 c) 32 l w' := by
 obtain ⟨arr, harr⟩ : ∃ r, (l.map u8v).toArray = r := ⟨_, rfl⟩
 have HA := hide (And.intro harr hl)
 rw [harr]
 clear harr hl
 go_enter Tryz.func129, Tryz.ntmps129
 go_wp2
 go_loopw [3, 4] (fun b i wr => ∃ (k : Nat) (A : Option Addr) (c : Nat), k ≤ 32 ∧ i = .int .i64 k ∧ b = .slice A k c ∧ Hid (GB w (w.heap.size + 1) (.slice A k c) k (l.take k) wr ∧ Blk wr w.heap.size 134 arr)) (fun _ i _ => 32 - (intOf i).toNat)
 case atStart => exact ⟨0, none, 0, Nat.zero_le _, rfl, rfl, hide ⟨GB.nil ((Ext.refl w).alloc _) (by omega) (by simp), Blk.new _ _ _⟩⟩
 case round =>
  obtain ⟨k, A, c, hk, rfl, rfl, HI⟩ := hrel
  by_cases hlt : k < 32
  ·have hc : wr.cell? ⟨w.heap.size, k, none⟩ = some (.int .u8 ((l.getD k 0).toNat : Int)) := by
    rw [(aA HI).2.cell, ← (aA HA).1, List.getElem?_toArray, List.getElem?_map, zG, zH (by rw [(aA HA).2]; exact hlt)]
    rfl
   have HS := hide (show l.take (k + 1) = l.take k ++ [l.getD k 0] from by
    rw [jB l k (by rw [(aA HA).2]; exact hlt), zG, zH (by rw [(aA HA).2]; exact hlt)]
    rfl)
   generalize l.getD k 0 = x at *
   have b1 : (k : Int) < 32 := by omega
   go_wp2_with (at_builtin; refine aU rfl rfl eG rfl (aQ (aA HI).1.own ((Ext.refl _).alloc _)) rfl (Reads.new1 _ _ _) (bP.one rfl) (by omega) (Nat.le_trans (aA HI).1.room (by simp)) ?_; intro A' c' w2 ho hc2 hv; have HQ := hide (And.intro ho hc2); clear ho hc2 hv)
   go_roundw
   case rel =>
    refine ⟨k + 1, A', c', by omega, by go_num, rfl, hide ⟨(aA HI).1.step ((Ext.refl _).alloc _) (aA HQ).2 (by rw [aA HS, List.map_append]; exact (aA HQ).1), (aA HI).1.blk ((Ext.refl _).alloc _) (aA HQ).2 (aA HI).2 (by omega)⟩⟩
   case measure => simp [intOf]; omega
  ·obtain rfl : k = 32 := by omega
   go_wp2
   go_ret
   have h := (aA HI).1
   rw [List.take_of_length_le (by rw [(aA HA).2]; omega)] at h
   exact ⟨_, _, rfl, own_less h.own (by omega), h.ext, Nat.le_refl _, h.ext.size'⟩
theorem aBu (l : List UInt8) (w : World) (hl : l.length = 32) :
  Calls Tryz.prog 64 #[.agg (l.map u8v).toArray] w fun e w' => e = .returned (.agg ((l.take 16).map u8v).toArray) ∧ Ext w w' := by
 obtain ⟨arr, harr⟩ : ∃ r, (l.map u8v).toArray = r := ⟨_, rfl⟩
 have HA := hide (And.intro harr hl)
 rw [harr]
 clear harr hl
 go_enter Tryz.func64, Tryz.ntmps64
 go_wp2
 go_loopw [4] (fun i wr => ∃ k : Nat, k ≤ 16 ∧ i = .int .i64 k ∧ Hid (Blk wr w.heap.size 134 arr ∧ Blk wr (w.heap.size + 1) 23 (cZ 16 []) ∧ Blk wr (w.heap.size + 1 + 1) 23 (cZ 16 (l.take k)) ∧ Ext w wr)) (fun i _ => 16 - (intOf i).toNat)
 case atStart => exact ⟨0, Nat.zero_le _, rfl, hide ⟨((Blk.new w _ _).alloc _).alloc _, (Blk.new' _ _ _ (by simp)).alloc _, Blk.new' _ _ _ (by simp), (((Ext.refl w).alloc _).alloc _).alloc _⟩⟩
 case round =>
  obtain ⟨k, hk, rfl, HI⟩ := hrel
  have hlk : (l.take k).length = k := by rw [List.length_take, (aA HA).2]; omega
  by_cases hlt : k < 16
  ·have hc : wr.cell? ⟨w.heap.size, k, none⟩ = some (.int .u8 ((l.getD k 0).toNat : Int)) := by
    rw [(aA HI).1.cell, ← (aA HA).1, List.getElem?_toArray, List.getElem?_map, zG, zH (by rw [(aA HA).2]; omega)]
    rfl
   have HS := hide (show l.take (k + 1) = l.take k ++ [l.getD k 0] from by
    rw [jB l k (by rw [(aA HA).2]; omega), zG, zH (by rw [(aA HA).2]; omega)]
    rfl)
   have hc2 : wr.cell? ⟨w.heap.size + 1 + 1, k, none⟩ = some (.int .u8 0) := by
    rw [(aA HI).2.2.1.cell]
    exact rM (by omega) hlt
   have hf := (aA HI).2.2.1.frozen k
   generalize l.getD k 0 = x at *
   have b1 : (k : Int) < 32 := by omega
   have b2 : (k : Int) < 16 := by omega
   have HL := hide hlk
   clear hlk
   go_wp2
   go_roundw
   case rel =>
    obtain ⟨q1, q2, q3, q4⟩ := aA HI
    have h1 := q3.set_ k (.int .u8 (x.toNat : Int))
    rw [aAm _ (aA HL) hlt, ← aA HS] at h1
    exact ⟨k + 1, by omega, by go_num, hide ⟨q1.far' (by omega) _ _, q2.far' (by omega) _ _, h1, q4.setCell (by simp; omega) _⟩⟩
   case measure => simp [intOf]; omega
  ·obtain rfl : k = 16 := by omega
   obtain ⟨res, hres⟩ : ∃ r, ((l.take 16).map u8v).toArray = r := ⟨_, rfl⟩
   have HR := hide (show cZ 16 (l.take 16) = res from by rw [aAn hlk, hres])
   have HS := hide (show res.size = 16 ∧ res.all (·.oneCell') = true from by rw [← hres]; exact ⟨by simpa using hlk, bG _⟩)
   have HRE := hide hres
   clear hres
   rw [aA HR] at HI
   clear hlk
   go_wp2_with (first
    | (refine aZ (ty := 23) (t := 23) (x := .tmp 3) rfl rfl aC rfl (aA HI).2.2.1 (aA HS).1 ?_)
    | (refine aH (ty := 23) (t := 23) (x := .tmp 2) (y := .tmp 15) rfl rfl aC rfl rfl (aA HI).2.1 (jO (by simp)) (aA HS).1 (aA HS).2 ?_; intro w2 hb2 hc2 hz2; have H2 := hide (And.intro hb2 hc2); clear hb2 hc2 hz2))
   refine bodyPost_ret (v := .agg res) (aX aC rfl (aA H2).1 (aA HS).1 rfl) rfl ⟨by rw [aA HRE], ?_⟩
   exact (aA HI).2.2.2.trans' (aA H2).2 (fun _ _ h => h) (fun i hi e => by omega)
end Go.Proofs.YtihghljfmlbfhaaGreatDoor
