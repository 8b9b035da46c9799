
/-
  sha.Sum.
-/
import Derived.Test.YtoefmncdloffaaaDoorShaK
import Derived.Test.YtoefmncdloffaaaDoorShaE
import Derived.Laws.EntriesVeiled
namespace Go.Proofs.YtoefmncdloffaaaDoor
open Go.RowKit
attribute [local go_sem] Oper.semAt_some

/-- The padding with k zeros. -/
def padTo (l : List UInt8) (k : Nat) : List UInt8 := l ++ [128] ++ List.replicate k 0
theorem padTo_length (l : List UInt8) (k : Nat) : (padTo l k).length = l.length + 1 + k := by simp [padTo]; omega
theorem padTo_step (l : List UInt8) (k : Nat) : padTo l (k + 1) = padTo l k ++ [0] := by unfold padTo; rw [List.replicate_succ', List.append_assoc, List.append_assoc, List.append_assoc]
/-- The state when some blocks are done. -/
def shaFold (P : List UInt8) (l : List Nat) (v : List UInt32) : List UInt32 := l.foldl (fun v i => shaBlock v ((P.drop (64 * i)).take 64)) v
theorem shaFold_blocks (m : Nat) (v : List UInt32) (P : List UInt8) : shaFold P (List.range m) v = shaBlocks m v P := by
  induction m generalizing v P with
  | zero => rfl
  | succ m ih =>
    have e2 : ∀ i, (P.drop 64).drop (64 * i) = P.drop (64 * (i + 1)) := fun i => by rw [List.drop_drop, show 64 + 64 * i = 64 * (i + 1) from by omega]
    have h := ih (shaBlock v (P.take 64)) (P.drop 64)
    refine Eq.trans ?_ h
    unfold shaFold
    simp only [e2]
    rw [List.range_succ_eq_map, List.foldl_cons, List.foldl_map, Nat.mul_zero, List.drop_zero]
theorem shaFold_length (P : List UInt8) (l : List Nat) (v : List UInt32) (h : v.length = 8) : (shaFold P l v).length = 8 := by
  unfold shaFold
  induction l generalizing v with
  | nil => exact h
  | cons i l ih =>
    rw [List.foldl_cons]
    refine ih _ ?_
    unfold shaBlock
    rw [List.length_zipWith, h]
    rw [show (shaRounds ((P.drop (64 * i)).take 64) v).length = 8 from roundsAt_length _ _ h 64]
    rfl
/-- The bytes of the first k words. -/
def outAt (l : List UInt32) (k : Nat) : List UInt8 := (l.take k).flatMap fun w => beBytes w.toNat 4
theorem outAt_step (l : List UInt32) (k : Nat) (h : k < l.length) : outAt l (k + 1) = outAt l k ++ beBytes (l.getD k 0).toNat 4 := by
  unfold outAt
  rw [take_step l k h, List.flatMap_append, List.getD_eq_getElem?_getD, List.getElem?_eq_getElem h]
  simp
theorem outAt_length (l : List UInt32) (k : Nat) (h : k ≤ l.length) : (outAt l k).length = 4 * k := by
  induction k with
  | zero => simp [outAt]
  | succ k ih => rw [outAt_step l k h, List.length_append, ih (by omega), beBytes_length]; omega
theorem Blk.putObj {W : World} {g : Nat} {t : TypeId} {cs : Array Value} (h : Blk W g t cs) {D : Nat} {o o' : Obj} (hd : W.heap[D]? = some o) (ho : o.isCells = false) : Blk (W.putObj D o') g t cs := by
  have hne : g ≠ D := fun e => by
    unfold Blk at h
    rw [e, hd] at h
    cases h
    cases ho
  exact (World.putObj_heap_other hne).trans h
theorem bytes_one (l : List UInt8) : ((l.map u8v).toArray).all (·.oneCell') = true := by
  rw [← Array.all_toList]
  simp [u8v]
  intro x _
  rfl
def zerosOf (n : Nat) : Nat := (119 - n % 64) % 64
theorem arr32_wide : Wide Tryd.prog 91 32 := ⟨⟨_, Tryd.underlying91, rfl⟩, by kernel_rfl⟩
def PadInv (l : List UInt8) (w : World) (v : Value) (n k : Nat) (wr : World) : Prop :=
  (n = l.length + 1 + k ∧ k ≤ zerosOf l.length) ∧ wr.ownsRow (w.heap.size + 1) 5 1 v n ((padTo l k).map u8v) ∧ Ext w wr ∧ (∃ o, Blk wr w.heap.size 91 o ∧ o.size = 32)

set_option maxRecDepth 100000 in
set_option maxHeartbeats 4000000 in
theorem sum_any (l : List UInt8) (v : Value) (w : World) (hM : ShaMem w) (hr : Reads w 1 v l.length (l.map u8v)) (hl : l.length ≤ 100000000) :
    Calls Tryd.prog 92 #[v] w fun e w' => e = .returned (.agg ((sha l).map u8v).toArray) ∧ Ext w w' := by
  have HM := hide hM
  have HR := hide hr
  obtain ⟨A, c, rfl⟩ : ∃ A c, v = .slice A l.length c := by obtain ⟨_, A, c, h, _⟩ := hr; exact ⟨A, c, h⟩
  clear hM hr
  refine (callsIn_wide (n := 3)).1 (callsIn_of_wp_marks Tryd.func92 rfl trivial ((wpIn_wide (n := 3)).2 ?_))
  simp only [Tryd.ntmps92, List.size_toArray, List.length_cons, List.length_nil, Nat.reduceAdd, Nat.reduceSub, Array.replicate_succ, Array.replicate_zero, List.push_toArray, List.append_toArray, List.nil_append, List.cons_append]
  go_wp2_with fail
  refine (clone_any _ l _ ?hr (by omega)).mono ?_
  case hr => exact (unhide HR).ext ((Ext.refl w).alloc _)
  rintro e w1 ⟨v1, rfl, ho, hE⟩
  have HO := hide (And.intro ho (And.intro hE (Blk.ext (Blk.new w 91 _) hE)))
  clear ho hE
  go_wp2_with (at_builtin; refine wpList_app rfl rfl u8_row rfl (ownsRow_ext (unhide HO).1 ((Ext.refl w1).alloc _)) rfl (Reads.new1 _ _ _) (AllOne.one rfl) (by omega) (by have := (unhide HO).2.1.size'; simp at this ⊢; omega) ?_; intro A' c' w2 ho hc hv; have HQ := hide (And.intro ho (And.intro hc hv)); clear ho hc hv)
  have HI := hide (show PadInv l w (.slice A' (l.length + 1) c') (l.length + 1) 0 w2 from by
    obtain ⟨h1, h2, h3⟩ := unhide HO
    obtain ⟨h4, h5, _⟩ := unhide HQ
    have e0 : (padTo l 0).map u8v = l.map u8v ++ [u8v 128] := by unfold padTo; simp
    have hz := h2.size'
    simp only [World.size_alloc] at hz h4
    have hv := ownsRow_chg h1 (Chg.refl (fun k => ¬ v1.ownBlock = some k) w1) (fun k hk hn => hn hk)
    have hge : ∀ k, v1.ownBlock = some k → w.heap.size + 1 ≤ k := fun k hk => by have := h1.lt k hk; simp at this; omega
    refine ⟨⟨rfl, Nat.zero_le _⟩, by rw [e0]; exact h4, ?_, ⟨_, h3.chg ((Ext.refl w1).alloc _) (fun h => h) |>.chg h5 (fun e => by have := hge _ e; omega), rfl⟩⟩
    exact ((((Ext.refl w).alloc _).trans h2).alloc _).trans' h5 (fun _ _ h => h) (fun i hi e => by have := hge _ e; omega))
  clear HO HQ
  go_loopw [3] (fun b wr => ∃ (n k : Nat) (A : Option Addr) (c : Nat), b = .slice A n c ∧ n ≤ 200000000 ∧ Hid (PadInv l w (.slice A n c) n k wr)) (fun b _ => match b with | .slice _ n _ => l.length + 1 + zerosOf l.length - n | _ => 0)
  case atStart => exact ⟨_, 0, _, _, rfl, by omega, HI⟩
  case round =>
    clear HI
    obtain ⟨n, k, A1, c1, rfl, hn, HI⟩ := hrel
    by_cases hlt : k < zerosOf l.length
    · have ht : n % 64 ≠ 56 := by have h1 := (unhide HI).1; unfold zerosOf at h1 hlt; omega
      have ht2 : (((n : Int) % 64) == 56) = false := by simp; omega
      go_wp2_with (at_builtin; refine wpList_app rfl rfl u8_row rfl (ownsRow_ext (unhide HI).2.1 ((Ext.refl wr).alloc _)) rfl (Reads.new1 _ _ _) (AllOne.one rfl) (by omega) (by have := (unhide HI).2.2.1.size'; have := (unhide HI).2.2.2.choose_spec.1.lt; simp; omega) ?_; intro A' c' w3 ho hc hv; have HQ := hide (And.intro ho hc); clear ho hc hv)
      go_roundw
      case rel =>
        obtain ⟨⟨e1, e2⟩, h1, h2, o8, h3, h4⟩ := unhide HI
        obtain ⟨h5, h6⟩ := unhide HQ
        have hge : ∀ k, (Value.slice A1 n c1).ownBlock = some k → w.heap.size + 1 ≤ k := fun k hk => (h1.lt k hk).1
        refine ⟨n + 1, k + 1, A', c', rfl, by unfold zerosOf at e2; omega, hide ⟨⟨by omega, hlt⟩, ?_, (h2.alloc _).trans' h6 (fun _ _ h => h) (fun i hi e => by have := hge _ e; omega), o8, (h3.alloc _).chg h6 (fun e => by have := hge _ e; omega), h4⟩⟩
        rw [padTo_step, List.map_append]
        exact h5
      case measure => have := (unhide HI).1; simp; omega
    · obtain ⟨⟨e1, e2⟩, h1, h2, o8, h3, h4⟩ := unhide HI
      have hkz : k = zerosOf l.length := by omega
      subst hkz
      have HP := hide (show padTo l (zerosOf l.length) ++ beBytes (8 * l.length) 8 = shaPad l from rfl)
      have hmod : n % 64 = 56 := by unfold zerosOf at e1; omega
      have ht2 : (((n : Int) % 64) == 56) = true := by simp; omega
      have HN := hide (And.intro e1 hmod)
      clear e1 e2 hlt hmod h1 h2 h3 h4
      go_wp2_with fail
      clear ht2
      refine (store_lit _ n ((padTo l (zerosOf l.length)).map u8v) (8 * l.length) 8 (w.heap.size + 1) _ _ _ ?e1 ?e2 (unhide HI).2.1 ?hb (by omega) (by omega) (by omega)).mono ?_
      case e1 => simp
      case e2 => rfl
      case hb => have := (unhide HI).2.2.2.choose_spec.1.lt; omega
      rintro e w3 ⟨A3, c3, rfl, ho, hO⟩
      obtain ⟨g3, rfl⟩ : ∃ g3, A3 = some ⟨g3, 0, none⟩ := by
        obtain ⟨g, cap, u, hv, _⟩ := own_at (k := 0) ho (by omega)
        cases hv
        exact ⟨g, rfl⟩
      have HQ := hide (And.intro ho hO)
      clear ho hO
      obtain ⟨st0, hst⟩ : ∃ st, (shaH0.map w32).toArray = st := ⟨_, rfl⟩
      have HST := hide hst
      have HST2 := hide (show st0.size = 8 ∧ st0.all (·.oneCell') = true from by rw [← hst]; exact ⟨rfl, words_one _⟩)
      clear hst
      have HE3 := hide (show Ext w w3 from by
        obtain ⟨⟨e1, e2⟩, h1, h2, o8, h3, h4⟩ := unhide HI
        exact h2.trans' (unhide HQ).2.chg (fun _ _ h => h) (fun i hi e => by have := (h1.lt i e).1; omega))
      go_wp2_with (first
        | (refine wpList_loadR (ty := 191) (x := .global 0) rfl rfl state_wide rfl (arr := st0) (cs := shaH0.map w32) ?_ rfl (unhide HST) ?_; (focus exact ((unhide HM).ext (unhide HE3)).h))
        | (refine wpList_storeB (ty := 191) (t := 191) (x := .tmp 4) (y := .tmp 27) rfl rfl state_wide rfl rfl ((Blk.new w3 _ _).alloc _) rfl (unhide HST2).1 (unhide HST2).2 ?_
           intro w4 hb4 hc4 hz4
           have k5 : w4.cell? ⟨w3.heap.size + 1, 0, none⟩ = some .nilFunc := Chg.cellv hc4 (new_cell _ _ _ (by simp) rfl) (by simp)
           have f5 : w4.frozen? ⟨w3.heap.size + 1, 0, none⟩ = false := Chg.frozenv hc4 ((Blk.new' _ _ _ (by simp)).frozen 0) (by simp) (by simp)
           have HV := hide (And.intro hb4 (And.intro hc4 hz4))
           clear hb4 hc4 hz4)
        | (go_at_call 136; refine (chunk_any _ _ _ _).mono ?_; rintro e w' ⟨rfl, rfl⟩))
      obtain ⟨m, hm⟩ : ∃ m, n + 8 = 64 * m := ⟨(n + 8) / 64, by have := (unhide HN).2; omega⟩
      have HL := hide (show (shaPad l).length = 64 * m from by
        rw [← unhide HP, List.length_append, padTo_length, beBytes_length, ← hm]; have := (unhide HN).1; omega)
      have HS := hide (show w3.heap.size < w4.heap.size ∧ w4.heap.size = w3.heap.size + 2 from by have := (unhide HV).2.2; simp at this; omega)
      refine wp_range (gf := 163) (S := fun k => k = w3.heap.size) (all := List.finRange m) (N := m) (encs := fun x : Fin m => #[.slice (some ⟨g3, 0 + 64 * x.val, none⟩) 64 64]) rfl (call_enters Tryd.func163 (by kernel_rfl) rfl) ?hS (chunk_stops g3 0 c3 m _ _ _ _ (by omega) ?hc ?hs ?hn ?h1 ?h2) (fun _ => rfl)
        (fun pre W => Blk W w3.heap.size 191 ((shaFold (shaPad l) (pre.map Fin.val) shaH0).map w32).toArray ∧ W.cell? ⟨w3.heap.size + 1, 0, none⟩ = some (.func (.func 135) #[] #[]))
        (fun pre W W' h k => ⟨k.blk h.1, k.cell h.2⟩) ?h0 ?a1 ?assign ?body ?done
      case assign =>
        intro l x W K hK
        gi_wp2
        exact hK
      case hS => intro k e; have := (unhide HS).1; simp; omega
      case hc =>
        have h1 := (unhide HQ).1
        obtain ⟨g, cap, u, hv, _⟩ := own_at (k := 0) h1 (by omega)
        cases hv
        obtain ⟨_, h2⟩ := h1
        rcases h2 with ⟨e, _⟩ | ⟨g, cap, cur, hv, _, _, hle, _⟩
        · cases e
        · cases hv; omega
      case hs => have := (unhide HS).1; omega
      case hn => have := (unhide HS).1; omega
      case h1 =>
        rw [← hm]
        exact old_cell _ _ (new_cell _ _ _ (by simp) rfl)
      case h2 => exact new_cell _ _ _ (by simp) rfl
      case h0 =>
        refine ⟨?_, ?_⟩
        · have := (unhide HV).1
          rw [← unhide HST] at this
          exact ((this.far' (by omega) _ _).alloc _).alloc _
        · exact old_cell _ _ (old_cell _ _ (World.cell?_setCell_same' _ _ _ (by rw [k5]; rfl)))
      case body =>
        rintro lb pre x W hc ⟨hb, hf⟩ hlen
        have hg3 : w.heap.size + 1 ≤ g3 ∧ g3 < w3.heap.size := (unhide HQ).1.lt g3 rfl
        obtain ⟨hg3a, hg3b⟩ := hg3
        have HR3 : Hid (Reads w3 1 (.slice (some ⟨g3, 0, none⟩) (n + 8) c3) (n + 8) ((shaPad l).map u8v)) := hide (by have := Reads.of_own (unhide HQ).1; rwa [← List.map_append, unhide HP] at this)
        have HEW : Hid (Chg (fun k => k = w3.heap.size) w3 W) := hide (by
          have h1 : Chg (fun k => k = w3.heap.size) w3 w4 := (((Ext.refl w3).alloc _).alloc _).chg.trans (unhide HV).2.1
          exact (((h1.setCell (p := ⟨w3.heap.size + 1, 0, none⟩) (.inr (by simp)) _).alloc _).alloc _).trans hc)
        have HBX := hide (show ((((shaPad l).drop (64 * x.val)).take 64).length = 64) from by have := x.isLt; simp; rw [unhide HL]; omega)
        have HRX : Hid (Reads W 1 (.slice (some ⟨g3, 64 * x.val, none⟩) 64 64) 64 ((((shaPad l).drop (64 * x.val)).take 64).map u8v)) := hide (by
          have h1 := (unhide HR3).chg (unhide HEW) (fun k _ hk e => by cases hk; exact absurd e (Nat.ne_of_lt hg3b))
          obtain ⟨b, o, c, hv, h2, h3, _, h4⟩ := h1.sub (64 * x.val) 64 (by have := x.isLt; omega) (by omega)
          cases hv
          rw [List.map_take, List.map_drop]
          rw [Nat.zero_add] at h4
          exact h4.cap (by omega) (by unfold maxLen; omega))
        have HMW : Hid (ShaMem W) := hide (((unhide HM).ext (unhide HE3)).chg (unhide HEW) (fun e => by have h1 : _ < w.heap.size := lt_of_cell ((unhide HM).k 0 _ rfl); have := (unhide HE3).size'; simp at h1; omega) (fun e => by have h1 : _ < w.heap.size := lt_of_cell ((unhide HM).h 0 _ rfl); have := (unhide HE3).size'; simp at h1; omega))
        have HCC := hide (compress_any (shaFold (shaPad l) (pre.map Fin.val) shaH0) (((shaPad l).drop (64 * x.val)).take 64) _ W (unhide HMW) (shaFold_length _ _ _ rfl) (unhide HBX) (unhide HRX))
        have HB := hide hb
        clear hb
        generalize hst : ((shaFold (shaPad l) (pre.map Fin.val) shaH0).map w32).toArray = stp at *
        have H8 := hide (show stp.size = 8 from by rw [← hst]; simp; exact shaFold_length _ _ _ rfl)
        have HT := hide hst
        clear hst
        have HN8 := hide (show ((shaBlock (shaFold (shaPad l) (pre.map Fin.val) shaH0) (((shaPad l).drop (64 * x.val)).take 64)).map w32).toArray.size = 8 from by simp; exact shaFold_length (shaPad l) [x.val] (shaFold (shaPad l) (pre.map Fin.val) shaH0) (shaFold_length _ _ _ rfl))
        gi_wp2_with (first
          | (refine wpListIn_loadB (ty := 191) (t := 191) (x := .tmp 4) rfl rfl state_wide rfl (unhide HB) (unhide H8) ?_)
          | (refine ⟨trivial, ?_⟩; gi_at_call 135; refine (CallsIn.inRound lb (callsIn_wide.2 (unhide HCC))).mono ?_; rintro e w9 ⟨rfl, hE9⟩; have HX9 := hide hE9; clear hE9)
          | (refine wpListIn_storeB (ty := 191) (t := 191) (x := .tmp 4) (y := .tmp 34) rfl rfl state_wide rfl rfl ((unhide HB).ext (unhide HX9)) (unhide H8) (unhide HN8) (words_one _) ?_; intro w10 hb10 hc10 hz10))
        refine ⟨(unhide HX9).chg.trans hc10, ?_, Chg.cellv hc10 (Ext.cellv (unhide HX9) hf) (by simp)⟩
        rw [List.map_append]
        unfold shaFold
        rw [List.foldl_append]
        exact hb10
      case done =>
        rintro D W hD hc ⟨hb, hf⟩ hd
        have HEW : Hid (Ext w W) := hide (by
          have h1 : Chg (fun k => k = w3.heap.size) w3 w4 := (((Ext.refl w3).alloc _).alloc _).chg.trans (unhide HV).2.1
          have h2 := (((h1.setCell (p := ⟨w3.heap.size + 1, 0, none⟩) (.inr (by simp)) _).alloc _).alloc _).trans hc
          exact (unhide HE3).trans' h2 (fun _ _ h => h) (fun i hi e => by have := (unhide HE3).size'; omega))
        have HO : Hid (∃ o, Blk W w.heap.size 91 o ∧ o.size = 32) := hide (by
          obtain ⟨_, h1, _, o8, h3, h4⟩ := unhide HI
          have hlt := h3.lt
          have k1 := h3.chg (unhide HQ).2.chg (fun e => by have := (h1.lt _ e).1; omega)
          have hlt3 := k1.lt
          have h1 : Chg (fun k => k = w3.heap.size) w3 w4 := (((Ext.refl w3).alloc _).alloc _).chg.trans (unhide HV).2.1
          have h2 := (((h1.setCell (p := ⟨w3.heap.size + 1, 0, none⟩) (.inr (by simp)) _).alloc _).alloc _).trans hc
          exact ⟨o8, k1.chg h2 (by omega), h4⟩)
        rw [fin_map, shaFold_blocks] at hb
        have hm2 : m = (shaPad l).length / 64 := by rw [unhide HL]; omega
        rw [hm2] at hb
        have HSL := hide (show (shaBlocks ((shaPad l).length / 64) shaH0 (shaPad l)).length = 8 from by rw [← shaFold_blocks]; exact shaFold_length _ _ _ rfl)
        have HSH := hide (show (shaBlocks ((shaPad l).length / 64) shaH0 (shaPad l)).flatMap (fun w => beBytes w.toNat 4) = sha l from rfl)
        generalize shaBlocks ((shaPad l).length / 64) shaH0 (shaPad l) = stf at *
        obtain ⟨stq, hstq⟩ : ∃ s, (stf.map w32).toArray = s := ⟨_, rfl⟩
        rw [hstq] at hb
        have HB := hide hb
        have HTQ := hide hstq
        have H8 := hide (show stq.size = 8 from by rw [← hstq]; simpa using unhide HSL)
        have hDw : w.heap.size < D := by have := (unhide HE3).size'; have := (unhide HS).1; simp at hD; omega
        have HD := hide (And.intro hDw hd)
        clear hDw
        clear hb hf hd hD hstq hm2 HQ HV HS HE3 HST HST2 HI HN k5 f5 hc
        go_wp2_with (refine wpList_loadB (ty := 191) (t := 191) (x := .tmp 4) rfl rfl state_wide rfl (unhide HB) (unhide H8) ?_)
        go_loopw [7, 36] (fun b i wr => ∃ (k : Nat) (A : Option Addr) (c : Nat), k ≤ 8 ∧ i = .int .i64 k ∧ b = .slice A (4 * k) c ∧ Hid (wr.ownsRow W.heap.size 5 1 (.slice A (4 * k) c) (4 * k) ((outAt stf k).map u8v) ∧ Ext W wr)) (fun _ i _ => 8 - (intOf i).toNat)
        case atStart => exact ⟨0, none, 0, Nat.zero_le _, rfl, rfl, hide ⟨World.ownsRow_nil _ _ _ _, Ext.refl _⟩⟩
        case round =>
          obtain ⟨k, A7, c7, hk, rfl, rfl, HI⟩ := hrel
          by_cases hlt : k < 8
          · have hidx : ∀ X, (Instr.index 191 (.agg stq) (.int .i64 (k : Int))).run Tryd.prog X = .ok (.int .u32 ((stf.getD k 0).toNat : Int)) X := fun X =>
              run_index_arr (inf := _) Tryd.underlying191 (by kernel_rfl) rfl (by kernel_rfl) hlt (by rw [← unhide HTQ, ← wordsTo_all (unhide HSL)]; exact wordsTo_get (by rw [unhide HSL]; exact hlt)) X
            have HS2 := hide (outAt_step stf k (by rw [unhide HSL]; exact hlt))
            have hx := (stf.getD k 0).toNat_lt
            generalize stf.getD k 0 = xk at *
            go_wp2_with fail
            refine (store_lit _ (4 * k) ((outAt stf k).map u8v) xk.toNat 4 W.heap.size _ _ _ ?e1 ?e2 (unhide HI).1 ?hb (by omega) (by omega) (by omega)).mono ?_
            case e1 => first | rfl | simp
            case e2 => rfl
            case hb => exact (unhide HI).2.size'
            rintro e w5 ⟨A5, c5, rfl, ho, hO⟩
            have HQ := hide (And.intro ho hO)
            clear ho hO
            go_wp2
            go_roundw
            case rel =>
              refine ⟨k + 1, A5, c5, by omega, by go_num, rfl, hide ⟨?_, ?_⟩⟩
              · rw [unhide HS2, List.map_append]
                exact (unhide HQ).1
              · exact Onto.new_ext (unhide HI).2 (unhide HQ).2 (fun q hq => ((unhide HI).1.lt q hq).1)
            case measure => simp [intOf]; omega
          · obtain rfl : k = 8 := by omega
            clear hk hlt
            obtain ⟨g7, rfl⟩ : ∃ g7, A7 = some ⟨g7, 0, none⟩ := by
              obtain ⟨g, cap, u, hv, _⟩ := own_at (k := 0) (unhide HI).1 (by omega)
              cases hv
              exact ⟨g, rfl⟩
            have HG := hide (show outAt stf 8 = sha l from by
              unfold outAt
              rw [List.take_of_length_le (by rw [unhide HSL]; omega)]
              exact unhide HSH)
            have HRG : Hid (wr.rangeAt g7 0 ((sha l).map u8v)) := hide (by
              have h1 := (unhide HI).1
              rw [unhide HG] at h1
              intro j v hj
              have := h1.cells (g := g7) rfl j v hj
              rwa [add_lit] at this)
            have HLS := hide (show (sha l).length = 32 from by rw [← unhide HG]; exact outAt_length stf 8 (by rw [unhide HSL]; omega))
            obtain ⟨o8, ho8, ho8s⟩ := unhide HO
            have HO8 := hide (And.intro (ho8.ext (unhide HI).2) ho8s)
            clear ho8 ho8s
            obtain ⟨res, hres⟩ : ∃ r, ((sha l).map u8v).toArray = r := ⟨_, rfl⟩
            have HRS := hide (show res.size = 32 ∧ res.all (·.oneCell') = true from by rw [← hres]; exact ⟨by simpa using unhide HLS, bytes_one _⟩)
            have HRE := hide hres
            clear hres
            have harr := fun X => run_arrayAt (P := Tryd.prog) Tryd.underlying91 (ad := some ⟨g7, 0, none⟩) (len := 4 * 8) (c := c7) (by omega) X
            go_wp2_with (first
              | (refine wpList_loadR (ty := 91) (x := .tmp 45) rfl rfl arr32_wide rfl (arr := res) (cs := (sha l).map u8v) (unhide HRG) ?_ (unhide HRE) ?_; (focus (simpa using unhide HLS)))
              | (refine wpList_storeB (ty := 91) (t := 91) (x := .tmp 2) (y := .tmp 46) rfl rfl arr32_wide rfl rfl (unhide HO8).1 (unhide HO8).2 (unhide HRS).1 (unhide HRS).2 ?_; intro w9 hb9 hc9 hz9))
            have hd9 := ((unhide HI).2.blk (unhide HD).2)
            have hd9' := Chg.blk hc9 hd9 (fun e => by have := (unhide HD).1; omega)
            refine leave_mark rfl hd9' (results_blk arr32_wide rfl (hb9.putObj hd9' rfl) (unhide HRS).1 rfl) ⟨by rw [unhide HRE], ?_⟩
            refine putObj_ext _ (((unhide HEW).trans (unhide HI).2).trans' hc9 (fun _ _ h => h) (fun i hi e => by omega)) (by have := (unhide HD).1; omega)

end Go.Proofs.YtoefmncdloffaaaDoor
