
/-
  bytes.Repeat of one byte, 64 times.
-/
import Derived.Test.YtoefmncdloffaaaDoorShaC
import Derived.Test.YtoefmncdloffaaaDoorAppF
import Derived.Lib.MakeNoZero
import Derived.Laws.CopyOwn
import Derived.Deep.RegionLaw
import Derived.Deep.Cut
import Derived.Outline
namespace Go.Proofs.YtoefmncdloffaaaDoor
open Go.RowKit

theorem mul_1_64 (w : World) : Calls Tryd.prog 127 #[.int .u64 1, .int .u64 64] w fun e w' => e = .returned (.tuple #[.int .u64 0, .int .u64 64]) ∧ w = w' := by
  go_enter Tryd.func127, Tryd.ntmps127
  go_wp2
  go_ret2
  exact ⟨by kernel_rfl, rfl⟩

theorem splice_rep {α : Type} (cur : List α) (x : α) (p m : Nat) (h : cur.take p = List.replicate p x) (_hl : p + m ≤ cur.length) : (splice cur p (List.replicate m x)).take (p + m) = List.replicate (p + m) x := by
  unfold splice
  rw [h, ← List.append_assoc, List.replicate_append_replicate, List.take_left' (by simp)]
/-- The buffer, p bytes of which are filled. -/
def RepInv (x : UInt8) (w : World) (g n p : Nat) (wr : World) : Prop := ∃ cur : List Value, wr.heap[g]? = some (.cells cur.toArray 5 (0, 0)) ∧ cur.take p = List.replicate p (u8v x) ∧ cur.length = n ∧ Below w.heap.size w wr
theorem u8_info : (Tryd.prog.info? 5).map (·.size) = some 1 := by kernel_rfl

set_option maxRecDepth 100000 in
set_option maxHeartbeats 1000000 in
theorem repeat_any (x : UInt8) (v : Value) (w : World) (hr : Reads w 1 v 1 [u8v x]) :
    Calls Tryd.prog 94 #[v, .int .i64 64] w fun e w' => ∃ g, e = .returned (.slice (some ⟨g, 0, none⟩) 64 64) ∧ Reads w' 1 (.slice (some ⟨g, 0, none⟩) 64 64) 64 (List.replicate 64 (u8v x)) ∧ Ext w w' ∧ w.heap.size ≤ g ∧ (∀ i, w'.frozen? ⟨g, i, none⟩ = false) := by
  have HR := hide hr
  obtain ⟨b, o, c, u, rfl, hc1, hc2, hb, hu, hcu⟩ := hr.at1 (k := 0) (by omega)
  cases hu
  unfold u8v at hcu
  have HU := hide hcu
  clear hr hcu
  obtain ⟨cs, hrunM, hle, hmax⟩ := Lib.run_makeNoZero (P := Tryd.prog) w #[3] 29 5 Tryd.underlying29 64 (by omega)
  have hcall : (callFunc 137 #[.int .i64 64]).run Tryd.prog w = .ok (.value (.slice (some ⟨w.heap.size, 0, none⟩) 64 cs.size)) ((w.alloc (.cells cs 5)).drewN 2) := by
    have := run_callFunc_extern (P := Tryd.prog) (args := #[.int .i64 64]) (w := w) Tryd.func137 (by kernel_rfl) (by kernel_rfl) (by kernel_rfl) (e := Extern.BytealgMakeNoZero.makeNoZero #[3] #[29]) (by kernel_rfl)
    rw [this]
    have h2 : (Extern.BytealgMakeNoZero.makeNoZero #[3] #[29] #[.int .i64 64]).run Tryd.prog w = _ := hrunM
    rw [h2]
    rfl
  clear hrunM
  have hmx := hmax (by unfold maxLen; omega)
  unfold maxLen at hmx
  clear hmax
  have i1 : (64 : Int) ≤ (cs.size : Int) := by omega
  have HC := hide (show RepInv x w w.heap.size cs.size 0 ((w.alloc (.cells cs 5)).drewN 2) from ⟨cs.toList, (Blk.new w 5 cs).drewN 2, rfl, by simp, (((Ext.refl w).alloc _).drewN _).below⟩)
  go_enter Tryd.func94, Tryd.ntmps94
  go_upto_region 17 with (go_at_call 127; refine (mul_1_64 _).mono ?_; rintro e w' ⟨rfl, rfl⟩)
  iterate 7 (first | go_values | go_skip | go_guarded | go_step | go_upon)
  obtain ⟨cur0, C1, C2, C3, C4⟩ := unhide HC
  refine wpList_copy_splice rfl (.tmp 58) (.tmp 59) 29 29 rfl 5 Tryd.underlying29 u8_info (some ⟨w.heap.size, 0, none⟩) (some ⟨b, o, none⟩) 64 64 1 c rfl rfl w.heap.size 0 cur0 5 C1 [u8v x] rfl ?_ ?_ ?_ w.heap.size w C4 (Nat.le_refl _) ?_
  · intro _
    refine ⟨rfl, _, rfl, fun j v hj => ?_⟩
    match j, hj with
    | 0, hj =>
      cases hj
      exact (C4.cell (p := ⟨b, o, none⟩) hb).trans (unhide HU)
  · simp; omega
  · intro v hv; simp at hv; subst hv; rfl
  · intro w2 G1 G2
    have HI := hide (show RepInv x w w.heap.size cs.size 1 w2 from ⟨_, unhide G1, by have := splice_rep cur0 (u8v x) 0 1 C2 (by omega); simpa using this, by rw [length_splice _ _ _ (by simp; omega)]; exact C3, G2⟩)
    clear C1 C2 C3 C4 G1 G2
    go_wp2
    go_loopw [10] (fun p wr => ∃ k : Nat, 0 < k ∧ k ≤ 64 ∧ p = .int .i64 k ∧ Hid (RepInv x w w.heap.size cs.size k wr)) (fun p _ => 64 - (intOf p).toNat)
    case atStart => exact ⟨1, by omega, by omega, rfl, HI⟩
    case round =>
      clear HI
      obtain ⟨k, hk0, hk, rfl, HI⟩ := hrel
      by_cases hlt : k < 64
      · obtain ⟨cur, C1, C2, C3, C4⟩ := unhide HI
        have hC3 : 64 ≤ cur.length := by omega
        have HK := hide (And.intro C2 C3)
        clear C2 C3
        have d64 : decide ((k : Int) < 64) = true := decide_eq_true (by omega)
        have b64 : (k : Int) < 64 := by omega
        have bn : ¬ k = 64 := by omega
        have b1 : (k : Int) ≤ 64 := by omega
        have b0 : (0 : Int) ≤ (k : Int) := by omega
        obtain ⟨m, hm⟩ : ∃ m, Nat.min k (64 - k) = m := ⟨_, rfl⟩
        have hm1 : k + m ≤ 64 ∧ m ≤ k ∧ 0 < m := by have : Nat.min k (64 - k) = min k (64 - k) := rfl; omega
        have p2 : 0 < (List.replicate m (u8v x)).length → some (⟨w.heap.size, k, none⟩ : Addr) = some ⟨w.heap.size, k, none⟩ ∧ ∃ ad, some (⟨w.heap.size, 0, none⟩ : Addr) = some ad ∧ ∀ (j : Nat) (v : Value), (List.replicate m (u8v x))[j]? = some v → wr.drew.cell? (ad.add j) = some v := by
          intro _
          refine ⟨rfl, _, rfl, fun j v hj => ?_⟩
          have hjm : j < m := by
            rcases Nat.lt_or_ge j m with h | h
            · exact h
            · rw [List.getElem?_eq_none (by simpa using h)] at hj; cases hj
          rw [List.getElem?_replicate, if_pos hjm] at hj
          cases hj
          rw [add_lit, Nat.zero_add]
          have := Blk.cell (show Blk wr w.heap.size 5 cur.toArray from C1) j
          refine Eq.trans this ?_
          have e := (unhide HK).1
          have e2 : (cur.take k)[j]? = some (u8v x) := by rw [e, List.getElem?_replicate, if_pos (by omega)]
          rw [List.getElem?_take, if_pos (by omega)] at e2
          simpa using e2
        have p1 : (List.replicate m (u8v x)).length = Nat.min k (64 - k) := by rw [hm]; simp
        have p4 : ∀ v ∈ List.replicate m (u8v x), v.oneCell' = true := by intro v hv; rw [(List.mem_replicate.1 hv).2]; rfl
        obtain ⟨w3, hrun, HN⟩ : ∃ w3, (Builtin.copy_ #[29, 29] 3 #[.slice (some ⟨w.heap.size, k, none⟩) (64 - k) (64 - k), .slice (some ⟨w.heap.size, 0, none⟩) k 64]).run Tryd.prog wr.drew = .ok (.int .i64 (m : Int)) w3 ∧ Hid (RepInv x w w.heap.size cs.size (k + m) w3) := by
          obtain ⟨_, ad, e, hsrc⟩ := p2 (by simp; omega)
          cases e
          have h := run_copy_row (P := Tryd.prog) wr.drew 29 29 3 5 w.heap.size k (64 - k) (64 - k) ⟨w.heap.size, 0, none⟩ k 64 cur.toArray 5 (List.replicate m (u8v x)) Tryd.underlying29 u8_info C1 p1 hsrc (by simp; omega) p4
          simp only [List.length_replicate] at h
          refine ⟨_, h, hide ⟨splice cur k (List.replicate m (u8v x)), ?_, splice_rep cur (u8v x) k m (unhide HK).1 (by omega), ?_, ?_⟩⟩
          · have := setRow_heap wr.drew w.heap.size _ (splice cur k (List.replicate m (u8v x))).toArray 5 _ C1
            simpa [splice, List.append_assoc] using this
          · rw [length_splice _ _ _ (by simp; omega)]; exact (unhide HK).2
          · exact below_setRow (C4.trans (Ext.below ((Ext.refl wr).drew) |>.mono (by have := C4.size; omega))) (Nat.le_refl _) _
        have HM := hide (And.intro hm hm1)
        obtain ⟨hm2, hm3, hm4⟩ := hm1
        clear hm p1 p2 p4 C1 C4 hC3
        go_upto_region 20 with fail
        go_region
        all_goals
          go_wp2
          go_roundw
          case rel => exact ⟨k + m, by omega, by omega, by go_num, HN⟩
          case measure => simp [intOf]; omega
      · obtain rfl : k = 64 := by omega
        go_wp2
        go_ret
        obtain ⟨cur, C1, C2, C3, C4⟩ := unhide HI
        refine ⟨_, rfl, ?_, Ext.of_below C4, Nat.le_refl _, (show Blk wr w.heap.size 5 cur.toArray from C1).frozen⟩
        have := Reads.of_blk (show Blk wr w.heap.size 5 cur.toArray from C1) (i := 0) (n := 64) (c := 64) (by simp; omega) (by omega) (by unfold maxLen; omega)
        simpa [C2] using this

end Go.Proofs.YtoefmncdloffaaaDoor
