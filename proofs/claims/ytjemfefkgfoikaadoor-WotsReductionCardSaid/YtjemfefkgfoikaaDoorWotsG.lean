/-
  wots.Digits.
-/
import Derived.Test.YtjemfefkgfoikaaDoorWotsD
import Derived.Test.YtjemfefkgfoikaaDoorHeld
namespace Go.Proofs.YtjemfefkgfoikaaDoor
open Go.RowKit

theorem arr68_wide : Wide Tryd.prog 68 68 := ⟨⟨_, Tryd.underlying68, rfl⟩, by kernel_rfl⟩
set_option maxRecDepth 100000 in
set_option maxHeartbeats 2000000 in
theorem digits_any (m : List UInt8) (w : World) (hm : m.length = 16) :
    Calls Tryd.prog 16 #[.agg (m.map u8v).toArray] w fun e w' => ∃ g, e = .returned (.slice (some ⟨g, 0, none⟩) 68 68) ∧ Blk w' g 68 (icells (digC m) 68).toArray ∧ w.heap.size ≤ g ∧ Ext w w' := by
  obtain ⟨arr, harr⟩ : ∃ r, (m.map u8v).toArray = r := ⟨_, rfl⟩
  have HA := hide (And.intro harr hm)
  rw [harr]
  clear harr
  go_enter Tryd.func16, Tryd.ntmps16
  go_wp2_with fail
  go_loopw [4, 7] (fun s i wr => ∃ k : Nat, k ≤ 64 ∧ i = .int .i64 k ∧ s = .int .i64 ((sumTo m k : Nat) : Int) ∧ Hid (Blk wr w.heap.size 23 arr ∧ Blk wr (w.heap.size + 1) 68 (icells (fillD m k) 68).toArray ∧ Ext w wr)) (fun _ i _ => 64 - (intOf i).toNat)
  case atStart => exact ⟨0, by omega, rfl, rfl, hide ⟨(Blk.new w _ _).alloc _, by rw [show icells (fillD m 0) 68 = icells (fun _ => 0) 68 from icells_congr fun j _ => if_neg (by omega), icells_zero]; exact Blk.new' _ _ _ (by simp), ((Ext.refl w).alloc _).alloc _⟩⟩
  case round =>
    obtain ⟨k, hk, rfl, rfl, HI⟩ := hrel
    by_cases hlt : k < 64
    · have cm : wr.cell? ⟨w.heap.size, k / 4, none⟩ = some (.int .u8 ((m.getD (k / 4) 0).toNat : Int)) := by
        rw [(unhide HI).1.cell, ← (unhide HA).1, List.getElem?_toArray, List.getElem?_map, List.getD_eq_getElem?_getD, List.getElem?_eq_getElem (by omega)]
        rfl
      have co : wr.cell? ⟨w.heap.size + 1, k, none⟩ = some (.int .i64 0) := by
        rw [(unhide HI).2.1.cell, List.getElem?_toArray, icells_get _ (by omega), fillD, if_neg (by omega)]
        rfl
      have fo : wr.frozen? ⟨w.heap.size + 1, k, none⟩ = false := (unhide HI).2.1.frozen k
      have HS := hide (dig_shift m k)
      generalize m.getD (k / 4) 0 = x at *
      have hx := x.toNat_lt
      have hX : bits BinOp.and IntKind.i64 ((x.toNat : Int) / 2 ^ (6 - 2 * (k % 4))) 3 = ((dig m k : Nat) : Int) := by
        rw [and3, unhide HS]
        simp
      have HX := hide hX
      have hd := dig_le m k
      have hsl := sumTo_le m k
      clear hX
      go_wp2
      go_roundw
      case rel =>
        rw [unhide HX]
        refine ⟨k + 1, by omega, by go_num, int_eq ?_, hide ⟨(unhide HI).1.far' (by omega) _ _, ?_, (unhide HI).2.2.setCell (p := ⟨w.heap.size + 1, k, none⟩) (by simp) _⟩⟩
        · rw [sumTo]
          unfold wrap64
          omega
        · have := (unhide HI).2.1.set_ k (.int .i64 ((dig m k : Nat) : Int))
          rw [icells_set (fillD m k) (fillD m (k + 1)) (dig m k) (by omega) (fun j _ => fillD_step m k j)] at this
          exact this
      case measure => simp [intOf]; omega
    · obtain rfl : k = 64 := by omega
      have hc := chk_le m
      have HE := hide (fill_end m)
      rw [fill_meet] at HI
      rw [show sumTo m 64 = chk m from rfl]
      generalize hch : chk m = ch at *
      go_wp2_with fail
      go_loopw [30] (fun i wr => ∃ k : Nat, k ≤ 4 ∧ i = .int .i64 k ∧ Hid (Blk wr (w.heap.size + 1) 68 (icells (fillC m k) 68).toArray ∧ Ext w wr)) (fun i _ => 4 - (intOf i).toNat)
      case atStart => exact ⟨0, by omega, rfl, hide ⟨(unhide HI).2.1, (unhide HI).2.2⟩⟩
      case round =>
        clear HI
        obtain ⟨k, hk, rfl, HI⟩ := hrel
        by_cases hlt : k < 4
        · have co : wr.cell? ⟨w.heap.size + 1, 67 - k, none⟩ = some (.int .i64 0) := by
            rw [(unhide HI).1.cell, List.getElem?_toArray, icells_get _ (by omega), fillC, if_neg (by omega), if_neg (by omega)]
            rfl
          have fo : wr.frozen? ⟨w.heap.size + 1, 67 - k, none⟩ = false := (unhide HI).1.frozen (67 - k)
          have hX : bits BinOp.and IntKind.i64 ((ch : Int) / 2 ^ (2 * k)) 3 = ((ch / 4 ^ k % 4 : Nat) : Int) := by
            rw [and3, Int.pow_mul]
            simp
          have HX := hide hX
          clear hX
          go_wp2
          go_roundw
          case rel =>
            rw [unhide HX]
            refine ⟨k + 1, by omega, by go_num, hide ⟨?_, (unhide HI).2.setCell (p := ⟨w.heap.size + 1, 67 - k, none⟩) (by simp) _⟩⟩
            have := (unhide HI).1.set_ (67 - k) (.int .i64 ((ch / 4 ^ k % 4 : Nat) : Int))
            rw [icells_set (fillC m k) (fillC m (k + 1)) (ch / 4 ^ k % 4) (by omega) (fun j hj => by rw [← hch]; exact fillC_step m k j hlt hj)] at this
            exact this
          case measure => simp [intOf]; omega
        · obtain rfl : k = 4 := by omega
          go_wp2
          go_ret
          exact ⟨_, rfl, by rw [← unhide HE]; exact (unhide HI).1, by omega, (unhide HI).2⟩

end Go.Proofs.YtjemfefkgfoikaaDoor
