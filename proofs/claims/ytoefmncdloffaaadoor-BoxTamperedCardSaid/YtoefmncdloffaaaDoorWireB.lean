
/-
  wire.Bytes and the reference's Bytes.
-/
import Derived.Test.YtoefmncdloffaaaDoorWire
import Derived.Test.YtoefmncdloffaaaDoorStr
namespace Go.Proofs.YtoefmncdloffaaaDoor
open Go.RowKit

theorem u8_zero : (Tryd.prog.info? 5).map (·.zero) = some (some (.int .u8 0)) := by kernel_rfl
theorem wBytes_len (s : ByteArray) : (wBytes s.data.toList).length = (wInt s.size).length + s.size := by
  unfold wBytes
  rw [List.length_append, Array.length_toList]
  rfl
theorem wBytes_map (s : ByteArray) : (wBytes s.data.toList).map u8v = (wInt s.size).map u8v ++ s.data.toList.map byteV := by
  unfold wBytes
  rw [List.map_append, Array.length_toList]
  rfl

set_option maxHeartbeats 400000 in
theorem wbytes_any (s : ByteArray) (w : World) (hs : s.size ≤ 1000000000) :
    Calls Tryd.prog 18 #[.string s] w fun e w' => ∃ A c, e = .returned (.slice A (wBytes s.data.toList).length c) ∧ w'.ownsRow w.heap.size 5 1 (.slice A (wBytes s.data.toList).length c) (wBytes s.data.toList).length ((wBytes s.data.toList).map u8v) ∧ Ext w w' := by
  have HW := hide (fun w => wint_any (s.size : Int) w (by omega) (by omega))
  have HL := hide (wBytes_len s)
  have HM := hide (wBytes_map s)
  have hl := wInt_length (s.size : Int)
  go_enter Tryd.func18, Tryd.ntmps18
  go_wp2_with fail
  refine (unhide HW _).mono ?_
  rintro e w1 ⟨A, c, rfl, ho, hE⟩
  have HO := hide (And.intro ho hE)
  clear ho hE
  go_wp2_with (at_builtin; refine wpList_appS rfl rfl u8_row u8_zero Tryd.underlying9 rfl (unhide HO).1 rfl (by omega) (unhide HO).2.size' ?_; intro A' c' w2 ho hc; have HQ := hide (And.intro ho hc); clear ho hc)
  go_ret
  obtain ⟨h1, h2⟩ := unhide HQ
  rw [← unhide HL, ← unhide HM] at h1
  exact ⟨A', c', by rw [unhide HL]; rfl, h1, (unhide HO).2.trans' h2 (fun _ _ h => h) (fun i hi e => by have := ((unhide HO).1.lt i e).1; omega)⟩

set_option maxHeartbeats 400000 in
theorem rbytes_any (s : ByteArray) (w : World) (hs : s.size ≤ 1000000000) :
    Calls Tryd.prog 75 #[.string s] w fun e w' => ∃ A c, e = .returned (.slice A (wBytes s.data.toList).length c) ∧ w'.ownsRow w.heap.size 5 1 (.slice A (wBytes s.data.toList).length c) (wBytes s.data.toList).length ((wBytes s.data.toList).map u8v) ∧ Ext w w' := by
  have HW := hide (fun w => rint_any (s.size : Int) w (by omega) (by omega))
  have HL := hide (wBytes_len s)
  have HM := hide (wBytes_map s)
  have hl := wInt_length (s.size : Int)
  go_enter Tryd.func75, Tryd.ntmps75
  go_wp2_with fail
  refine (unhide HW _).mono ?_
  rintro e w1 ⟨A, c, rfl, ho, hE⟩
  have HO := hide (And.intro ho hE)
  clear ho hE
  go_wp2_with (first
    | (refine wpList_bytesOf (src := 9) (dst := 29) (x := .tmp 6) (s := s) rfl rfl Tryd.underlying9 Tryd.underlying29 Tryd.underlying5 rfl (by unfold maxLen; omega) ?_; intro c2 w2 hr2 hE2 hf2; have HR := hide (And.intro hr2 hE2); clear hr2 hE2 hf2)
    | (at_builtin; refine wpList_app rfl rfl u8_row rfl (ownsRow_ext (unhide HO).1 (unhide HR).2) rfl (unhide HR).1 (AllOne.map (fun _ => rfl) _) (by omega) (Nat.le_trans (unhide HO).2.size' (unhide HR).2.size') ?_; intro A' c' w3 ho hc hv; have HQ := hide (And.intro ho hc); clear ho hc hv))
  go_ret
  obtain ⟨h1, h2⟩ := unhide HQ
  rw [← unhide HL, ← unhide HM] at h1
  exact ⟨A', c', by rw [unhide HL]; rfl, h1, ((unhide HO).2.trans (unhide HR).2).trans' h2 (fun _ _ h => h) (fun i hi e => by have := ((unhide HO).1.lt i e).1; omega)⟩

end Go.Proofs.YtoefmncdloffaaaDoor
