/-
  The reference's Short; the law ShaDigestSeparatesTags.
-/
import Derived.Test.YtnnecanjkogloaaDoorLaw02
namespace Go.Proofs.YtnnecanjkogloaaDoor
open Go.RowKit

def shortB (ps : List (List UInt8)) : Bool := decide (ps.length ≤ 20 ∧ ∀ p ∈ ps, p.length ≤ 300)

set_option maxHeartbeats 1000000 in
theorem short_parts (ps : List (List UInt8)) (v : Value) (w : World) (hp : Parts w v ps) : Calls Tryd.prog 24 #[v] w fun e w' => e = .returned (.bool (shortB ps)) ∧ w = w' := by
  have HP := hide hp
  obtain ⟨A1, c1, rfl, hm⟩ : ∃ A c, v = .slice A ps.length c ∧ ps.length ≤ maxLen := by obtain ⟨vs, _, hr, _⟩ := hp; have := hr.len_le; obtain ⟨_, A, c, h, _⟩ := hr; exact ⟨A, c, h, this⟩
  unfold maxLen at hm
  clear hp
  by_cases h20 : ps.length ≤ 20
  · have d20 : decide ((20 : Int) < (ps.length : Int)) = false := decide_eq_false (by omega)
    go_enter Tryd.func24, Tryd.ntmps24
    go_wp2
    clear d20
    go_loop [3] (fun i => ∃ k : Nat, k ≤ ps.length ∧ i = .int .i64 k ∧ Hid (∀ p ∈ ps.take k, p.length ≤ 300)) (fun i => ps.length - (intOf i).toNat)
    case atStart => exact ⟨0, Nat.zero_le _, rfl, hide (by simp)⟩
    case round =>
      obtain ⟨k, hk, rfl, HI⟩ := hrel
      by_cases hlt : k < ps.length
      · obtain ⟨vs, q1, q2, q3⟩ := unhide HP
        obtain ⟨u, q4, q5⟩ := q3 k ps[k] (List.getElem?_eq_getElem hlt)
        obtain ⟨b, o, c', u', hv, _, _, hb, hu, hcc⟩ := q2.at1 hlt
        cases hv
        rw [q4] at hu
        cases hu
        obtain ⟨Au, cu, rfl⟩ : ∃ A c, u = .slice A ps[k].length c := by obtain ⟨_, A, c, h, _⟩ := q5; exact ⟨A, c, h⟩
        clear q1 q2 q3 q4 q5
        have HT := hide (take_step ps k hlt)
        have HM := hide (List.getElem_mem hlt)
        generalize ps[k] = p at *
        by_cases h300 : p.length ≤ 300
        · have d3 : decide ((300 : Int) < (p.length : Int)) = false := decide_eq_false (by omega)
          go_wp2
          go_round
          case rel => exact ⟨k + 1, by omega, by go_num, hide (by rw [unhide HT]; intro q hq; rcases List.mem_append.1 hq with hq | hq; exact unhide HI q hq; rw [List.mem_singleton.1 hq]; exact h300)⟩
          case measure => simp [intOf]; omega
        · have d3 : decide ((300 : Int) < (p.length : Int)) = true := decide_eq_true (by omega)
          go_wp2
          go_ret
          exact ⟨ret_bool (by unfold shortB; exact (decide_eq_false (fun h => h300 (h.2 p (unhide HM)))).symm), rfl⟩
      · obtain rfl : k = ps.length := by omega
        go_wp2
        go_ret
        exact ⟨ret_bool (by unfold shortB; exact (decide_eq_true ⟨h20, by have := unhide HI; rwa [List.take_length] at this⟩).symm), rfl⟩
  · have d20 : decide ((20 : Int) < (ps.length : Int)) = true := decide_eq_true (by omega)
    go_enter Tryd.func24, Tryd.ntmps24
    go_wp2
    go_ret
    exact ⟨ret_bool (by unfold shortB; exact (decide_eq_false (fun h => h20 h.1)).symm), rfl⟩

end Go.Proofs.YtnnecanjkogloaaDoor
