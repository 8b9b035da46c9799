/-
  The law WotsAntichain.
-/
import Derived.Test.YtjemfefkgfoikaaDoorSan4
namespace Go.Proofs.YtjemfefkgfoikaaDoor
open Go.RowKit

/-- Among the first k digits some is less. -/
def lessTo (a b : List UInt8) : Nat → Bool
  | 0 => false
  | k + 1 => lessTo a b k || decide (digC a k < digC b k)
theorem lessTo_false {a b : List UInt8} : ∀ {n : Nat}, lessTo a b n = false → ∀ k, k < n → digC b k ≤ digC a k
  | 0, _ => fun k hk => by omega
  | n + 1, h => fun k hk => by
    rw [lessTo, Bool.or_eq_false_iff] at h
    rcases Nat.lt_or_ge k n with h1 | h1
    · exact lessTo_false h.1 k h1
    · obtain rfl : k = n := by omega
      have := of_decide_eq_false h.2
      omega
theorem lessTo_self (a : List UInt8) : ∀ n, lessTo a a n = false
  | 0 => rfl
  | n + 1 => by rw [lessTo, lessTo_self a n]; simp
theorem less_end (a b : List UInt8) (ha : a.length = 16) (hb : b.length = 16) : lessTo a b 68 = !decide (a = b) := by
  by_cases h : a = b
  · subst h
    rw [lessTo_self]
    simp
  · rw [decide_eq_false h]
    cases hl : lessTo a b 68 with
    | true => rfl
    | false => exact absurd (antichain a b ha hb (lessTo_false hl)) h

set_option maxRecDepth 100000 in
set_option maxHeartbeats 4000000 in
theorem anti_any (a b : List UInt8) (w : World) (hM : ShaMem w) (ha : a.length = 16) (hb : b.length = 16) :
    Calls Tryd.prog 6 #[.agg (a.map u8v).toArray, .agg (b.map u8v).toArray] w fun e w' => e = .returned (.bool true) ∧ Ext w w' := by
  have HM := hide hM
  have HDa := hide (fun W => digits_any a W ha)
  have HDb := hide (fun W => digits_any b W hb)
  have hne := fun W => ne16 ha hb W
  have L1 := less_end a b ha hb
  have L2 : lessTo b a 68 = !decide (a = b) := by rw [less_end b a hb ha]; congr 2; exact propext ⟨Eq.symm, Eq.symm⟩
  generalize hq : (!decide (a = b)) = q at *
  have HL := hide (And.intro L1 L2)
  obtain ⟨aa, haa⟩ : ∃ r, (a.map u8v).toArray = r := ⟨_, rfl⟩
  obtain ⟨bb, hbb⟩ : ∃ r, (b.map u8v).toArray = r := ⟨_, rfl⟩
  have HSZ := hide (show aa.size = 16 ∧ bb.size = 16 from by rw [← haa, ← hbb]; simp; omega)
  rw [haa] at HDa
  rw [hbb] at HDb
  rw [haa, hbb] at hne ⊢
  clear hM L1 L2 hq haa hbb ha hb
  have HZ := hide (show (Ext w ((w.alloc (.cells aa 23)).alloc (.cells bb 23)) ∧ Blk ((w.alloc (.cells aa 23)).alloc (.cells bb 23)) w.heap.size 23 aa ∧ Blk ((w.alloc (.cells aa 23)).alloc (.cells bb 23)) (w.heap.size + 1) 23 bb) from ⟨((Ext.refl w).alloc _).alloc _, (Blk.new w _ _).alloc _, Blk.new' _ _ _ (by simp)⟩)
  go_enter Tryd.func6, Tryd.ntmps6
  go_upto_region 1 with fail
  generalize hW0 : ((w.alloc (.cells aa 23)).alloc (.cells bb 23)) = W0 at *
  refine wp_region_held_drew (S := fun W => Ext W0 W) (by kernel_rfl) ((Ext.refl _).drew) (fun hHeld => ?_)
  refine wpAnyH_take (i := 0) (oi := _) (v := _) rfl (by kernel_rfl) (by kernel_rfl) (by kernel_rfl) (fun _ _ _ h => h) (ylb digest_wide rfl (by rfl) rfl (unhide HSZ).1 (fun w' hw => (unhide HZ).2.1.ext hw)) (by assumption) ?_
  try simp only [Act.put, List.setIfInBounds_toArray, List.set_cons_zero, List.set_cons_succ, List.getElem_toArray, List.getElem_cons_succ, List.getElem_cons_zero]
  refine wpAnyH_take (i := 2) (oi := _) (v := _) rfl (by kernel_rfl) (by kernel_rfl) (by kernel_rfl) (fun _ _ _ h => h) (ylb digest_wide rfl (by rfl) rfl (unhide HSZ).2 (fun w' hw => (unhide HZ).2.2.ext hw)) (by assumption) ?_
  try simp only [Act.put, List.setIfInBounds_toArray, List.set_cons_zero, List.set_cons_succ, List.getElem_toArray, List.getElem_cons_succ, List.getElem_cons_zero]
  refine wpAnyH_ready (rs := [1]) (by kernel_rfl) (by simp) (AllReadyH.cons (o := _) rfl (fun K hK => ?_) AllReadyH.nil)
  try go_simp
  (refine (unhide HDa _).mono ?_; rintro e w2 ⟨ga, rfl, hba, hga, hE2⟩; have hS := Ext.trans hHeld hE2; have H2 := hide hba; clear hba hga hE2 hHeld)
  refine hK.out _ _ ?_ (fun hHeld => ?_)
  · exact hS
  clear hK K
  try simp only [Act.put, List.setIfInBounds_toArray, List.set_cons_zero, List.set_cons_succ, List.getElem_toArray, List.getElem_cons_succ, List.getElem_cons_zero]
  refine wpAnyH_ready (rs := [3]) (by kernel_rfl) (by simp) (AllReadyH.cons (o := _) rfl (fun K hK => ?_) AllReadyH.nil)
  try go_simp
  (refine (unhide HDb _).mono ?_; rintro e w3 ⟨gb, rfl, hbb, hgb, hE3⟩; have hS := Ext.trans hHeld hE3; have H3 := hide (And.intro ((unhide H2).ext hE3) hbb); clear hbb hgb hE3 hHeld H2)
  refine hK.out _ _ ?_ (fun hHeld => ?_)
  · exact hS
  clear hK K
  try simp only [Act.put, List.setIfInBounds_toArray, List.set_cons_zero, List.set_cons_succ, List.getElem_toArray, List.getElem_cons_succ, List.getElem_cons_zero]
  refine wpAnyH_take (i := 4) (oi := _) (v := ?_) rfl (by kernel_rfl) (by kernel_rfl) (by kernel_rfl) (fun _ _ _ h => h) (Or.inl ⟨by rfl, fun wz hSz => ?_⟩) (by assumption) ?_
  rotate_left
  · (first | (go_simp; done) | (go_simp; with_reducible rfl))
  try simp only [Act.put, List.setIfInBounds_toArray, List.set_cons_zero, List.set_cons_succ, List.getElem_toArray, List.getElem_cons_succ, List.getElem_cons_zero]
  refine wpAnyH_take (i := 5) (oi := _) (v := ?_) rfl (by kernel_rfl) (by kernel_rfl) (by kernel_rfl) (fun _ _ _ h => h) (Or.inl ⟨by rfl, fun wz hSz => ?_⟩) (by assumption) ?_
  rotate_left
  · (first | (go_simp; done) | (go_simp; with_reducible rfl))
  try simp only [Act.put, List.setIfInBounds_toArray, List.set_cons_zero, List.set_cons_succ, List.getElem_toArray, List.getElem_cons_succ, List.getElem_cons_zero]
  refine wpAnyH_done (by kernel_rfl) ?_ _
  have H4 := hide (And.intro (unhide H3).1 (And.intro (unhide H3).2 (And.intro ((unhide HZ).2.1.ext hHeld) (And.intro ((unhide HZ).2.2.ext hHeld) ((unhide HZ).1.trans hHeld)))))
  clear hHeld H3 hW0 HZ
  go_wp2_with fail
  go_loopw [7, 8, 21] (fun x y i wr => ∃ k : Nat, k ≤ 68 ∧ i = .int .i64 k ∧ x = .bool (lessTo a b k) ∧ y = .bool (lessTo b a k) ∧ Hid (Ext w3 wr)) (fun _ _ i _ => 68 - (intOf i).toNat)
  case atStart => exact ⟨0, by omega, rfl, rfl, rfl, hide (Ext.refl _)⟩
  case round =>
    obtain ⟨k, hk, rfl, rfl, rfl, HI⟩ := hrel
    by_cases hlt : k < 68
    · have hca : wr.cell? ⟨ga, k, none⟩ = some (.int .i64 ((digC a k : Nat) : Int)) := by rw [((unhide H4).1.ext (unhide HI)).cell]; exact icells_getA _ hlt
      have hcb : wr.cell? ⟨gb, k, none⟩ = some (.int .i64 ((digC b k : Nat) : Int)) := by rw [((unhide H4).2.1.ext (unhide HI)).cell]; exact icells_getA _ hlt
      have HS1 := hide (show lessTo a b (k + 1) = (lessTo a b k || decide (digC a k < digC b k)) from rfl)
      have HS2 := hide (show lessTo b a (k + 1) = (lessTo b a k || decide (digC b k < digC a k)) from rfl)
      generalize digC a k = da at *
      generalize digC b k = db at *
      have hkI : (k : Int) < 68 := by omega
      cases hx : lessTo a b k <;> cases hy : lessTo b a k <;> rw [hx] at HS1 <;> rw [hy] at HS2
      all_goals
        go_wp2_with fail
        go_region
        all_goals
          go_wp2_with fail
          go_region
          all_goals
            go_wp2
            go_roundw
            case rel => exact ⟨k + 1, by omega, by go_num, by rw [unhide HS1]; rfl, by rw [unhide HS2]; rfl, hide ((unhide HI).trans (by first | exact Ext.refl _ | exact (Ext.refl _).drew | exact (Ext.refl _).drew.drew))⟩
            case measure => simp [intOf]; omega
    · obtain rfl : k = 68 := by omega
      rw [(unhide HL).1, (unhide HL).2]
      have HSan := hide (sanity4_any wr ((unhide HM).ext ((unhide H4).2.2.2.2.trans (unhide HI))))
      have HA := hide (And.intro ((unhide H4).2.2.1.ext (unhide HI)) (And.intro ((unhide H4).2.2.2.1.ext (unhide HI)) ((unhide H4).2.2.2.2.trans (unhide HI))))
      go_wp2_with fail
      refine (unhide HSan).mono ?_
      rintro e w5 ⟨rfl, hE5⟩
      have H5 := hide hE5
      clear hE5
      go_wp2_with (first
        | (refine wpList_loadMG (by rfl) (ty := 23) (x := .tmp 2) rfl digest_wide rfl ((unhide HA).1.ext (unhide H5)).range (by rw [Array.length_toList]; exact (unhide HSZ).1) ?_)
        | (refine wpList_loadMG (by rfl) (ty := 23) (x := .tmp 3) rfl digest_wide rfl ((unhide HA).2.1.ext (unhide H5)).range (by rw [Array.length_toList]; exact (unhide HSZ).2) ?_))
      go_ret
      exact ⟨rfl, (unhide HA).2.2.trans (unhide H5)⟩

end Go.Proofs.YtjemfefkgfoikaaDoor
