
/-
  append on a slice without spare places: what came in stays as it is.
-/
import Derived.Test.YtoefmncdloffaaaDoorArr
import Derived.ArgAppend
namespace Go.Proofs.YtoefmncdloffaaaDoor
open Go.RowKit

section
variable {P : Program} {w : World}
theorem run_appF {t ty e : TypeId} {bytes : Nat} (T : SlTy P t e 1 bytes) {b : Addr} {n : Nat} {xs : List Value} (hs : Reads w 1 (.slice (some b) n n) n xs) (hn : 0 < n)
    {u : Value} {m : Nat} {news : List Value} (hr : Reads w 1 u m news) (h1 : AllOne news) (hbytes : (n + m) * bytes ≤ 140737488355328) :
    ∃ A' c' w', (Builtin.append_ #[t, t] ty #[.slice (some b) n n, u]).run P w = .ok (.slice A' (n + m) c') w' ∧ Reads w' 1 (.slice A' (n + m) c') (n + m) (xs ++ news) ∧ Ext w w' := by
  obtain ⟨ht, ⟨i, z, hi, hz, hsize, hby, hzs⟩, _, hbp⟩ := T
  obtain ⟨hl, A, c, rfl, hmc, hcm, hcell⟩ := hr
  have h63 : n + m ≤ maxLen := by
    have : (n + m) * 1 ≤ (n + m) * bytes := Nat.mul_le_mul_left _ hbp
    unfold maxLen; omega
  rcases Nat.eq_zero_or_pos m with h0 | h0
  · subst h0
    have hnl : news = [] := List.eq_nil_of_length_eq_zero (by simpa using hl)
    subst hnl
    refine ⟨_, n, w, ?_, by simpa using hs, Ext.refl _⟩
    rcases A with _ | ad
    · simp [Builtin.append_, run_underlying ht, sizeOf, typeInfo, hi, Builtin.lenOf, Builtin.firstCells, storeCells]
    · obtain ⟨_, A2, c2, e2, _, _, hc2⟩ := hs
      cases e2
      obtain ⟨b0, o0, e0, _⟩ := hc2 hn
      cases e0
      have := run_append_room_cells (P := P) w t ty e i ht hi b0 o0 n n ad 0 c [] (by simp) (fun j u h => by simp at h) (fun u h => by cases h) (by omega) (fun j h => by simp at h) (fun j h => by simp at h)
      simpa [World.setCells] using this
  · obtain ⟨hxl, A2, c2, e2, _, _, hc2⟩ := hs
    cases e2
    obtain ⟨b0, o0, e0, hcs⟩ := hc2 hn
    cases e0
    obtain ⟨b1, o1, rfl, hcn⟩ := hcell h0
    obtain ⟨v', w', hrun, r1, r2⟩ := run_append_arg_grows (P := P) w t ty e i z 1 bytes ht hi hz hsize hby hzs (by omega) ⟨b0, o0, none⟩ n n xs hxl (fun j u hj => by rw [Addr.add_lit]; exact hcs j u hj) ⟨b1, o1, none⟩ m c news hl (fun j u hj => by rw [Addr.add_lit]; exact hcn j u hj) (by omega) h63 hbytes
    obtain ⟨A', c', rfl⟩ := own_slice r1
    exact ⟨A', c', w', hrun, Reads.of_own r1, (Ext.refl w).grown r2 (fun k h => by cases h)⟩
theorem wp_appF {o : Oper} {a : Act} {K : Act → World → Prop} {Q : Exit → Act → World → Prop} {s x : Operand} {t : TypeId}
    (ho : o.op = .call { callee := .builtin .append, args := #[s, x], argTypes := #[t, t] })
    {e : TypeId} {bytes : Nat} (T : SlTy P t e 1 bytes) {b : Addr} {n : Nat} {xs : List Value} (hs : a.eval s = .slice (some b) n n) (hown : Reads w 1 (.slice (some b) n n) n xs) (hn : 0 < n)
    {u : Value} (hx : a.eval x = u) {m : Nat} {news : List Value} (hr : Reads w 1 u m news) (h1 : AllOne news) (hbytes : (n + m) * bytes ≤ 140737488355328)
    (h : ∀ (A' : Option Addr) (c' : Nat) w', Reads w' 1 (.slice A' (n + m) c') (n + m) (xs ++ news) → Ext w w' → K (a.put o.dst (.slice A' (n + m) c')) w') : o.wp P a w K Q := by
  obtain ⟨A', c', w', hrun, h2, h3⟩ := run_appF (P := P) (ty := o.type) T hown hn hr h1 hbytes
  unfold Oper.wp execOp
  simp only [ho, resolve, invoke, builtin, Sem.run_bind, Sem.run_pure, Result.andThen_ok, List.map_toArray, List.map_cons, List.map_nil, hs, hx, hrun]
  exact h A' c' w' h2 h3
theorem step_appF {ops : Array Oper} {o : Oper} {a : Act} {K : Act → World → Prop} {Q : Exit → Act → World → Prop} {E : Prop} (hgd : o.guard = none) {s x : Operand} {t : TypeId}
    (ho : o.op = .call { callee := .builtin .append, args := #[s, x], argTypes := #[t, t] })
    {e : TypeId} {bytes : Nat} (T : SlTy P t e 1 bytes) {b : Addr} {n : Nat} {xs : List Value} (hs : a.eval s = .slice (some b) n n) (hown : Reads w 1 (.slice (some b) n n) n xs) (hn : 0 < n)
    {u : Value} (hx : a.eval x = u) {m : Nat} {news : List Value} (hr : Reads w 1 u m news) (h1 : AllOne news) (hbytes : (n + m) * bytes ≤ 140737488355328)
    (h : ∀ (A' : Option Addr) (c' : Nat) w', Reads w' 1 (.slice A' (n + m) c') (n + m) (xs ++ news) → Ext w w' → K (a.put o.dst (.slice A' (n + m) c')) w') :
    if Region.wanted o (yielded ops a.tmps) = true then Oper.wp P o a w K Q else E := by
  have hw : Region.wanted o (yielded ops a.tmps) = true := by simp [Region.wanted, hgd]
  rw [if_pos hw]
  exact wp_appF ho T hs hown hn hx hr h1 hbytes h
theorem wpList_appF {ops : Array Oper} {rest : List Oper} {o : Oper} {a : Act} {Q : Exit → Act → World → Prop} (hgd : o.guard = none) {s x : Operand} {t : TypeId}
    (ho : o.op = .call { callee := .builtin .append, args := #[s, x], argTypes := #[t, t] })
    {e : TypeId} {bytes : Nat} (T : SlTy P t e 1 bytes) {b : Addr} {n : Nat} {xs : List Value} (hs : a.eval s = .slice (some b) n n) (hown : Reads w 1 (.slice (some b) n n) n xs) (hn : 0 < n)
    {u : Value} (hx : a.eval x = u) {m : Nat} {news : List Value} (hr : Reads w 1 u m news) (h1 : AllOne news) (hbytes : (n + m) * bytes ≤ 140737488355328)
    (h : ∀ (A' : Option Addr) (c' : Nat) w', Reads w' 1 (.slice A' (n + m) c') (n + m) (xs ++ news) → Ext w w' → wpList P ops Q rest (a.put o.dst (.slice A' (n + m) c')) w') : wpList P ops Q (o :: rest) a w :=
  wpList_plain hgd fun _ hK => wp_appF ho T hs hown hn hx hr h1 hbytes fun A' c' w' h2 h3 => hK _ _ (h A' c' w' h2 h3)
end

end Go.Proofs.YtoefmncdloffaaaDoor
