/-
  append(b, make([]byte, n)...): the compiler's form without a new slice: n zeros behind what the call owns.
-/
import Derived.Test.YtnnecanjkogloaaDoorStr
import Derived.Lib.AppendZeros
import Derived.Deep.AppendSrc
import Derived.BigFrame
namespace Go.Proofs.YtnnecanjkogloaaDoor
open Go.RowKit

def zeroStr (n : Nat) : ByteArray := ⟨(List.replicate n (0 : UInt8)).toArray⟩
theorem zeroStr_size (n : Nat) : (zeroStr n).size = n := by unfold zeroStr ByteArray.size; simp
theorem zeroStr_cells (n : Nat) : (zeroStr n).data.toList.map byteV = List.replicate n (.int .u8 0) := by unfold zeroStr; simp [byteV]
section
variable {P : Program}
theorem zeros_cells (n : Nat) : Builtin.zeroCells (Value.int .u8 0).cells n = Array.replicate n (Value.int .u8 0) := by
  show Builtin.zeroCells #[Value.int .u8 0] n = _
  unfold Builtin.zeroCells
  apply Array.ext
  · simp
  · intro i h1 h2
    simp [Nat.mod_one]
theorem run_first_zeros (n : Nat) (w : World) : (Builtin.firstCells 1 n (.string (zeroStr n))).run P w = .ok (List.replicate n (Value.int .u8 0)).toArray w := by
  have h := firstCells_string (P := P) (zeroStr n) w
  rw [zeroStr_size] at h
  rw [h]
  congr 1
  unfold byteCells zeroStr
  simp
theorem run_append_zeros (w : World) {t u tn ty e : TypeId} {i : TypeInfo} {kn : IntKind} (ht : P.underlying t = some (.slice e)) (hu : P.underlying u = some .string) (htn : P.underlying tn = some (.int kn)) (hi : P.info? e = some i) (hz : i.zero = some (.int .u8 0)) (hsize : i.size = 1) (hby : i.bytes = 1)
    (b : Option Addr) (l c n : Nat) (hn : l + n ≤ 140737488355328) :
    (Builtin.append_ #[t, tn] ty #[.slice b l c, .int .i64 (n : Int)]).run P w = (Builtin.append_ #[t, u] ty #[.slice b l c, .string (zeroStr n)]).run P w := by
  have hw0 : IntKind.i64.wrap 0 = 0 := by decide
  have hw : IntKind.i64.wrap (n : Int) = n := by rw [IntKind.wrap_i64]; omega
  have hneg : ¬ ((n : Int) < 0) := by omega
  have hb : ¬ (281474976710656 < (n : Int)) := by omega
  have hf := run_first_zeros (P := P) n
  have hzc := zeros_cells n
  have hsz := zeroStr_size n
  have hcap : ¬ (l + n ≤ c) → ¬ (281474976710656 < Builtin.nextslicecap (l + n) c) := fun h => by
    have := growslice_fits (need := l + n) (old := c) (bytes := 1) (by omega) (by omega)
    omega
  have hz0 : n = 0 → (List.replicate n (Value.int .u8 0)).toArray = #[] := fun h => by subst h; rfl
  have h63 : ¬ (9223372036854775807 < (l : Int) + (n : Int)) := by omega
  by_cases hc : l + n ≤ c
  · by_cases h0 : n = 0
    · subst h0
      have hc' : l ≤ c := by omega
      simp [hc', Builtin.append_, run_underlying ht, run_underlying htn, run_underlying hu, sizeOf, typeInfo, zeroValue, hi, hz, hsize, hby, asInt, asIntOf, hw0, Builtin.lenOf, hsz, hf, hc]
    · simp [Builtin.append_, run_underlying ht, run_underlying htn, run_underlying hu, sizeOf, typeInfo, zeroValue, hi, hz, hsize, hby, asInt, asIntOf, hw, hneg, hb, Builtin.lenOf, hsz, hf, hzc, hc, h0]
  · have hcap := hcap hc
    by_cases h0 : n = 0
    · subst h0
      have hc' : ¬ (l ≤ c) := by omega
      have hcap' : ¬ (281474976710656 < Builtin.nextslicecap l c) := hcap
      have h63' : ¬ (9223372036854775807 < (l : Int)) := by omega
      simp [hc', hcap', h63', Builtin.append_, run_underlying ht, run_underlying htn, run_underlying hu, sizeOf, typeInfo, zeroValue, hi, hz, hsize, hby, asInt, asIntOf, hw0, Builtin.lenOf, hsz, hf, hc, hcap, h63]
    · simp [Builtin.append_, run_underlying ht, run_underlying htn, run_underlying hu, sizeOf, typeInfo, zeroValue, hi, hz, hsize, hby, asInt, asIntOf, hw, hneg, hb, Builtin.lenOf, hsz, hf, hzc, hc, h0, hcap, h63]

theorem wp_appZ {o : Oper} {a : Act} {w : World} {K : Act → World → Prop} {Q : Exit → Act → World → Prop} {sl x : Operand} {t tn : TypeId} {kn : IntKind}
    (ho : o.op = .call { callee := .builtin .append, args := #[sl, x], argTypes := #[t, tn] })
    {B : Nat} {e u : TypeId} (T : SlTy P t e 1 1) (hz : (P.info? e).map (·.zero) = some (some (.int .u8 0))) (hu : P.underlying u = some .string) (htn : P.underlying tn = some (.int kn)) {v : Value} {n : Nat} {xs : List Value} (hs : a.eval sl = v) (hown : w.ownsRow B e 1 v n xs) {m : Nat} {mI : Int} (hx : a.eval x = .int .i64 mI) (hm : mI = (m : Int))
    (hbytes : n + m ≤ 140737488355328) (hbase : B ≤ w.heap.size)
    (h : ∀ (A' : Option Addr) (c' : Nat) w', w'.ownsRow B e 1 (.slice A' (n + m) c') (n + m) (xs ++ List.replicate m (.int .u8 0)) → Chg (fun k => v.ownBlock = some k) w w' → K (a.put o.dst (.slice A' (n + m) c')) w') : o.wp P a w K Q := by
  subst hm
  obtain ⟨ht, ⟨i, z, hi, hz2, hsize, hby, hzs⟩, _, _⟩ := T
  have hz' : i.zero = some (.int .u8 0) := by rw [hi] at hz; simpa using hz
  obtain ⟨v', w', hrun, h1, h2, _⟩ := Lib.run_append_own_string (P := P) w B t u o.type e i ht hu hi hz' hsize hby v n xs hown (zeroStr m) (by rw [zeroStr_size]; unfold maxLen; omega) (by rw [zeroStr_size]; exact hbytes) hbase
  obtain ⟨A, c, rfl⟩ : ∃ A c, v = .slice A n c := by
    rcases hown.2 with ⟨rfl, rfl⟩ | ⟨g, cap, cur, rfl, _⟩
    · exact ⟨_, _, rfl⟩
    · exact ⟨_, _, rfl⟩
  rw [← run_append_zeros w ht hu htn hi hz' hsize hby A n c m hbytes] at hrun
  obtain ⟨A', c', rfl⟩ := own_slice h1
  rw [zeroStr_size] at h1 hrun
  have h1' : w'.ownsRow B e 1 (.slice A' (n + m) c') (n + m) (xs ++ List.replicate m (.int .u8 0)) := by
    have := h1
    rwa [show Lib.strCells (zeroStr m) = List.replicate m (.int .u8 0) from zeroStr_cells m] at this
  exact Lib.wp_append_run w sl x t tn ho _ _ hs hx _ _ hrun (h A' c' w' h1' ⟨h2.os, h2.tape, h2.output, h2.size, fun k hk hn => h2.block k hk (fun e => hn e.symm)⟩)

/-- The laws for operations that are guarded, the guard known. -/
theorem wpList_appG {ops : Array Oper} {rest : List Oper} {o : Oper} {a : Act} {w : World} {Q : Exit → Act → World → Prop} (hgd : Region.wanted o (yielded ops a.tmps) = true) {s x : Operand} {t : TypeId}
    (ho : o.op = .call { callee := .builtin .append, args := #[s, x], argTypes := #[t, t] })
    {B : Nat} {e : TypeId} {size bytes : Nat} (T : SlTy P t e size bytes) {v : Value} (hs : a.eval s = v) {n : Nat} {xs : List Value} (hown : w.ownsRow B e size v n xs)
    {u : Value} (hx : a.eval x = u) {m : Nat} {news : List Value} (hr : Reads w size u m news) (h1 : AllOne news) (hbytes : (n + m) * bytes ≤ 140737488355328) (hbase : B ≤ w.heap.size)
    (h : ∀ (A' : Option Addr) (c' : Nat) w', w'.ownsRow B e size (.slice A' (n + m) c') (n + m) (xs ++ news) → Chg (fun k => v.ownBlock = some k) w w' → ((Value.slice A' (n + m) c').ownBlock = v.ownBlock ∨ ∃ g, (Value.slice A' (n + m) c').ownBlock = some g ∧ w.heap.size ≤ g ∧ g < w'.heap.size) → wpList P ops Q rest (a.put o.dst (.slice A' (n + m) c')) w') : wpList P ops Q (o :: rest) a w :=
  Go.BigFrame.wpList_want hgd fun _ hK => wp_app ho T hs hown hx hr h1 hbytes hbase fun A' c' w' h2 h3 h4 => hK _ _ (h A' c' w' h2 h3 h4)
theorem wpList_appZG {ops : Array Oper} {rest : List Oper} {o : Oper} {a : Act} {w : World} {Q : Exit → Act → World → Prop} (hgd : Region.wanted o (yielded ops a.tmps) = true) {sl x : Operand} {t tn : TypeId} {kn : IntKind}
    (ho : o.op = .call { callee := .builtin .append, args := #[sl, x], argTypes := #[t, tn] })
    {B : Nat} {e u : TypeId} (T : SlTy P t e 1 1) (hz : (P.info? e).map (·.zero) = some (some (.int .u8 0))) (hu : P.underlying u = some .string) (htn : P.underlying tn = some (.int kn)) {v : Value} {n : Nat} {xs : List Value} (hs : a.eval sl = v) (hown : w.ownsRow B e 1 v n xs) {m : Nat} {mI : Int} (hx : a.eval x = .int .i64 mI) (hm : mI = (m : Int))
    (hbytes : n + m ≤ 140737488355328) (hbase : B ≤ w.heap.size)
    (h : ∀ (A' : Option Addr) (c' : Nat) w', w'.ownsRow B e 1 (.slice A' (n + m) c') (n + m) (xs ++ List.replicate m (.int .u8 0)) → Chg (fun k => v.ownBlock = some k) w w' → wpList P ops Q rest (a.put o.dst (.slice A' (n + m) c')) w') : wpList P ops Q (o :: rest) a w :=
  Go.BigFrame.wpList_want hgd fun _ hK => wp_appZ ho T hz hu htn hs hown hx hm hbytes hbase fun A' c' w' h2 h3 => hK _ _ (h A' c' w' h2 h3)
end

end Go.Proofs.YtnnecanjkogloaaDoor
