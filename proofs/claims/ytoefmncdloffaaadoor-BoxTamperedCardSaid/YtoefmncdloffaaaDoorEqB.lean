
/-
  Arrays of bytes, compared.
-/
import Derived.Test.YtoefmncdloffaaaDoorStr
import Derived.ChangeKeysEq
import Derived.Lib.SlBytesConst
namespace Go.Proofs.YtoefmncdloffaaaDoor
open Go.RowKit

section
variable {P : Program}
theorem run_eqItems_u8 {e : TypeId} (hu : P.underlying e = some (.int .u8)) (he : P.plainKey e = true) (d : Nat) (a b : List UInt8) (w : World) : ∀ is : List Nat, (∀ i ∈ is, i < a.length ∧ i < b.length) →
    (Op.eqItems (d + 1) e 1 (a.map byteV).toArray (b.map byteV).toArray is).run P w = .ok (is.all fun i => a.getD i 0 == b.getD i 0) w
  | [], _ => by simp [Op.eqItems]
  | i :: is, h => by
    obtain ⟨h1, h2⟩ := h i (by simp)
    have p1 : (part e (a.map byteV).toArray (i * 1)).run P w = .ok (byteV a[i]) w := run_part_plain w he (by simp [List.getElem?_eq_getElem h1])
    have p2 : (part e (b.map byteV).toArray (i * 1)).run P w = .ok (byteV b[i]) w := run_part_plain w he (by simp [List.getElem?_eq_getElem h2])
    have p3 : (Op.equalIn (d + 1) e (byteV a[i]) (byteV b[i])).run P w = .ok (a[i] == b[i]) w := by
      simp [Op.equalIn, run_underlying hu, byteV]
      rw [Bool.eq_iff_iff]
      simp
      exact ⟨fun h => UInt8.toNat_inj.1 (Int.ofNat_inj.1 h), fun h => by rw [h]⟩
    have ih := run_eqItems_u8 hu he d a b w is fun j hj => h j (by simp [hj])
    simp only [Op.eqItems, Sem.run_bind, p1, p2, p3, Result.andThen_ok]
    rw [List.all_cons, List.getD_eq_getElem?_getD, List.getD_eq_getElem?_getD, List.getElem?_eq_getElem h1, List.getElem?_eq_getElem h2]
    simp only [Option.getD_some]
    by_cases hab : a[i] = b[i]
    · simpa [hab] using ih
    · simp [hab]
theorem all_eq (a b : List UInt8) (n : Nat) (ha : a.length = n) (hb : b.length = n) : ((List.range n).all fun i => a.getD i 0 == b.getD i 0) = decide (a = b) := by
  rw [Bool.eq_iff_iff]
  simp only [List.all_eq_true, List.mem_range, beq_iff_eq, decide_eq_true_eq]
  constructor
  · intro h
    apply List.ext_getElem (by omega)
    intro i h1 h2
    have := h i (by omega)
    simpa [List.getD_eq_getElem?_getD, List.getElem?_eq_getElem h1, List.getElem?_eq_getElem h2] using this
  · rintro rfl i _; rfl
/-- 'x == y' of two arrays of bytes. -/
theorem run_eql_bytes {t e : TypeId} {n : Nat} (hu : P.underlying t = some (.array n e)) (hue : P.underlying e = some (.int .u8)) (he : P.plainKey e = true) {inf : TypeInfo} (hi : P.info? e = some inf) (h1 : P.cellsOf e = 1) {a b : List UInt8} (ha : a.length = n) (hb : b.length = n) (w : World) :
    (binOp .eql t (.agg (a.map byteV).toArray) (.agg (b.map byteV).toArray)).run P w = .ok (.bool (decide (a = b))) w := by
  have h := run_equalIn_array (P := P) w 9999 (a.map byteV).toArray (b.map byteV).toArray hu hi
  rw [h1, run_eqItems_u8 hue he 9998 a b w _ (fun i hm => by rw [List.mem_range] at hm; omega), all_eq a b n ha hb] at h
  simp only [binOp]
  simp [Op.equal, Op.maxDepth, h]
theorem run_neq_bytes {t e : TypeId} {n : Nat} (hu : P.underlying t = some (.array n e)) (hue : P.underlying e = some (.int .u8)) (he : P.plainKey e = true) {inf : TypeInfo} (hi : P.info? e = some inf) (h1 : P.cellsOf e = 1) {a b : List UInt8} (ha : a.length = n) (hb : b.length = n) (w : World) :
    (binOp .neq t (.agg (a.map byteV).toArray) (.agg (b.map byteV).toArray)).run P w = .ok (.bool (!decide (a = b))) w := by
  have h := run_equalIn_array (P := P) w 9999 (a.map byteV).toArray (b.map byteV).toArray hu hi
  rw [h1, run_eqItems_u8 hue he 9998 a b w _ (fun i hm => by rw [List.mem_range] at hm; omega), all_eq a b n ha hb] at h
  simp only [binOp]
  simp [Op.equal, Op.maxDepth, h]
end

theorem Reads.newM (w : World) (cs : Array Value) (e : TypeId) (fr : Nat × Nat) (n c : Nat) (xs : List Value) {g : Nat} (hg : g = w.heap.size) (hx : xs.length = n) (hc : n ≤ c) (hm : c ≤ maxLen) (ht : cs.toList.take xs.length = xs) :
    Reads (w.alloc (.cells cs e fr)) 1 (.slice (some ⟨g, 0, none⟩) n c) n xs := by
  subst hg
  refine ⟨by rw [hx, Nat.mul_one], _, c, rfl, hc, hm, fun _ => ⟨w.heap.size, 0, rfl, fun j u hu => ?_⟩⟩
  have hj : j < xs.length := by
    rcases Nat.lt_or_ge j xs.length with h | h
    · exact h
    · rw [List.getElem?_eq_none h] at hu; cases hu
  rw [Nat.zero_add, World.cell?_alloc_mark]
  rw [← ht, List.getElem?_take, if_pos hj] at hu
  simpa using hu

end Go.Proofs.YtoefmncdloffaaaDoor
