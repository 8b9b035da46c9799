
/-
  How digests and hashes are compared.
-/
import Derived.Test.YtoefmncdloffaaaDoorShaI
import Derived.Test.YtoefmncdloffaaaDoorEqB
namespace Go.Proofs.YtoefmncdloffaaaDoor
open Go.RowKit

theorem u8_plain : Tryd.prog.plainKey 5 = true := by kernel_rfl
theorem u8_one : Tryd.prog.cellsOf 5 = 1 := by kernel_rfl
set_option maxRecDepth 100000 in
theorem eq32 {a b : List UInt8} (ha : a.length = 32) (hb : b.length = 32) (w : World) : (binOp .eql 91 (.agg (a.map u8v).toArray) (.agg (b.map u8v).toArray)).run Tryd.prog w = .ok (.bool (decide (a = b))) w :=
  run_eql_bytes (inf := _) Tryd.underlying91 Tryd.underlying5 u8_plain rfl u8_one ha hb w
set_option maxRecDepth 100000 in
theorem eq16 {a b : List UInt8} (ha : a.length = 16) (hb : b.length = 16) (w : World) : (binOp .eql 23 (.agg (a.map u8v).toArray) (.agg (b.map u8v).toArray)).run Tryd.prog w = .ok (.bool (decide (a = b))) w :=
  run_eql_bytes (inf := _) Tryd.underlying23 Tryd.underlying5 u8_plain rfl u8_one ha hb w
set_option maxRecDepth 100000 in
theorem ne16 {a b : List UInt8} (ha : a.length = 16) (hb : b.length = 16) (w : World) : (binOp .neq 23 (.agg (a.map u8v).toArray) (.agg (b.map u8v).toArray)).run Tryd.prog w = .ok (.bool (!decide (a = b))) w :=
  run_neq_bytes (inf := _) Tryd.underlying23 Tryd.underlying5 u8_plain rfl u8_one ha hb w

theorem same32 {l : List UInt8} {r : Array Value} (h : (l.map u8v).toArray = r) (hl : l.length = 32) : ∀ W, (binOp .eql 91 (.agg r) (.agg r)).run Tryd.prog W = .ok (.bool true) W := fun W => by
  rw [← h, eq32 hl hl]; simp
theorem same16 {l : List UInt8} {r : Array Value} (h : (l.map u8v).toArray = r) (hl : l.length = 16) : ∀ W, (binOp .eql 23 (.agg r) (.agg r)).run Tryd.prog W = .ok (.bool true) W := fun W => by
  rw [← h, eq16 hl hl]; simp

end Go.Proofs.YtoefmncdloffaaaDoor
