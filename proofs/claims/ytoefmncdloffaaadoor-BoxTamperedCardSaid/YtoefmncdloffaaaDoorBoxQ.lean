
/-
  The facts of the region in which a box's tag is made again (BoxAuthentic, BoxTampered).
-/
import Derived.Test.YtoefmncdloffaaaDoorBoxF
import Derived.Test.YtoefmncdloffaaaDoorTwo
namespace Go.Proofs.YtoefmncdloffaaaDoor
open Go.RowKit

def AuthF (w0 : World) (gd gb : Nat) (nonce : Int) (c : ByteArray) (l1 l2 : List UInt8) (macA : Array Value) : Nat → Value → Value → World → Prop
  | 0, v, _, _ => v = .slice (some ⟨gd, 0, none⟩) 16 16
  | 1, v, _, W => W.ownsRow w0.heap.size 5 1 v 0 []
  | 2, v, _, _ => v = .pointer (some ⟨gb, 0, none⟩)
  | 3, v, _, _ => v = .int .i64 nonce
  | 4, v, _, W => ∃ A cc, v = .slice A l1.length cc ∧ Reads W 1 (.slice A l1.length cc) l1.length (l1.map u8v)
  | 5, v, _, W => W.ownsRow w0.heap.size 5 1 v l1.length (l1.map u8v)
  | 6, v, _, _ => v = .pointer (some ⟨gb, 1, none⟩)
  | 7, v, _, _ => v = .string c
  | 8, v, _, W => ∃ A cc, v = .slice A l2.length cc ∧ Reads W 1 (.slice A l2.length cc) l2.length (l2.map u8v)
  | 9, v, _, W => ∃ A cc, v = .slice A (l1.length + l2.length) cc ∧ Reads W 1 (.slice A (l1.length + l2.length) cc) (l1.length + l2.length) (l1.map u8v ++ l2.map u8v)
  | 10, v, _, _ => v = .agg macA
  | 11, v, _, W => Fresh w0 v W
  | 12, _, u, W => Filled w0 u macA W
  | _, _, _, _ => True
section
variable {w0 : World} {gd gb : Nat} {nonce : Int} {c : ByteArray} {l1 l2 : List UInt8} {macA : Array Value} {i : Nat} {v u : Value} {W W' : World}
theorem AuthF.ext (h : AuthF w0 gd gb nonce c l1 l2 macA i v u W) (hE : Ext W W') : AuthF w0 gd gb nonce c l1 l2 macA i v u W' := by
  unfold AuthF at h ⊢
  split at h <;> try exact h
  · exact ownsRow_ext h hE
  · obtain ⟨A, cc, h1, h2⟩ := h; exact ⟨A, cc, h1, h2.ext hE⟩
  · exact ownsRow_ext h hE
  · obtain ⟨A, cc, h1, h2⟩ := h; exact ⟨A, cc, h1, h2.ext hE⟩
  · obtain ⟨A, cc, h1, h2⟩ := h; exact ⟨A, cc, h1, h2.ext hE⟩
  · exact h.ext hE
  · exact h.ext hE
theorem AuthF.any (h : AuthF w0 gd gb nonce c l1 l2 macA i v u W) (h1 : i ≠ 1) (h4 : i ≠ 4) (h5 : i ≠ 5) (h8 : i ≠ 8) (h9 : i ≠ 9) (h11 : i ≠ 11) (h12 : i ≠ 12) : AuthF w0 gd gb nonce c l1 l2 macA i v u W' := by
  unfold AuthF at h ⊢
  split at h <;> first | exact h | omega
end

end Go.Proofs.YtoefmncdloffaaaDoor
