/-
  The law TreesigRejectsMalformed: what the signature is changed to.
-/
import Derived.Test.YtjemfefkgfoikaaDoorTpK
import Derived.Test.YtjemfefkgfoikaaDoorTpL
namespace Go.Proofs.YtjemfefkgfoikaaDoor
open Go.RowKit

/-- What the law leans on behind the signature: the root, the message, the signature, its copy. -/
structure T4 (w : World) (g6 g12 gs : Nat) (ma ra : Array Value) (j : Int) (A B : Option Addr) (c d k : Nat) (ch pa : List (List UInt8)) (W : World) : Prop where
  ext : Ext w W
  msg : Blk W g6 23 ma
  root : Blk W g12 23 ra
  sig : Blk W gs 47 #[.int .i64 j, .slice A 68 c, .slice B k d]
  chain : Digs W (.slice A 68 c) ch
  path : Digs W (.slice B k d) pa
theorem T4.to {w : World} {g6 g12 gs : Nat} {ma ra : Array Value} {j : Int} {A B : Option Addr} {c d k : Nat} {ch pa : List (List UInt8)} {W W' : World} (h : T4 w g6 g12 gs ma ra j A B c d k ch pa W) (hE : Ext W W') : T4 w g6 g12 gs ma ra j A B c d k ch pa W' :=
  ⟨h.ext.trans hE, h.msg.ext hE, h.root.ext hE, h.sig.ext hE, h.chain.ext hE, h.path.ext hE⟩
/-- A block behind all of those. -/
structure T4B (w : World) (g6 g12 gs : Nat) (A B : Option Addr) (c d k : Nat) (pa : List (List UInt8)) (g : Nat) : Prop where
  base : w.heap.size ≤ g
  msg : g6 < g
  root : g12 < g
  sig : gs < g
  chain : ∀ x, (Value.slice A 68 c).ownBlock = some x → x < g
  path : 0 < pa.length → ∀ x, (Value.slice B k d).ownBlock = some x → x < g
theorem T4.bounds {w : World} {g6 g12 gs : Nat} {ma ra : Array Value} {j : Int} {A B : Option Addr} {c d k : Nat} {ch pa : List (List UInt8)} {W : World} (h : T4 w g6 g12 gs ma ra j A B c d k ch pa W) (hc : 0 < ch.length) : T4B w g6 g12 gs A B c d k pa W.heap.size :=
  ⟨h.ext.size', h.msg.lt, h.root.lt, h.sig.lt, h.chain.own_lt hc, fun hp => h.path.own_lt hp⟩
theorem T4.set {w : World} {g6 g12 gs : Nat} {ma ra : Array Value} {j : Int} {A B : Option Addr} {c d k : Nat} {ch pa : List (List UInt8)} {W : World} {g : Nat} (h : T4 w g6 g12 gs ma ra j A B c d k ch pa W) (hb : T4B w g6 g12 gs A B c d k pa g) (i : Nat) (v : Value) : T4 w g6 g12 gs ma ra j A B c d k ch pa (W.setCell ⟨g, i, none⟩ v) := by
  have hc : Chg (fun x => x = g) W (W.setCell ⟨g, i, none⟩ v) := (Chg.refl (fun x => x = g) W).setCell (p := ⟨g, i, none⟩) (.inl rfl) v
  obtain ⟨hw, h6, h12, hs, hA, hB⟩ := hb
  exact ⟨h.ext.trans' hc (fun _ _ h => h) (fun i hi e => by omega), h.msg.chg hc (by omega), h.root.chg hc (by omega), h.sig.chg hc (by omega), h.chain.chg hc (fun x hx e => by have := hA x hx; omega), ⟨h.path.1, h.path.2.chg hc (fun x hn hx e => by have := hB hn x hx; omega)⟩⟩
/-- A list and one digest more, appended to an empty slice of the call's own. -/
def Longer (W0 : World) (n : Nat) (ds : List (List UInt8)) (x : List UInt8) (v : Value) (W : World) : Prop := ∃ A c, v = .slice A (n + 1) c ∧ Digs W (.slice A (n + 1) c) (ds ++ [x]) ∧ Ext W0 W ∧ ∀ k, v.ownBlock = some k → W0.heap.size ≤ k
section
variable {W0 W : World} {n : Nat} {ds : List (List UInt8)} {x : List UInt8}
theorem empty_row (W : World) {B g : Nat} (hg : g = W.heap.size) (hB : B ≤ W.heap.size) : (W.alloc (.cells #[] 23)).ownsRow B 23 16 (.slice (some ⟨g, 0, none⟩) 0 0) 0 [] := by subst hg; exact own_empty W B _ 16 hB
theorem Longer.of {A : Option Addr} {c B : Nat} (hd : D16 ds) (hx : x.length = 16) (hn : ds.length = n) (ho : W.ownsRow B 23 16 (.slice A (0 + n + 1) c) (0 + n + 1) ([] ++ dcells ds ++ x.map u8v)) (hE : Ext W0 W) (hB : W0.heap.size ≤ B) : Longer W0 n ds x (.slice A (0 + n + 1) c) W := by
  rw [Nat.zero_add, List.nil_append] at ho
  refine ⟨A, c, by rw [Nat.zero_add], ⟨hd.append (D16.one hx), ?_⟩, hE, fun k hk => by rw [Nat.zero_add] at hk; have := (ho.lt k hk).1; omega⟩
  rw [dcells_append, dcells_one, List.length_append, hn]
  exact Reads.of_own ho
theorem Longer.set {v u : Value} {g i : Nat} (h : Longer W0 n ds x v W) (hg : g < W0.heap.size) : ∃ A c, v = .slice A (n + 1) c ∧ Digs (W.setCell ⟨g, i, none⟩ u) (.slice A (n + 1) c) (ds ++ [x]) := by
  obtain ⟨A, c, rfl, hd, _, ho⟩ := h
  exact ⟨A, c, rfl, hd.chg ((Chg.refl (fun y => y = g) W).setCell (p := ⟨g, i, none⟩) (.inl rfl) u) (fun k hk e => by have := ho k hk; omega)⟩
end
/-- A list of digests lies in no block of three cells. -/
theorem Digs.off {w : World} {v : Value} {ds : List (List UInt8)} {g : Nat} {t : TypeId} {cs : Array Value} (h : Digs w v ds) (h0 : 0 < ds.length) (hb : Blk w g t cs) (hs : cs.size ≤ 3) : ∀ x, v.ownBlock = some x → ¬ x = g := by
  obtain ⟨b, o, c, rfl, _, _, _, hr⟩ := h.at (k := 0) h0
  intro x hx e
  have hl : (ds[0].map u8v).length = 16 := by simpa using h.1 _ (List.getElem_mem h0)
  have h3 := hr 3 _ (List.getElem?_eq_getElem (by omega))
  simp only [Value.ownBlock, Option.some.injEq] at hx
  subst hx e
  rw [hb.cell, Array.getElem?_eq_none (by omega)] at h3
  cases h3
theorem T4.made {w : World} {g6 g12 g : Nat} {ma ra : Array Value} {j : Int} {A B : Option Addr} {c d k : Nat} {ch pa : List (List UInt8)} {W : World} {x y z : Value} (hE : Ext w W) (hm : Blk W g6 23 ma) (hr : Blk W g12 23 ra) (hz : Blk W g 47 #[x, y, z]) (h1 : Digs W (.slice A 68 c) ch) (h2 : Digs W (.slice B k d) pa) (hc : 0 < ch.length) (hw : w.heap.size ≤ g) (h6 : g6 < g) (h12 : g12 < g) :
    T4 w g6 g12 g ma ra j A B c d k ch pa (((W.setCell ⟨g, 0, none⟩ (.int .i64 j)).setCell ⟨g, 1, none⟩ (.slice A 68 c)).setCell ⟨g, 2, none⟩ (.slice B k d)) := by
  have hh : Chg (fun x => x = g) W (((W.setCell ⟨g, 0, none⟩ (.int .i64 j)).setCell ⟨g, 1, none⟩ (.slice A 68 c)).setCell ⟨g, 2, none⟩ (.slice B k d)) := (((Chg.refl (fun x => x = g) W).setCell (p := ⟨g, 0, none⟩) (.inl rfl) _).setCell (p := ⟨g, 1, none⟩) (.inl rfl) _).setCell (p := ⟨g, 2, none⟩) (.inl rfl) _
  refine ⟨hE.trans' hh (fun _ _ h => h) (fun i hi e => by omega), hm.chg hh (by omega), hr.chg hh (by omega), ((hz.set_ 0 _).set_ 1 _).set_ 2 _, h1.chg hh (fun x hx e => h1.off hc hz (by simp) x hx e), ⟨h2.1, h2.2.chg hh (fun x hn hx e => h2.off hn hz (by simp) x hx e)⟩⟩
theorem ret_false_not {b : Bool} (h : b = false) : (!b) = true := by rw [h]; rfl

end Go.Proofs.YtjemfefkgfoikaaDoor
