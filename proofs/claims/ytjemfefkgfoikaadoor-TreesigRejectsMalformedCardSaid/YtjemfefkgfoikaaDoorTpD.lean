/-
  Several texts in one file: each has its own heading below.
-/
import Derived.Test.YtjemfefkgfoikaaDoorTpC
import Derived.Great.BuildSlice
import Derived.Deep.RegionLaw
import Derived.Deep.Cut
import Derived.Test.YtjemfefkgfoikaaDoorTpA
import Derived.RangeFuncBound

/-
  Slices of digests: cells, elements, appending.
-/
namespace Go.Proofs.YtjemfefkgfoikaaDoor
open Go.RowKit

/-- The cells of a list of digests. -/
def dcells (ds : List (List UInt8)) : List Value := ds.flatMap fun d => d.map u8v
def D16 (ds : List (List UInt8)) : Prop := ∀ d ∈ ds, d.length = 16
theorem D16.cons {d : List UInt8} {ds : List (List UInt8)} (h : D16 (d :: ds)) : d.length = 16 ∧ D16 ds := ⟨h d List.mem_cons_self, fun x hx => h x (List.mem_cons_of_mem _ hx)⟩
theorem D16.nil : D16 [] := fun d h => by cases h
theorem D16.append {a b : List (List UInt8)} (h : D16 a) (k : D16 b) : D16 (a ++ b) := fun d hd => (List.mem_append.1 hd).elim (h d) (k d)
theorem D16.one {d : List UInt8} (h : d.length = 16) : D16 [d] := fun x hx => by simp at hx; subst hx; exact h
theorem D16.get {ds : List (List UInt8)} (h : D16 ds) {k : Nat} (hk : k < ds.length) : ds[k].length = 16 := h _ (List.getElem_mem hk)
theorem dcells_append (a b : List (List UInt8)) : dcells (a ++ b) = dcells a ++ dcells b := List.flatMap_append
theorem dcells_one (d : List UInt8) : dcells [d] = d.map u8v := by unfold dcells; simp
theorem dcells_length : ∀ {ds : List (List UInt8)}, D16 ds → (dcells ds).length = ds.length * 16
  | [], _ => rfl
  | d :: ds, h => by
    have := dcells_length h.cons.2
    unfold dcells at this ⊢
    rw [List.flatMap_cons, List.length_append, this, List.length_map, h.cons.1, List.length_cons]
    omega
theorem dcells_at : ∀ {ds : List (List UInt8)}, D16 ds → ∀ (k : Nat) (hk : k < ds.length) (j : Nat), j < 16 → (dcells ds)[k * 16 + j]? = (ds[k].map u8v)[j]?
  | [], _, k, hk, _, _ => by simp at hk
  | d :: ds, h, 0, _, j, hj => by
    unfold dcells
    rw [List.flatMap_cons, List.getElem?_append_left (by rw [List.length_map, h.cons.1]; omega)]
    simp
  | d :: ds, h, k + 1, hk, j, hj => by
    have := dcells_at h.cons.2 k (by simpa using hk) j hj
    unfold dcells at this ⊢
    rw [List.flatMap_cons, List.getElem?_append_right (by rw [List.length_map, h.cons.1]; omega), List.length_map, h.cons.1, show (k + 1) * 16 + j - 16 = k * 16 + j from by omega, this]
    rfl
theorem dcells_one' : ∀ {ds : List (List UInt8)}, AllOne (dcells ds)
  | [] => fun v h => by cases h
  | d :: ds => fun v h => by
    unfold dcells at h
    rw [List.flatMap_cons, List.mem_append] at h
    rcases h with h | h
    · exact AllOne.u8 d v h
    · exact dcells_one' (ds := ds) v h

/-- The slice value reads as a list of digests. -/
def Digs (w : World) (v : Value) (ds : List (List UInt8)) : Prop := D16 ds ∧ Reads w 16 v ds.length (dcells ds)
section
variable {w w' : World} {v : Value} {ds : List (List UInt8)}
theorem Digs.ext (h : Digs w v ds) (hE : Ext w w') : Digs w' v ds := ⟨h.1, h.2.ext hE⟩
theorem Digs.nil (w : World) : Digs w (.slice none 0 0) [] := ⟨D16.nil, Reads.nil w 16⟩
theorem Digs.form (h : Digs w v ds) : ∃ A c, v = .slice A ds.length c ∧ ds.length ≤ c ∧ c ≤ maxLen := by
  obtain ⟨_, _, A, c, h, h1, h2, _⟩ := h
  exact ⟨A, c, h, h1, h2⟩
theorem Digs.at (h : Digs w v ds) {k : Nat} (hk : k < ds.length) : ∃ b o c, v = .slice (some ⟨b, o, none⟩) ds.length c ∧ ds.length ≤ c ∧ c ≤ maxLen ∧ b < w.heap.size ∧ w.rangeAt b (o + k * 16) (ds[k].map u8v) := by
  obtain ⟨hd, hl, A, c, rfl, h1, h2, h3⟩ := h
  obtain ⟨b, o, rfl, hc⟩ := h3 (by omega)
  have hlk := hd.get hk
  refine ⟨b, o, c, rfl, h1, h2, ?_, fun j u hu => ?_⟩
  · have e := dcells_at hd k hk 0 (by omega)
    have e2 : (ds[k].map u8v)[0]? = some (u8v (ds[k][0]'(by omega))) := by rw [List.getElem?_map, List.getElem?_eq_getElem (show 0 < ds[k].length by omega)]; rfl
    exact lt_of_cell (hc _ _ (e.trans e2))
  · have hj : j < 16 := by
      rcases Nat.lt_or_ge j 16 with h | h
      · exact h
      · rw [List.getElem?_eq_none (by rw [List.length_map]; omega)] at hu; cases hu
    rw [Nat.add_assoc]
    exact hc _ _ ((dcells_at hd k hk j hj).trans hu)
/-- A part of the list. -/
theorem Digs.sub (h : Digs w v ds) (i m c' : Nat) (hi : i + m ≤ ds.length) (hm : 0 < m) (hc1 : m ≤ c') (hc2 : c' ≤ maxLen) :
    ∃ b o c, v = .slice (some ⟨b, o, none⟩) ds.length c ∧ Digs w (.slice (some ⟨b, o + i * 16, none⟩) m c') ((ds.drop i).take m) := by
  obtain ⟨b, o, c, rfl, h1, h2, hb, _⟩ := h.at (k := i) (by omega)
  obtain ⟨hd, hl, A, c2, e, _, _, h3⟩ := h
  cases e
  obtain ⟨b', o', e, hc⟩ := h3 (by omega)
  cases e
  have hd' : D16 ((ds.drop i).take m) := fun d hx => hd d (List.mem_of_mem_drop (List.mem_of_mem_take hx))
  have hlen : ((ds.drop i).take m).length = m := by simp; omega
  refine ⟨b, o, c, rfl, hd', ?_⟩
  rw [hlen]
  refine ⟨by rw [dcells_length hd', hlen], _, c', rfl, hc1, hc2, fun _ => ⟨b, o + i * 16, rfl, fun j u hu => ?_⟩⟩
  have hj : j < m * 16 := by
    rcases Nat.lt_or_ge j (m * 16) with h | h
    · exact h
    · rw [List.getElem?_eq_none (by rw [dcells_length hd', hlen]; omega)] at hu; cases hu
  have e1 := dcells_at hd' (j / 16) (by rw [hlen]; omega) (j % 16) (by omega)
  have e2 := dcells_at hd (i + j / 16) (by omega) (j % 16) (by omega)
  rw [show j / 16 * 16 + j % 16 = j from by omega, hu] at e1
  have e3 : ((ds.drop i).take m)[j / 16]'(by rw [hlen]; omega) = ds[i + j / 16]'(by omega) := by simp
  rw [e3, ← e2] at e1
  have := hc _ _ e1.symm
  rw [show (o + i * 16 + j) = o + ((i + j / 16) * 16 + j % 16) from by omega]
  exact this
end
theorem digs_row : SlTy Tryd.prog 24 23 16 16 := SlTy.mk' (z := .agg (Array.replicate 16 (.int .u8 0))) (by kernel_rfl) (by kernel_rfl) rfl (by omega) (by omega)
theorem fold_set : ∀ (l : List Value) (pre old : List Value), old.length = l.length → (l.zipIdx pre.length).foldl (fun (acc : Array Value) x => acc.setIfInBounds (0 + x.2) x.1) (pre ++ old).toArray = (pre ++ l).toArray
  | [], pre, old, h => by cases old with | nil => rfl | cons => simp at h
  | v :: l, pre, old, h => by
    cases old with
    | nil => simp at h
    | cons x old =>
      rw [List.zipIdx_cons, List.foldl_cons]
      have e : (pre ++ x :: old).toArray.setIfInBounds (0 + pre.length) v = ((pre ++ [v]) ++ old).toArray := by simp
      have := fold_set l (pre ++ [v]) old (by simpa using h)
      simp only [List.length_append, List.length_cons, List.length_nil, Nat.zero_add, List.append_assoc, List.singleton_append] at this e ⊢
      rw [e]
      exact this
theorem fill_one (old cs : Array Value) (n : Nat) (ho : old.size = n) (hc : cs.size = n) : Instr.fill (fun i => some (i * n, n)) old [(0, .agg cs)] = some cs := by
  unfold Instr.fill
  simp only [Nat.zero_mul]
  have h1 : (Value.agg cs).cells = cs := rfl
  rw [h1, if_neg (by simp; omega)]
  unfold Instr.fill
  have := fold_set cs.toList [] old.toList (by simp; omega)
  simp only [List.length_nil, List.nil_append, Array.toArray_toList] at this
  rw [← Array.foldl_toList, Array.toList_zipIdx]
  exact congrArg some this
section
variable {P : Program}
theorem wp_build1 {o : Oper} {a : Act} {w : World} {K : Act → World → Prop} {Q : Exit → Act → World → Prop} {t e : TypeId} {size bytes : Nat} (T : SlTy P t e size bytes) (hsz : size ≤ 1000) {x : Operand} (ho : o.op = .buildSlice t 1 #[(0, x)]) {cs : Array Value} (hx : a.eval x = .agg cs) (hn : cs.size = size)
    (h : K (a.put o.dst (.slice (some ⟨w.heap.size, 0, none⟩) 1 1)) (w.alloc (.cells cs e))) : o.wp P a w K Q := by
  obtain ⟨ht, ⟨i, z, hi, hz, hsize, _, hzs⟩, h0, _⟩ := T
  refine wp_buildSlice t e 1 #[(0, x)] ho cs i z ht hi hz (by rw [hsize]; omega) (by rw [hsize]; omega) ?_ h
  rw [hsize]
  have := fill_one ((Array.range (1 * size)).map (z.cells[· % z.cells.size]!)) cs size (by simp) hn
  simpa [hx] using this
theorem wpList_build1 {ops : Array Oper} {rest : List Oper} {o : Oper} {a : Act} {w : World} {Q : Exit → Act → World → Prop} (hgd : o.guard = none) {t e : TypeId} {size bytes : Nat} (T : SlTy P t e size bytes) (hsz : size ≤ 1000) {x : Operand} (ho : o.op = .buildSlice t 1 #[(0, x)]) {cs : Array Value} (hx : a.eval x = .agg cs) (hn : cs.size = size)
    (h : wpList P ops Q rest (a.put o.dst (.slice (some ⟨w.heap.size, 0, none⟩) 1 1)) (w.alloc (.cells cs e))) : wpList P ops Q (o :: rest) a w :=
  wpList_plain hgd fun _ hK => wp_build1 T hsz ho hx hn (hK _ _ h)
end
/-- A new block of one digest. -/
theorem Reads.newD (w : World) (e : TypeId) (d : List UInt8) (h : d.length = 16) {g : Nat} (hg : g = w.heap.size) : Reads (w.alloc (.cells (d.map u8v).toArray e)) 16 (.slice (some ⟨g, 0, none⟩) 1 1) 1 (d.map u8v) := by
  subst hg
  refine ⟨by rw [List.length_map, h], _, 1, rfl, Nat.le_refl _, by unfold maxLen; omega, fun _ => ⟨_, 0, rfl, fun j u hu => ?_⟩⟩
  rw [Nat.zero_add, (Blk.new w e _).cell]
  simpa using hu
/-- A slice of digests of the call's own, that grows. -/
structure GD (w0 : World) (B : Nat) (v : Value) (n : Nat) (ds : List (List UInt8)) (wr : World) : Prop where
  own : wr.ownsRow B 23 16 v n (dcells ds)
  all : D16 ds
  ext : Ext w0 wr
  base : w0.heap.size ≤ B
  room : B ≤ wr.heap.size
theorem GD.nil {w0 wr : World} {B : Nat} (hE : Ext w0 wr) (hB : w0.heap.size ≤ B) (hR : B ≤ wr.heap.size) : GD w0 B (.slice none 0 0) 0 [] wr := ⟨World.ownsRow_nil _ _ _ _, D16.nil, hE, hB, hR⟩
theorem GD.len {w0 wr : World} {B n : Nat} {v : Value} {ds : List (List UInt8)} (h : GD w0 B v n ds wr) : ds.length = n := by have := h.own.1; rw [dcells_length h.all] at this; omega
theorem GD.to {w0 wr w1 : World} {B n : Nat} {v : Value} {ds : List (List UInt8)} (h : GD w0 B v n ds wr) (hE : Ext wr w1) : GD w0 B v n ds w1 := ⟨ownsRow_ext h.own hE, h.all, h.ext.trans hE, h.base, Nat.le_trans h.room hE.size'⟩
theorem GD.step {w0 wr w1 w2 : World} {B n n' : Nat} {v v' : Value} {ds : List (List UInt8)} {d : List UInt8} (hd : d.length = 16) (h : GD w0 B v n ds wr) (hE : Ext wr w1) (hc : Chg (fun k => v.ownBlock = some k) w1 w2) (ho : w2.ownsRow B 23 16 v' n' (dcells ds ++ d.map u8v)) : GD w0 B v' n' (ds ++ [d]) w2 :=
  ⟨by rw [dcells_append, dcells_one]; exact ho, h.all.append (D16.one hd), (h.ext.trans hE).trans' hc (fun _ _ h => h) (fun i hi e => by have := (h.own.lt i e).1; have := h.base; omega), h.base, Nat.le_trans h.room (Nat.le_trans hE.size' hc.size)⟩
theorem GD.digs {w0 wr : World} {B n : Nat} {v : Value} {ds : List (List UInt8)} (h : GD w0 B v n ds wr) : Digs wr v ds := ⟨h.all, by have := Reads.of_own h.own; rwa [← h.len] at this⟩
theorem GD.form {w0 wr : World} {B n : Nat} {v : Value} {ds : List (List UInt8)} (h : GD w0 B v n ds wr) : ∃ A c, v = .slice A n c := own_slice h.own

end Go.Proofs.YtjemfefkgfoikaaDoor

/-
  Slices of slices, of digests; blocks of digests: small laws.
-/
namespace Go.Proofs.YtjemfefkgfoikaaDoor
open Go.RowKit

theorem Parts.two {w : World} {pv a b : Value} {la lb : List UInt8} (h : Reads w 1 pv 2 [a, b]) (ha : Reads w 1 a la.length (la.map u8v)) (hb : Reads w 1 b lb.length (lb.map u8v)) : Parts w pv [la, lb] :=
  ⟨[a, b], rfl, h, fun i p hp => by
    match i, hp with
    | 0, hp => cases hp; exact ⟨_, rfl, ha⟩
    | 1, hp => cases hp; exact ⟨_, rfl, hb⟩
    | i + 2, hp => simp at hp⟩
theorem Parts.one {w : World} {pv a : Value} {la : List UInt8} (h : Reads w 1 pv 1 [a]) (ha : Reads w 1 a la.length (la.map u8v)) : Parts w pv [la] :=
  ⟨[a], rfl, h, fun i p hp => by
    match i, hp with
    | 0, hp => cases hp; exact ⟨_, rfl, ha⟩
    | i + 1, hp => simp at hp⟩
/-- The slice of a whole digest's block. -/
theorem Blk.digR {w : World} {g : Nat} {t : TypeId} {d : List UInt8} (h : Blk w g t (d.map u8v).toArray) (hd : d.length = 16) : Reads w 1 (.slice (some ⟨g, 0, none⟩) 16 16) d.length (d.map u8v) := by
  have := Reads.of_blk h (i := 0) (n := 16) (c := 16) (by simp; omega) (by omega) (by unfold maxLen; omega)
  simp only [List.drop_zero] at this
  rw [List.take_of_length_le (by simp; omega)] at this
  rw [hd]
  exact this
theorem Reads.new2 (w : World) (a b : Value) (e : TypeId) {g : Nat} (hg : g = w.heap.size) : Reads (w.alloc (.cells #[a, b] e)) 1 (.slice (some ⟨g, 0, none⟩) 2 2) 2 [a, b] := by
  subst hg
  exact Reads.of_blk (Blk.new w e #[a, b]) (i := 0) (n := 2) (c := 2) (by simp) (by omega) (by unfold maxLen; omega)

theorem ShaMem.lt {w : World} (h : ShaMem w) : 1 < w.heap.size ∧ 0 < w.heap.size := ⟨lt_of_cell (h.k 0 _ rfl), lt_of_cell (h.h 0 _ rfl)⟩
theorem ShaMem.past {w0 w w' : World} {B : Nat} (h0 : ShaMem w0) (hB : w0.heap.size ≤ B) (h : ShaMem w) (hc : Chg (fun k => B ≤ k) w w') : ShaMem w' := h.chg hc (by have := h0.lt; omega) (by have := h0.lt; omega)
theorem mkfun (fn : Fn) (first cap : Array Value) (w : World) : (Instr.makeFunc fn first cap).run Tryd.prog w = .ok (.func fn first cap) w := rfl
theorem Digs.chg {S : Nat → Prop} {w w' : World} {v : Value} {ds : List (List UInt8)} (h : Digs w v ds) (hc : Chg S w w') (hS : ∀ k, v.ownBlock = some k → ¬ S k) : Digs w' v ds := ⟨h.1, h.2.chg hc (fun k _ hk => hS k hk)⟩
theorem ownsRow_base {w : World} {B B' : Nat} {e : TypeId} {size : Nat} {v : Value} {n : Nat} {xs : List Value} (h : w.ownsRow B e size v n xs) (hb : B' ≤ B) : w.ownsRow B' e size v n xs := by
  refine ⟨h.1, ?_⟩
  rcases h.2 with h | ⟨g, cap, cur, h1, h2, h3⟩
  · exact .inl h
  · exact .inr ⟨g, cap, cur, h1, Nat.le_trans hb h2, h3⟩
/-- Two results, the first in a block of its own. -/
theorem results_two {P : Program} {fn : Func} {i j : Tmp} {T : TypeId} {n : Nat} (W : Wide P T n) (hf : fn.results = #[.cell i T, .tmp j]) {tmps : Array Value} {w : World} {b : Nat} {t : TypeId} {cs : Array Value} (hB : Blk w b t cs) (hn : cs.size = n) (ei : tmps.getD i undef = .pointer (some ⟨b, 0, none⟩)) {v : Value} (ej : tmps.getD j undef = v) :
    (results fn tmps).run P w = .ok (.tuple #[.agg cs, v]) w := by
  have h1 := loadVar_blk hB W hn
  subst ej
  simp only [Array.getD_eq_getD_getElem?] at ei
  simp [results, hf, ei, asAddr, h1]
theorem Digs.own_lt {w : World} {v : Value} {ds : List (List UInt8)} (h : Digs w v ds) (hn : 0 < ds.length) : ∀ k, v.ownBlock = some k → k < w.heap.size := h.2.own_lt (by omega) hn
theorem Reads.new1' (w : World) (u : Value) (e : TypeId) {g : Nat} (hg : g = w.heap.size) : Reads (w.alloc (.cells #[u] e)) 1 (.slice (some ⟨g, 0, none⟩) 1 1) 1 [u] := by subst hg; exact Reads.new1 w u e

end Go.Proofs.YtjemfefkgfoikaaDoor

/-
  wots.advance, wots.start, the law's step.
-/
namespace Go.Proofs.YtjemfefkgfoikaaDoor
open Go.RowKit

set_option maxRecDepth 100000 in
set_option maxHeartbeats 2000000 in
theorem lstep_any (k : Nat) (v : List UInt8) (w : World) (hM : ShaMem w) (hv : v.length = 16) (hk : k < 1000) :
    Calls Tryd.prog 25 #[.int .i64 (k : Int), .agg (v.map u8v).toArray] w fun e w' => e = .returned (.agg ((stepS k v).map u8v).toArray) ∧ Ext w w' := by
  have HM := hide hM
  have HW := hide (fun w => wint_any (k : Int) w (by omega) (by omega))
  have HD := hide (fun (W : World) (A : Option Addr) (c : Nat) (pv : Value) (hE : Ext w W) (h1 : Reads W 1 pv 2 [.slice A (wInt k).length c, .slice (some ⟨w.heap.size, 0, none⟩) 16 16]) (h2 : Reads W 1 (.slice A (wInt k).length c) (wInt k).length ((wInt k).map u8v)) (h3 : Blk W w.heap.size 23 (v.map u8v).toArray) =>
    digest_any 3 [wInt k, v] pv W (hM.ext hE) (Parts.two h1 h2 (h3.digR hv)) (by simp) (fun p hp => by have := wInt_length (k : Int); simp at hp; rcases hp with rfl | rfl <;> omega))
  obtain ⟨arr, harr⟩ : ∃ r, (v.map u8v).toArray = r := ⟨_, rfl⟩
  rw [harr] at HD ⊢
  obtain ⟨res, hres⟩ : ∃ r, stepS k v = r := ⟨_, rfl⟩
  have HR := hide (And.intro hres (show res.length = 16 from by rw [← hres]; exact digestS_length _ _))
  rw [hres]
  clear hM harr hres
  go_enter Tryd.func25, Tryd.ntmps25
  go_upto_region 1 with fail
  go_region_law (first
    | (go_simp; go_at_call 48; refine (unhide HW _).mono ?_; rintro e w3 ⟨A3, c3, rfl, ho3, hE3⟩; have H3 := hide (And.intro (Reads.of_own ho3) hE3); clear ho3 hE3)
    | (rename_i K hK; go_simp; go_at_call 26; refine (unhide HD _ A3 c3 _ ((((Ext.refl w).alloc _).alloc _).drew.trans (unhide H3).2 |>.alloc _) (Reads.new2 _ _ _ _ rfl) ((unhide H3).1.ext ((Ext.refl _).alloc _)) ((((Blk.new w _ _).alloc _).drew.ext (unhide H3).2).alloc _)).mono ?_
       rintro e w5 ⟨rfl, hE5⟩
       rw [show digestS 3 [wInt k, v] = res from (unhide HR).1]
       have H5 := hide (((((Ext.refl w).alloc _).alloc _).drew.trans (unhide H3).2 |>.alloc _).trans hE5)
       have HB := hide ((((Blk.new' (w.alloc (.cells arr 23)) 23 (Array.replicate 16 (.int .u8 0)) (g := w.heap.size + 1) (by simp)).drew.ext (unhide H3).2).alloc _).ext hE5)
       clear hE5
       dsimp only
       refine hK _ _ ?_
       clear hK K
       refine wpAny_ready (rs := [5]) (by kernel_rfl) (by simp) (AllReady.cons rfl (fun J hJ => ?_) AllReady.nil)
       refine step_storeB (ty := 23) (t := 23) (x := .tmp 4) (y := .tmp 9) rfl rfl digest_wide rfl rfl (unhide HB) rfl (by simpa using (unhide HR).2) (bytes_one _) ?_
       intro w6 hb6 hc6 hz6
       have H6 := hide (And.intro hb6 hc6)
       clear hb6 hc6 hz6
       refine hJ _ _ ?_
       clear hJ J))
  go_wp2
  refine bodyPost_ret (v := .agg (res.map u8v).toArray) (results_blk digest_wide rfl (unhide H6).1 (by simpa using (unhide HR).2) rfl) rfl ⟨rfl, ?_⟩
  exact (unhide H5).trans' (unhide H6).2 (fun _ _ h => h) (fun i hi e => by omega)

end Go.Proofs.YtjemfefkgfoikaaDoor

/-
  wots.advance, wots.start.
-/
namespace Go.Proofs.YtjemfefkgfoikaaDoor
open Go.RowKit

set_option maxRecDepth 100000 in
set_option maxHeartbeats 4000000 in
theorem adv_any (k n : Nat) (v : List UInt8) (w : World) (hM : ShaMem w) (hv : v.length = 16) (hk : k < 1000) (hn : n < 1000) :
    Calls Tryd.prog 42 #[.int .i64 (k : Int), .agg (v.map u8v).toArray, .int .i64 (n : Int)] w fun e w' => e = .returned (.agg ((advS k v n).map u8v).toArray) ∧ Ext w w' := by
  have HM := hide hM
  have HW := hide (fun w => wint_any (k : Int) w (by omega) (by omega))
  have HD := hide (fun (j : Nat) (W : World) (A : Option Addr) (c : Nat) (pv : Value) (hE : Ext w W) (h1 : Reads W 1 pv 2 [.slice A (wInt k).length c, .slice (some ⟨w.heap.size, 0, none⟩) 16 16]) (h2 : Reads W 1 (.slice A (wInt k).length c) (wInt k).length ((wInt k).map u8v)) (h3 : Blk W w.heap.size 23 ((advS k v j).map u8v).toArray) =>
    digest_any 3 [wInt k, advS k v j] pv W (hM.ext hE) (Parts.two h1 h2 (h3.digR (advS_length k v hv j))) (by simp) (fun p hp => by have := wInt_length (k : Int); have := advS_length k v hv j; simp at hp; rcases hp with rfl | rfl <;> omega))
  have HL := hide (advS_length k v hv)
  have HS := hide (fun j => show digestS 3 [wInt k, advS k v j] = advS k v (j + 1) from rfl)
  obtain ⟨F, hF⟩ : ∃ F, advS k v = F := ⟨_, rfl⟩
  rw [hF] at HD HL HS ⊢
  have h0 : F 0 = v := by rw [← hF]; rfl
  clear hM
  go_enter Tryd.func42, Tryd.ntmps42
  go_wp2_with fail
  go_loopw [8] (fun i wr => ∃ j : Nat, j ≤ n ∧ i = .int .i64 j ∧ Hid (Blk wr w.heap.size 23 ((F j).map u8v).toArray ∧ Blk wr (w.heap.size + 1) 23 (Array.replicate 16 (.int .u8 0)) ∧ Ext w wr)) (fun i _ => n - (intOf i).toNat)
  case atStart => exact ⟨0, by omega, rfl, hide ⟨by rw [h0]; exact (Blk.new w _ _).alloc _, Blk.new' _ _ _ (by simp), ((Ext.refl w).alloc _).alloc _⟩⟩
  case round =>
    obtain ⟨j, hj, rfl, HI⟩ := hrel
    by_cases hlt : j < n
    · have HJ := hide (unhide HS j)
      have HL1 := hide (unhide HL (j + 1))
      have HLj := hide (unhide HL j)
      have HDj := hide (unhide HD j)
      go_upto_region 3 with fail
      go_region_law (first
        | (go_simp; go_at_call 48; refine (unhide HW _).mono ?_; rintro e w3 ⟨A3, c3, rfl, ho3, hE3⟩; have H3 := hide (And.intro (Reads.of_own ho3) (((Ext.refl wr).drew).trans hE3)); clear ho3 hE3)
        | (rename_i K hK; go_simp; go_at_call 26; refine (unhide HDj _ A3 c3 _ (((unhide HI).2.2.trans (unhide H3).2).alloc _) (Reads.new2 _ _ _ _ rfl) ((unhide H3).1.ext ((Ext.refl _).alloc _)) (((unhide HI).1.ext (unhide H3).2).alloc _)).mono ?_
           rintro e w5 ⟨rfl, hE5⟩
           rw [unhide HJ]
           have H5 := hide (((unhide H3).2.alloc _).trans hE5)
           clear hE5
           dsimp only
           refine hK _ _ ?_
           clear hK K
           refine wpAny_ready (rs := [5]) (by kernel_rfl) (by simp) (AllReady.cons rfl (fun J hJ => ?_) AllReady.nil)
           refine step_storeB (ty := 23) (t := 23) (x := .tmp 4) (y := .tmp 14) rfl rfl digest_wide rfl rfl ((unhide HI).1.ext (unhide H5)) (by simpa using unhide HLj) (by simpa using unhide HL1) (bytes_one _) ?_
           intro w6 hb6 hc6 hz6
           have H6 := hide (And.intro hb6 hc6)
           clear hb6 hc6 hz6
           refine hJ _ _ ?_
           clear hJ J))
      go_wp2
      go_roundw
      case rel => exact ⟨j + 1, by omega, by go_num, hide ⟨(unhide H6).1, ((unhide HI).2.1.ext (unhide H5)).chg (unhide H6).2 (by omega), ((unhide HI).2.2.trans (unhide H5)).trans' (unhide H6).2 (fun _ _ h => h) (fun i hi e => by omega)⟩⟩
      case measure => simp [intOf]; omega
    · obtain rfl : j = n := by omega
      go_wp2_with (first
        | (refine wpList_loadB (ty := 23) (t := 23) (x := .tmp 4) rfl rfl digest_wide rfl (unhide HI).1 (by simpa using unhide HL j) ?_)
        | (refine wpList_storeB (ty := 23) (t := 23) (x := .tmp 6) (y := .tmp 16) rfl rfl digest_wide rfl rfl (unhide HI).2.1 rfl (by simpa using unhide HL j) (bytes_one _) ?_; intro w7 hb7 hc7 hz7; have H7 := hide (And.intro hb7 hc7); clear hb7 hc7 hz7))
      refine bodyPost_ret (v := .agg ((F j).map u8v).toArray) (results_blk digest_wide rfl (unhide H7).1 (by simpa using unhide HL j) rfl) rfl ⟨rfl, ?_⟩
      exact (unhide HI).2.2.trans' (unhide H7).2 (fun _ _ h => h) (fun i hi e => by omega)

set_option maxRecDepth 100000 in
set_option maxHeartbeats 4000000 in
theorem start_any (k : Nat) (seed : List UInt8) (index : Int) (w : World) (hM : ShaMem w) (hv : seed.length = 16) (hk : k < 1000) (h1 : -9223372036854775808 ≤ index) (h2 : index < 9223372036854775808) :
    Calls Tryd.prog 46 #[.agg (seed.map u8v).toArray, .int .i64 index, .int .i64 (k : Int)] w fun e w' => e = .returned (.agg ((startS seed index k).map u8v).toArray) ∧ Ext w w' := by
  have HM := hide hM
  have HW := hide (fun w => wint_any index w h1 h2)
  have HW2 := hide (fun w => wint_any (k : Int) w (by omega) (by omega))
  have HD := hide (fun (W : World) (A A' : Option Addr) (c c' : Nat) (pv : Value) (hE : Ext w W) (h1 : Reads W 1 pv 2 [.slice A (wInt index).length c, .slice A' (wInt k).length c']) (h2 : Reads W 1 (.slice A (wInt index).length c) (wInt index).length ((wInt index).map u8v)) (h2' : Reads W 1 (.slice A' (wInt k).length c') (wInt k).length ((wInt k).map u8v)) (h3 : Blk W w.heap.size 23 (seed.map u8v).toArray) =>
    derive_any seed (.slice (some ⟨w.heap.size, 0, none⟩) 16 16) ⟨#[119, 111, 116, 115]⟩ [wInt index, wInt k] pv W (hM.ext hE) (h3.digR hv) (by omega) (by decide) (Parts.two h1 h2 h2') (by simp) (fun p hp => by have := wInt_length (k : Int); have := wInt_length index; simp at hp; rcases hp with rfl | rfl <;> omega))
  obtain ⟨arr, harr⟩ : ∃ r, (seed.map u8v).toArray = r := ⟨_, rfl⟩
  rw [harr] at HD ⊢
  obtain ⟨res, hres⟩ : ∃ r, startS seed index k = r := ⟨_, rfl⟩
  have HR := hide (And.intro hres (show res.length = 16 from by rw [← hres]; exact startS_length _ _ _))
  rw [hres]
  clear hM harr hres h1 h2
  have HT := hide True.intro
  go_enter Tryd.func46, Tryd.ntmps46
  go_upto_region 1 with fail
  go_region_law (first
    | (clear HT; go_simp; go_at_call 48; refine (unhide HW _).mono ?_; rintro e w3 ⟨A3, c3, rfl, ho3, hE3⟩; have H3 := hide (And.intro (Reads.of_own ho3) hE3); clear ho3 hE3)
    | (go_simp; go_at_call 48; refine (unhide HW2 _).mono ?_; rintro e w4 ⟨A4, c4, rfl, ho4, hE4⟩; have H4 := hide (And.intro (Reads.of_own ho4) hE4); clear ho4 hE4)
    | (rename_i K hK; go_simp; go_at_call 67; refine (unhide HD _ A3 A4 c3 c4 _ (((((Ext.refl w).alloc _).alloc _).drew.trans ((unhide H3).2.trans (unhide H4).2)).alloc _) (Reads.new2 _ _ _ _ rfl) (((unhide H3).1.ext (unhide H4).2).ext ((Ext.refl _).alloc _)) ((unhide H4).1.ext ((Ext.refl _).alloc _)) ((((Blk.new w _ _).alloc _).drew.ext ((unhide H3).2.trans (unhide H4).2)).alloc _)).mono ?_
       rintro e w5 ⟨rfl, hE5⟩
       rw [show deriveS seed (⟨#[119, 111, 116, 115]⟩ : ByteArray).data.toList [wInt index, wInt k] = res from (unhide HR).1]
       have H5 := hide ((((((Ext.refl w).alloc _).alloc _).drew.trans ((unhide H3).2.trans (unhide H4).2)).alloc _).trans hE5)
       have HB := hide ((((Blk.new' (w.alloc (.cells arr 23)) 23 (Array.replicate 16 (.int .u8 0)) (g := w.heap.size + 1) (by simp)).drew.ext ((unhide H3).2.trans (unhide H4).2)).alloc _).ext hE5)
       clear hE5
       dsimp only
       refine hK _ _ ?_
       clear hK K
       refine wpAny_ready (rs := [7]) (by kernel_rfl) (by simp) (AllReady.cons rfl (fun J hJ => ?_) AllReady.nil)
       refine step_storeB (ty := 23) (t := 23) (x := .tmp 6) (y := .tmp 13) rfl rfl digest_wide rfl rfl (unhide HB) rfl (by simpa using (unhide HR).2) (bytes_one _) ?_
       intro w6 hb6 hc6 hz6
       have H6 := hide (And.intro hb6 hc6)
       clear hb6 hc6 hz6
       refine hJ _ _ ?_
       clear hJ J))
  go_wp2
  refine bodyPost_ret (v := .agg (res.map u8v).toArray) (results_blk digest_wide rfl (unhide H6).1 (by simpa using (unhide HR).2) rfl) rfl ⟨rfl, ?_⟩
  exact (unhide H5).trans' (unhide H6).2 (fun _ _ h => h) (fun i hi e => by omega)

end Go.Proofs.YtjemfefkgfoikaaDoor

/-
  One-time signatures: other chain values that lead to the same key hide a collision.
-/
namespace Go.Proofs.YtjemfefkgfoikaaDoor

/-- Up to step n the two chains never meet. -/
def Apart (k : Nat) (a b : List UInt8) (n : Nat) : Prop := ∀ i, i < n → advS k a i ≠ advS k b i → advS k a (i + 1) ≠ advS k b (i + 1)
theorem apart_end {k : Nat} {a b : List UInt8} : ∀ {n : Nat}, Apart k a b n → a ≠ b → advS k a n ≠ advS k b n
  | 0, _, h => h
  | n + 1, ha, h => ha n (by omega) (apart_end (fun i hi => ha i (by omega)) h)
theorem endsS_step (f : Nat → List UInt8) (n : Nat) : endsS f (n + 1) = endsS f n ++ f n := by unfold endsS; rw [List.range_succ, List.flatMap_append]; simp
theorem endsS_length (f : Nat → List UInt8) (h : ∀ k, (f k).length = 16) : ∀ n, (endsS f n).length = 16 * n
  | 0 => rfl
  | n + 1 => by rw [endsS_step, List.length_append, endsS_length f h n, h]; omega
theorem ends_inj (f g : Nat → List UInt8) (hf : ∀ k, (f k).length = 16) (hg : ∀ k, (g k).length = 16) : ∀ n, endsS f n = endsS g n → ∀ k, k < n → f k = g k
  | 0, _ => fun k hk => by omega
  | n + 1, h => by
    rw [endsS_step, endsS_step] at h
    obtain ⟨h1, h2⟩ := List.append_inj h (by rw [endsS_length f hf, endsS_length g hg])
    intro k hk
    rcases Nat.lt_or_ge k n with hlt | hge
    · exact ends_inj f g hf hg n h1 k hlt
    · obtain rfl : k = n := by omega
      exact h2
/-- Where no chain of the two meets, the ends differ if the chain values do. -/
theorem ends_apart (c d : Nat → List UInt8) (l : Nat → Nat) (hc : ∀ k, (c k).length = 16) (hd : ∀ k, (d k).length = 16) (ha : ∀ k, k < 68 → Apart k (c k) (d k) (l k)) (hne : ∃ k, k < 68 ∧ c k ≠ d k) :
    endsS (fun k => advS k (c k) (l k)) 68 ≠ endsS (fun k => advS k (d k) (l k)) 68 := by
  intro he
  obtain ⟨k, hk, hn⟩ := hne
  have := ends_inj _ _ (fun k => advS_length k _ (hc k) _) (fun k => advS_length k _ (hd k) _) 68 he k hk
  exact apart_end (ha k hk) hn this

end Go.Proofs.YtjemfefkgfoikaaDoor

/-
  Cells of slices of bytes and of words.
-/
namespace Go.Proofs.YtjemfefkgfoikaaDoor
open Go.RowKit

theorem Reads.at_ {w : World} {b o n c : Nat} {xs : List Value} (h : Reads w 1 (.slice (some ⟨b, o, none⟩) n c) n xs) {j : Nat} {u : Value} (hj : xs[j]? = some u) : w.cell? ⟨b, o + j, none⟩ = some u := by
  obtain ⟨hl, A, c', e, _, _, hc⟩ := h
  have hjl : j < xs.length := by
    rcases Nat.lt_or_ge j xs.length with h | h
    · exact h
    · rw [List.getElem?_eq_none h] at hj; cases hj
  obtain ⟨b', o', e', hcc⟩ := hc (by omega)
  cases e
  cases e'
  exact hcc j u hj
theorem Reads.byteAt {w : World} {b o n c : Nat} {l : List UInt8} (h : Reads w 1 (.slice (some ⟨b, o, none⟩) n c) n (l.map u8v)) {j : Nat} (hj : j < l.length) : w.cell? ⟨b, o + j, none⟩ = some (.int .u8 ((l.getD j 0).toNat : Int)) :=
  h.at_ (by rw [List.getElem?_map, List.getD_eq_getElem?_getD, List.getElem?_eq_getElem hj]; rfl)
theorem Reads.wordAt {w : World} {b o n c : Nat} {l : List UInt32} (h : Reads w 1 (.slice (some ⟨b, o, none⟩) n c) n (l.map w32)) {j : Nat} (hj : j < l.length) : w.cell? ⟨b, o + j, none⟩ = some (.int .u32 ((l.getD j 0).toNat : Int)) :=
  h.at_ (by rw [List.getElem?_map, List.getD_eq_getElem?_getD, List.getElem?_eq_getElem hj]; rfl)
theorem Reads.slice_lt {w : World} {b o n c : Nat} {xs : List Value} (h : Reads w 1 (.slice (some ⟨b, o, none⟩) n c) n xs) (hn : 0 < n) : b < w.heap.size ∧ n ≤ c ∧ c ≤ maxLen := by
  obtain ⟨b', o', c', u, e, h1, h2, h3, _⟩ := h.at1 hn
  cases e
  exact ⟨h3, h1, h2⟩

/-- A slice of bytes of the call's own, that grows: its block lies at B or above, nothing that was there at w0 has changed. -/
structure GB (w0 : World) (B : Nat) (v : Value) (n : Nat) (l : List UInt8) (wr : World) : Prop where
  own : wr.ownsRow B 5 1 v n (l.map u8v)
  ext : Ext w0 wr
  base : w0.heap.size ≤ B
  room : B ≤ wr.heap.size
theorem GB.nil {w0 wr : World} {B : Nat} (hE : Ext w0 wr) (hB : w0.heap.size ≤ B) (hR : B ≤ wr.heap.size) : GB w0 B (.slice none 0 0) 0 [] wr := ⟨World.ownsRow_nil _ _ _ _, hE, hB, hR⟩
theorem GB.len {w0 wr : World} {B n : Nat} {v : Value} {l : List UInt8} (h : GB w0 B v n l wr) : l.length = n := by have := h.own.1; simpa using this
theorem GB.to {w0 wr w1 : World} {B n : Nat} {v : Value} {l : List UInt8} (h : GB w0 B v n l wr) (hE : Ext wr w1) : GB w0 B v n l w1 := ⟨ownsRow_ext h.own hE, h.ext.trans hE, h.base, Nat.le_trans h.room hE.size'⟩
theorem GB.step {w0 wr w1 w2 : World} {B n n' : Nat} {v v' : Value} {l l' : List UInt8} (h : GB w0 B v n l wr) (hE : Ext wr w1) (hc : Chg (fun k => v.ownBlock = some k) w1 w2) (ho : w2.ownsRow B 5 1 v' n' (l'.map u8v)) : GB w0 B v' n' l' w2 :=
  ⟨ho, (h.ext.trans hE).trans' hc (fun _ _ h => h) (fun i hi e => by have := (h.own.lt i e).1; have := h.base; omega), h.base, Nat.le_trans h.room (Nat.le_trans hE.size' hc.size)⟩
theorem GB.blk {w0 wr w1 w2 : World} {B n : Nat} {v : Value} {l : List UInt8} (h : GB w0 B v n l wr) (hE : Ext wr w1) (hc : Chg (fun k => v.ownBlock = some k) w1 w2) {g : Nat} {t : TypeId} {cs : Array Value} (hb : Blk wr g t cs) (hg : g < B) : Blk w2 g t cs :=
  (hb.ext hE).chg hc (fun e => by have := (h.own.lt g e).1; omega)
theorem GB.reads {w0 wr : World} {B n : Nat} {v : Value} {l : List UInt8} (h : GB w0 B v n l wr) : Reads wr 1 v n (l.map u8v) := Reads.of_own h.own

/-- Bytes, and zeros behind them up to n. -/
def bytesTo (n : Nat) (l : List UInt8) : Array Value := (l.map u8v ++ List.replicate (n - l.length) (Value.int .u8 0)).toArray
theorem bytesTo_get {n : Nat} {l : List UInt8} {i : Nat} (h : i < l.length) : (bytesTo n l)[i]? = some (.int .u8 ((l.getD i 0).toNat : Int)) := by
  unfold bytesTo
  rw [List.getElem?_toArray, List.getElem?_append_left (by simpa using h), List.getElem?_map, List.getD_eq_getElem?_getD, List.getElem?_eq_getElem h]
  rfl
theorem bytesTo_zero_at {n : Nat} {l : List UInt8} {i : Nat} (h : l.length ≤ i) (hi : i < n) : (bytesTo n l)[i]? = some (.int .u8 0) := by
  unfold bytesTo
  rw [List.getElem?_toArray, List.getElem?_append_right (by simpa using h), List.getElem?_replicate, if_pos (by simp; omega)]
theorem bytesTo_set {n k : Nat} {l : List UInt8} (x : UInt8) (hl : l.length = k) (h : k < n) : (bytesTo n l).setIfInBounds k (.int .u8 (x.toNat : Int)) = bytesTo n (l ++ [x]) := by
  subst hl
  unfold bytesTo
  rw [show n - l.length = (n - (l ++ [x]).length) + 1 from by simp; omega, List.replicate_succ]
  simp [u8v]
theorem bytesTo_nil (n : Nat) : bytesTo n [] = Array.replicate n (Value.int .u8 0) := by
  unfold bytesTo
  simp
theorem bytesTo_size {n : Nat} {l : List UInt8} (h : l.length ≤ n) : (bytesTo n l).size = n := by
  unfold bytesTo
  simp
  omega
theorem bytesTo_all {n : Nat} {l : List UInt8} (h : l.length = n) : bytesTo n l = (l.map u8v).toArray := by
  unfold bytesTo
  rw [h, Nat.sub_self]
  simp

end Go.Proofs.YtjemfefkgfoikaaDoor

/-
  wots.key, at whatever function value.
-/
namespace Go.Proofs.YtjemfefkgfoikaaDoor
open Go.RowKit

/-- A function value that yields the digest f k for k, and what it leans on. -/
structure EndEnv (F : FuncId) (caps : Array Value) (f : Nat → List UInt8) (Inv : World → Prop) (B : Nat) : Prop where
  call : ∀ (args : Array Value) (w : World), (callFunc F args).run Tryd.prog w = .ok (.enter F args) w
  step : ∀ (k : Nat) (w : World), k < 68 → Inv w → Calls Tryd.prog F (#[.int .i64 (k : Int)] ++ caps) w fun e w' => e = .returned (.agg ((f k).map u8v).toArray) ∧ Ext w w'
  keep : ∀ w w', Inv w → Chg (fun k => B ≤ k) w w' → Inv w'
  len : ∀ k, (f k).length = 16

set_option maxRecDepth 100000 in
set_option maxHeartbeats 4000000 in
theorem key_any {F : FuncId} {caps : Array Value} {f : Nat → List UInt8} {Inv : World → Prop} {B : Nat} (E : EndEnv F caps f Inv B) (w : World) (hB : B ≤ w.heap.size) (hM : ShaMem w) (hI : Inv w) :
    Calls Tryd.prog 40 #[.func (.func F) #[] caps] w fun e w' => e = .returned (.agg ((keyOf f).map u8v).toArray) ∧ Ext w w' := by
  have HM := hide hM
  have HE := hide E
  have hc := E.call
  have HI0 := hide hI
  have HD := hide (fun (W : World) (A : Option Addr) (c : Nat) (pv : Value) (hE : Ext w W) (h1 : Reads W 1 pv 1 [.slice A (endsS f 68).length c]) (h2 : Reads W 1 (.slice A (endsS f 68).length c) (endsS f 68).length ((endsS f 68).map u8v)) =>
    digest_any 4 [endsS f 68] pv W (hM.ext hE) (Parts.one h1 h2) (by simp) (fun p hp => by have := endsS_length f E.len 68; simp at hp; subst hp; omega))
  have HLE := hide (endsS_length f E.len 68)
  have HK := hide (show digestS 4 [endsS f 68] = keyOf f ∧ (keyOf f).length = 16 from ⟨rfl, digestS_length _ _⟩)
  clear hM hI E
  obtain ⟨key, hkey⟩ : ∃ r, keyOf f = r := ⟨_, rfl⟩
  rw [hkey] at HK ⊢
  clear hkey
  go_enter Tryd.func40, Tryd.ntmps40
  go_wp2_with fail
  go_loopw [3, 6] (fun b i wr => ∃ (k : Nat) (A : Option Addr) (c : Nat), k ≤ 68 ∧ i = .int .i64 k ∧ b = .slice A (16 * k) c ∧ Hid (GB w (w.heap.size + 1) b (16 * k) (endsS f k) wr ∧ Inv wr ∧ Blk wr w.heap.size 23 (Array.replicate 16 (.int .u8 0)))) (fun _ i _ => 68 - (intOf i).toNat)
  case atStart => exact ⟨0, none, 0, by omega, rfl, rfl, hide ⟨GB.nil ((Ext.refl w).alloc _) (by omega) (by simp), (unhide HE).keep _ _ (unhide HI0) ((Ext.refl w).alloc _).chg, Blk.new w _ _⟩⟩
  case round =>
    obtain ⟨k, A, c, hk, rfl, rfl, HI⟩ := hrel
    by_cases hlt : k < 68
    · have HSt := hide ((unhide HE).step k wr hlt (unhide HI).2.1)
      have HEs := hide (endsS_step f k)
      have HL := hide ((unhide HE).len k)
      obtain ⟨d, hd⟩ : ∃ d, f k = d := ⟨_, rfl⟩
      rw [hd] at HSt HEs HL
      clear hd
      go_wp2_with fail
      refine (unhide HSt).mono ?_
      rintro e w1 ⟨rfl, hE1⟩
      have H1 := hide hE1
      clear hE1
      go_wp2_with (first
        | (refine wpList_storeB (ty := 23) (t := 23) (x := .tmp 5) (y := .tmp 11) rfl rfl digest_wide rfl rfl (Blk.new w1 _ _) rfl (by simpa using unhide HL) (bytes_one _) ?_; intro w2 hb2 hc2 hz2; have H2 := hide (And.intro hb2 (made_ext (unhide H1) hc2)); clear hb2 hc2 hz2)
        | (at_builtin; refine wpList_app rfl rfl u8_row rfl ((unhide HI).1.to (unhide H2).2).own rfl (by have := (unhide H2).1.digR (unhide HL); rw [unhide HL] at this; exact this) (AllOne.u8 d) (by omega) ((unhide HI).1.to (unhide H2).2).room ?_; intro A' c' w3 ho hc3 hv; have H3 := hide (And.intro ho hc3); clear ho hc3 hv))
      go_roundw
      case rel =>
        have hst : GB w (w.heap.size + 1) (.slice A' (16 * k + 16) c') (16 * k + 16) (endsS f k ++ d) w3 := (unhide HI).1.step (unhide H2).2 (unhide H3).2 (by have := (unhide H3).1; rw [← List.map_append] at this; exact this)
        have hX : Chg (fun k => B ≤ k) wr w3 := (unhide H2).2.trans' (unhide H3).2 (fun _ _ h => h.elim) (fun i hi e => by have := ((unhide HI).1.own.lt i e).1; omega)
        refine ⟨k + 1, A', c', by omega, by go_num, by congr 1, hide ⟨by rw [unhide HEs]; exact hst, (unhide HE).keep _ _ (unhide HI).2.1 hX, (unhide HI).1.blk (unhide H2).2 (unhide H3).2 (unhide HI).2.2 (by omega)⟩⟩
      case measure => simp [intOf]; omega
    · obtain rfl : k = 68 := by omega
      have HX := hide (show GB w (w.heap.size + 1) (.slice A (endsS f 68).length c) (endsS f 68).length (endsS f 68) wr from by rw [unhide HLE]; exact (unhide HI).1)
      have HZ := hide (unhide HI).2.2
      have e68 : 16 * 68 = (endsS f 68).length := (unhide HLE).symm
      rw [e68]
      clear HI e68
      go_wp2_with (first
        | (go_at_call 26; refine (unhide HD _ A c _ ((unhide HX).ext.alloc _) (Reads.new1 _ _ _) ((unhide HX).reads.ext ((Ext.refl _).alloc _))).mono ?_; rintro e w5 ⟨rfl, hE5⟩; rw [(unhide HK).1]; have H5 := hide (((Ext.refl wr).alloc _).trans hE5); clear hE5)
        | (refine wpList_storeB (ty := 23) (t := 23) (x := .tmp 2) (y := .tmp 18) rfl rfl digest_wide rfl rfl ((unhide HZ).ext (unhide H5)) rfl (by simpa using (unhide HK).2) (bytes_one _) ?_; intro w7 hb7 hc7 hz7; have H7 := hide (And.intro hb7 hc7); clear hb7 hc7 hz7))
      refine bodyPost_ret (v := .agg (key.map u8v).toArray) (results_blk digest_wide rfl (unhide H7).1 (by simpa using (unhide HK).2) rfl) rfl ⟨rfl, ?_⟩
      exact ((unhide HX).ext.trans (unhide H5)).trans' (unhide H7).2 (fun _ _ h => h) (fun i hi e => by omega)

end Go.Proofs.YtjemfefkgfoikaaDoor

/-
  wots.Public and wots.Recover.
-/
namespace Go.Proofs.YtjemfefkgfoikaaDoor
open Go.RowKit

def PubInv (seed : List UInt8) (index : Int) (bs bi : Nat) (w : World) : Prop := ShaMem w ∧ Blk w bs 23 (seed.map u8v).toArray ∧ w.cell? ⟨bi, 0, none⟩ = some (.int .i64 index)

set_option maxRecDepth 100000 in
set_option maxHeartbeats 4000000 in
theorem pub1_any (k : Nat) (seed : List UInt8) (index : Int) (bs bi : Nat) (w : World) (hv : seed.length = 16) (hk : k < 68) (h1 : -9223372036854775808 ≤ index) (h2 : index < 9223372036854775808) (hI : PubInv seed index bs bi w) :
    Calls Tryd.prog 45 #[.int .i64 (k : Int), .pointer (some ⟨bs, 0, none⟩), .pointer (some ⟨bi, 0, none⟩)] w fun e w' => e = .returned (.agg ((advS k (startS seed index k) 3).map u8v).toArray) ∧ Ext w w' := by
  obtain ⟨hM, hB, hc⟩ := hI
  have lbi := lt_of_cell hc
  simp only at lbi
  have HB := hide (hB.alloc (.cells (Array.replicate 16 (.int .u8 0)) 23))
  have HS := hide (start_any k seed index (w.alloc (.cells (Array.replicate 16 (.int .u8 0)) 23)) (hM.ext ((Ext.refl w).alloc _)) hv (by omega) h1 h2)
  have HA := hide (fun (W : World) (hE : Ext w W) => adv_any k 3 (startS seed index k) W (hM.ext hE) (startS_length _ _ _) (by omega) (by omega))
  have HL := hide (advS_length k (startS seed index k) (startS_length _ _ _) 3)
  have HZ := hide (Blk.new w 23 (Array.replicate 16 (.int .u8 0)))
  obtain ⟨d0, hd0⟩ : ∃ d, ((startS seed index k).map u8v).toArray = d := ⟨_, rfl⟩
  obtain ⟨d, hd⟩ : ∃ d, advS k (startS seed index k) 3 = d := ⟨_, rfl⟩
  rw [hd] at HA HL ⊢
  rw [hd0] at HA HS
  have HV := hide hv
  clear hM hB hd hd0 hv
  go_enter Tryd.func45, Tryd.ntmps45
  go_wp2_with (refine wpList_loadB (ty := 23) (t := 23) (x := .tmp 1) rfl rfl digest_wide rfl (unhide HB) (by simpa using unhide HV) ?_)
  refine (unhide HS).mono ?_
  rintro e w1 ⟨rfl, hE1⟩
  have H1 := hide hE1
  clear hE1
  go_wp2_with fail
  refine (unhide HA _ (((Ext.refl w).alloc _).trans (unhide H1))).mono ?_
  rintro e w2 ⟨rfl, hE2⟩
  have H2 := hide ((unhide H1).trans hE2)
  clear hE2
  go_wp2_with (refine wpList_storeB (ty := 23) (t := 23) (x := .tmp 4) (y := .tmp 10) rfl rfl digest_wide rfl rfl ((unhide HZ).ext (unhide H2)) rfl (by simpa using unhide HL) (bytes_one _) ?_; intro w7 hb7 hc7 hz7; have H7 := hide (And.intro hb7 hc7); clear hb7 hc7 hz7)
  refine bodyPost_ret (v := .agg (d.map u8v).toArray) (results_blk digest_wide rfl (unhide H7).1 (by simpa using unhide HL) rfl) rfl ⟨rfl, ?_⟩
  exact (((Ext.refl w).alloc _).trans (unhide H2)).trans' (unhide H7).2 (fun _ _ h => h) (fun i hi e => by omega)

set_option maxRecDepth 100000 in
set_option maxHeartbeats 4000000 in
theorem public_any (seed : List UInt8) (index : Int) (w : World) (hM : ShaMem w) (hv : seed.length = 16) (h1 : -9223372036854775808 ≤ index) (h2 : index < 9223372036854775808) :
    Calls Tryd.prog 20 #[.agg (seed.map u8v).toArray, .int .i64 index] w fun e w' => e = .returned (.agg ((publicS seed index).map u8v).toArray) ∧ Ext w w' := by
  have HK := hide (fun (W : World) (hE : Ext w W) (hB : Blk W w.heap.size 23 (seed.map u8v).toArray) (hc : W.cell? ⟨w.heap.size + 1, 0, none⟩ = some (.int .i64 index)) (hs : w.heap.size + 2 ≤ W.heap.size) =>
    key_any (F := 45) (caps := #[.pointer (some ⟨w.heap.size, 0, none⟩), .pointer (some ⟨w.heap.size + 1, 0, none⟩)]) (f := fun k => advS k (startS seed index k) 3) (Inv := PubInv seed index w.heap.size (w.heap.size + 1)) (B := w.heap.size + 2)
      ⟨call_enters Tryd.func45 (by kernel_rfl) rfl, fun k W hk hI => pub1_any k seed index _ _ W hv hk h1 h2 hI,
       fun W W' hI hC => ⟨ShaMem.past hM (by omega) hI.1 hC, hI.2.1.chg hC (by omega), Chg.cellv hC hI.2.2 (by simp)⟩, fun k => advS_length k _ (startS_length _ _ _) 3⟩ W hs (hM.ext hE) ⟨hM.ext hE, hB, hc⟩)
  obtain ⟨arr, harr⟩ : ∃ r, (seed.map u8v).toArray = r := ⟨_, rfl⟩
  rw [harr] at HK ⊢
  have HR := hide (show keyOf (fun k => advS k (startS seed index k) 3) = publicS seed index ∧ (publicS seed index).length = 16 from ⟨rfl, digestS_length _ _⟩)
  obtain ⟨res, hres⟩ : ∃ r, publicS seed index = r := ⟨_, rfl⟩
  rw [hres] at HR ⊢
  have hmf := mkfun
  clear hM harr hres
  go_enter Tryd.func20, Tryd.ntmps20
  go_wp2_with fail
  refine (unhide HK _ ((((Ext.refl w).alloc _).alloc _).alloc _) ((((Blk.new w _ _).alloc _).alloc _)) (old_cell _ _ (new_cell _ _ _ (by simp) rfl)) (by simp)).mono ?_
  rintro e w1 ⟨rfl, hE1⟩
  rw [(unhide HR).1]
  have H1 := hide hE1
  clear hE1 hmf
  go_wp2_with (refine wpList_storeB (ty := 23) (t := 23) (x := .tmp 4) (y := .tmp 6) rfl rfl digest_wide rfl rfl ((Blk.new' ((w.alloc (.cells arr 23)).alloc (.cells #[.int .i64 index] 3)) 23 (Array.replicate 16 (.int .u8 0)) (g := w.heap.size + 1 + 1) (by simp)).ext (unhide H1)) rfl (by simpa using (unhide HR).2) (bytes_one _) ?_; intro w7 hb7 hc7 hz7; have H7 := hide (And.intro hb7 hc7); clear hb7 hc7 hz7)
  refine bodyPost_ret (v := .agg (res.map u8v).toArray) (results_blk digest_wide rfl (unhide H7).1 (by simpa using (unhide HR).2) rfl) rfl ⟨rfl, ?_⟩
  exact (((((Ext.refl w).alloc _).alloc _).alloc _).trans (unhide H1)).trans' (unhide H7).2 (fun _ _ h => h) (fun i hi e => by omega)

end Go.Proofs.YtjemfefkgfoikaaDoor

/-
  wots.Sign and wots.Recover.
-/
namespace Go.Proofs.YtjemfefkgfoikaaDoor
open Go.RowKit

def z16 : List UInt8 := List.replicate 16 0
theorem z16_cells : ((z16.map u8v).toArray) = Array.replicate 16 (.int .u8 0) := rfl
def chainAt (c : List (List UInt8)) (k : Nat) : List UInt8 := c.getD k z16
theorem chainAt_length {c : List (List UInt8)} (h : D16 c) (k : Nat) : (chainAt c k).length = 16 := by
  unfold chainAt
  rw [List.getD_eq_getElem?_getD]
  rcases Nat.lt_or_ge k c.length with hk | hk
  · rw [List.getElem?_eq_getElem hk]; exact h.get hk
  · rw [List.getElem?_eq_none hk]; rfl
theorem chainAt_get {c : List (List UInt8)} {k : Nat} (hk : k < c.length) : chainAt c k = c[k] := by
  unfold chainAt
  rw [List.getD_eq_getElem?_getD, List.getElem?_eq_getElem hk]; rfl
structure RecInv (m : List UInt8) (c : List (List UInt8)) (cv : Value) (bc bl g : Nat) (B : Nat) (w : World) : Prop where
  mem : ShaMem w
  chain : Digs w cv c
  cell : w.cell? ⟨bc, 0, none⟩ = some cv
  cell2 : w.cell? ⟨bl, 0, none⟩ = some (.slice (some ⟨g, 0, none⟩) 68 68)
  digs : Blk w g 68 (icells (digC m) 68).toArray
  lt : (∀ k, cv.ownBlock = some k → k < B) ∧ bc < B ∧ bl < B ∧ g < B ∧ 1 < B ∧ 0 < B
theorem RecInv.keep {m : List UInt8} {c : List (List UInt8)} {cv : Value} {bc bl g B : Nat} {w w' : World} (h : RecInv m c cv bc bl g B w) (hc : Chg (fun k => B ≤ k) w w') : RecInv m c cv bc bl g B w' := by
  obtain ⟨l1, l2, l3, l4, l5, l6⟩ := h.lt
  exact ⟨h.mem.chg hc (by omega) (by omega), h.chain.chg hc (fun k hk e => by have := l1 k hk; omega), Chg.cellv hc h.cell (by simp; omega), Chg.cellv hc h.cell2 (by simp; omega), h.digs.chg hc (by omega), h.lt⟩

set_option maxRecDepth 100000 in
set_option maxHeartbeats 4000000 in
theorem rec1_any (k : Nat) (m : List UInt8) (c : List (List UInt8)) (cv : Value) (bc bl g B : Nat) (w : World) (hk : k < 68) (hc : c.length = 68) (hI : RecInv m c cv bc bl g B w) :
    Calls Tryd.prog 41 #[.int .i64 (k : Int), .pointer (some ⟨bc, 0, none⟩), .pointer (some ⟨bl, 0, none⟩)] w fun e w' => e = .returned (.agg ((advS k (chainAt c k) (3 - digC m k)).map u8v).toArray) ∧ Ext w w' := by
  obtain ⟨hM, hD, hbc, hbl, hB, _⟩ := hI
  obtain ⟨b, o, c', rfl, _, _, hb, hR⟩ := hD.at (k := k) (by omega)
  rw [← chainAt_get (by omega : k < c.length)] at hR
  have hl := chainAt_length hD.1 k
  have h3 := digC_le m k
  have HA := hide (fun (W : World) (hE : Ext w W) => adv_any k (3 - digC m k) (chainAt c k) W (hM.ext hE) hl (by omega) (by omega))
  have HL := hide (advS_length k (chainAt c k) hl (3 - digC m k))
  have hdc : w.cell? ⟨g, k, none⟩ = some (.int .i64 ((digC m k : Nat) : Int)) := by rw [hB.cell, List.getElem?_toArray, icells_get _ hk]
  have e3 : IntKind.i64.wrap (3 - ((digC m k : Nat) : Int)) = ((3 - digC m k : Nat) : Int) := by rw [IntKind.wrap_i64]; omega
  obtain ⟨cells, hcs⟩ : ∃ l, (chainAt c k).map u8v = l := ⟨_, rfl⟩
  have HCL := hide (show cells.length = 16 from by rw [← hcs]; simpa using hl)
  rw [hcs] at hR HA
  obtain ⟨d, hd⟩ : ∃ d, advS k (chainAt c k) (3 - digC m k) = d := ⟨_, rfl⟩
  rw [hd] at HA HL ⊢
  have HF : Hid (∀ W, (Ext w W ∧ ∃ cs : Array Value, cs.size = 16 ∧ Blk W w.heap.size 23 cs) → W.cell? ⟨bc, 0, none⟩ = some (.slice (some ⟨b, o, none⟩) c.length c') ∧ W.cell? ⟨bl, 0, none⟩ = some (.slice (some ⟨g, 0, none⟩) 68 68) ∧ W.cell? ⟨g, k, none⟩ = some (.int .i64 ((digC m k : Nat) : Int))) := hide (fun W hW => ⟨Ext.cellv hW.1 hbc, Ext.cellv hW.1 hbl, Ext.cellv hW.1 hdc⟩)
  have HR := hide hR
  rw [hc] at HF
  generalize hdk : digC m k = dk at *
  generalize hsk : 3 - dk = sk at *
  have hkI : (k : Int) < 68 := by omega
  clear hM hD hbc hbl hB hR hdc hcs hd hl
  go_enter Tryd.func41, Tryd.ntmps41
  go_upto_region 1 with fail
  refine wp_region_held_drew (S := fun W => Ext w W ∧ ∃ cs : Array Value, cs.size = 16 ∧ Blk W w.heap.size 23 cs) (by kernel_rfl) ⟨((Ext.refl w).alloc _).drew, _, rfl, (Blk.new w _ _).drew⟩ (fun hHeld => ?_)
  refine wpAnyH_take (i := 0) (oi := _) (v := ?_) rfl (by kernel_rfl) (by kernel_rfl) (by kernel_rfl) (fun _ _ _ h => h) (Or.inl ⟨by rfl, fun wz hSz => ?_⟩) (by assumption) ?_
  rotate_left
  · (first | (go_simp; done) | (go_simp; with_reducible rfl) | (obtain ⟨f1, f2, f3⟩ := (unhide HF) wz hSz; clear hSz; first | (go_simp; done) | (go_simp; with_reducible rfl)))
  try simp only [Act.put, List.setIfInBounds_toArray, List.set_cons_zero, List.set_cons_succ, List.getElem_toArray, List.getElem_cons_zero]
  refine wpAnyH_take (i := 1) (oi := _) (v := ?_) rfl (by kernel_rfl) (by kernel_rfl) (by kernel_rfl) (fun _ _ _ h => h) (Or.inl ⟨by rfl, fun wz hSz => ?_⟩) (by assumption) ?_
  rotate_left
  · (first | (go_simp; done) | (go_simp; with_reducible rfl) | (obtain ⟨f1, f2, f3⟩ := (unhide HF) wz hSz; clear hSz; first | (go_simp; done) | (go_simp; with_reducible rfl)))
  try simp only [Act.put, List.setIfInBounds_toArray, List.set_cons_zero, List.set_cons_succ, List.getElem_toArray, List.getElem_cons_succ, List.getElem_cons_zero]
  refine wpAnyH_take (i := 2) (oi := _) (v := ?_) rfl (by kernel_rfl) (by kernel_rfl) (by kernel_rfl) (fun _ _ _ h => h) (Or.inl ⟨by rfl, fun wz hSz => ?_⟩) (by assumption) ?_
  rotate_left
  · (first | (go_simp; done) | (go_simp; with_reducible rfl) | (obtain ⟨f1, f2, f3⟩ := (unhide HF) wz hSz; clear hSz; first | (go_simp; done) | (go_simp; with_reducible rfl)))
  try simp only [Act.put, List.setIfInBounds_toArray, List.set_cons_zero, List.set_cons_succ, List.getElem_toArray, List.getElem_cons_succ, List.getElem_cons_zero]
  refine wpAnyH_take (i := 3) (oi := _) (v := ?_) rfl (by kernel_rfl) (by kernel_rfl) (by kernel_rfl) (fun _ _ _ h => h) (Or.inl ⟨by rfl, fun wz hSz => ?_⟩) (by assumption) ?_
  rotate_left
  · (first | (go_simp; done) | (go_simp; with_reducible rfl) | (obtain ⟨f1, f2, f3⟩ := (unhide HF) wz hSz; clear hSz; first | (go_simp; done) | (go_simp; with_reducible rfl)))
  try simp only [Act.put, List.setIfInBounds_toArray, List.set_cons_zero, List.set_cons_succ, List.getElem_toArray, List.getElem_cons_succ, List.getElem_cons_zero]
  refine wpAnyH_take (i := 4) (oi := _) (v := _) rfl (by kernel_rfl) (by kernel_rfl) (by kernel_rfl) (fun _ _ _ h => h) (ylm digest_wide rfl (by rfl) rfl (unhide HCL) (fun w' hw => rangeAt_ext (unhide HR) hw.1)) (by assumption) ?_
  try simp only [Act.put, List.setIfInBounds_toArray, List.set_cons_zero, List.set_cons_succ, List.getElem_toArray, List.getElem_cons_succ, List.getElem_cons_zero]
  refine wpAnyH_take (i := 5) (oi := _) (v := ?_) rfl (by kernel_rfl) (by kernel_rfl) (by kernel_rfl) (fun _ _ _ h => h) (Or.inl ⟨by rfl, fun wz hSz => ?_⟩) (by assumption) ?_
  rotate_left
  · (first | (go_simp; done) | (go_simp; with_reducible rfl) | (obtain ⟨f1, f2, f3⟩ := (unhide HF) wz hSz; clear hSz; first | (go_simp; done) | (go_simp; with_reducible rfl)))
  try simp only [Act.put, List.setIfInBounds_toArray, List.set_cons_zero, List.set_cons_succ, List.getElem_toArray, List.getElem_cons_succ, List.getElem_cons_zero]
  refine wpAnyH_take (i := 6) (oi := _) (v := ?_) rfl (by kernel_rfl) (by kernel_rfl) (by kernel_rfl) (fun _ _ _ h => h) (Or.inl ⟨by rfl, fun wz hSz => ?_⟩) (by assumption) ?_
  rotate_left
  · (first | (go_simp; done) | (go_simp; with_reducible rfl) | (obtain ⟨f1, f2, f3⟩ := (unhide HF) wz hSz; clear hSz; first | (go_simp; done) | (go_simp; with_reducible rfl)))
  try simp only [Act.put, List.setIfInBounds_toArray, List.set_cons_zero, List.set_cons_succ, List.getElem_toArray, List.getElem_cons_succ, List.getElem_cons_zero]
  refine wpAnyH_take (i := 7) (oi := _) (v := ?_) rfl (by kernel_rfl) (by kernel_rfl) (by kernel_rfl) (fun _ _ _ h => h) (Or.inl ⟨by rfl, fun wz hSz => ?_⟩) (by assumption) ?_
  rotate_left
  · (first | (go_simp; done) | (go_simp; with_reducible rfl) | (obtain ⟨f1, f2, f3⟩ := (unhide HF) wz hSz; clear hSz; first | (go_simp; done) | (go_simp; with_reducible rfl)))
  try simp only [Act.put, List.setIfInBounds_toArray, List.set_cons_zero, List.set_cons_succ, List.getElem_toArray, List.getElem_cons_succ, List.getElem_cons_zero]
  refine wpAnyH_take (i := 8) (oi := _) (v := ?_) rfl (by kernel_rfl) (by kernel_rfl) (by kernel_rfl) (fun _ _ _ h => h) (Or.inl ⟨by rfl, fun wz hSz => ?_⟩) (by assumption) ?_
  rotate_left
  · (first | (go_simp; done) | (go_simp; with_reducible rfl) | (obtain ⟨f1, f2, f3⟩ := (unhide HF) wz hSz; clear hSz; first | (go_simp; done) | (go_simp; with_reducible rfl)))
  try simp only [Act.put, List.setIfInBounds_toArray, List.set_cons_zero, List.set_cons_succ, List.getElem_toArray, List.getElem_cons_succ, List.getElem_cons_zero]
  refine wpAnyH_take (i := 9) (oi := _) (v := ?_) rfl (by kernel_rfl) (by kernel_rfl) (by kernel_rfl) (fun _ _ _ h => h) (Or.inl ⟨by rfl, fun wz hSz => ?_⟩) (by assumption) ?_
  rotate_left
  · (first | (go_simp; done) | (go_simp; with_reducible rfl) | (obtain ⟨f1, f2, f3⟩ := (unhide HF) wz hSz; clear hSz; first | (go_simp; done) | (go_simp; with_reducible rfl)))
  try simp only [Act.put, List.setIfInBounds_toArray, List.set_cons_zero, List.set_cons_succ, List.getElem_toArray, List.getElem_cons_succ, List.getElem_cons_zero]

  refine wpAnyH_ready (rs := [10]) (by kernel_rfl) (by simp) (AllReadyH.cons (o := _) rfl (fun K hK => ?_) AllReadyH.nil)
  try go_simp
  (refine (unhide HA _ hHeld.1).mono ?_; rintro e w5 ⟨rfl, hE5⟩; have hS := And.intro (hHeld.1.trans hE5) (hHeld.2.imp fun _ h => And.intro h.1 (h.2.ext hE5)); clear hE5 hHeld)
  refine hK.out _ _ ?_ (fun hHeld => ?_)
  · exact hS
  clear hK K
  try simp only [Act.put, List.setIfInBounds_toArray, List.set_cons_zero, List.set_cons_succ, List.getElem_toArray, List.getElem_cons_succ, List.getElem_cons_zero]
  obtain ⟨hX, cs, hcs, hBk⟩ := hHeld
  refine wpAnyH_ready (rs := [11]) (by kernel_rfl) (by simp) (AllReadyH.cons (o := _) rfl (fun K hK => ?_) AllReadyH.nil)
  (refine step_storeB (ty := 23) (t := 23) (x := .tmp 4) (y := .tmp 15) rfl rfl digest_wide rfl rfl hBk hcs (by simpa using unhide HL) (bytes_one _) ?_; intro w7 hb7 hc7 hz7; have hS : Ext w w7 ∧ ∃ cs : Array Value, cs.size = 16 ∧ Blk w7 w.heap.size 23 cs := ⟨hX.trans' hc7 (fun _ _ h => h) (fun i hi e => by omega), _, by simpa using unhide HL, hb7⟩; have H7 := hide hb7; clear hb7 hc7 hz7)
  refine hK.out _ _ ?_ (fun hHeld => ?_)
  · exact hS
  clear hK K
  try simp only [Act.put, List.getElem_toArray, List.getElem_cons_succ, List.getElem_cons_zero]
  refine wpAnyH_done (by kernel_rfl) ?_ _
  have H8 := hide hHeld.1
  go_wp2
  refine bodyPost_ret (v := .agg (d.map u8v).toArray) (results_blk digest_wide rfl (unhide H7) (by simpa using unhide HL) rfl) rfl ⟨rfl, unhide H8⟩

end Go.Proofs.YtjemfefkgfoikaaDoor

/-
  wots.Recover and wots.Sign.
-/
namespace Go.Proofs.YtjemfefkgfoikaaDoor
open Go.RowKit

def recV (m : List UInt8) (c : List (List UInt8)) : Value := if c.length = 68 then .tuple #[.agg ((recoverS m (chainAt c)).map u8v).toArray, .int .i64 0] else .tuple #[.agg (z16.map u8v).toArray, .int .i64 9]

set_option maxRecDepth 100000 in
set_option maxHeartbeats 4000000 in
theorem recover_no (m : List UInt8) (c : List (List UInt8)) (cv : Value) (w : World) (hc : ¬ c.length = 68) (hD : Digs w cv c) :
    Calls Tryd.prog 18 #[.agg (m.map u8v).toArray, cv] w fun e w' => e = .returned (.tuple #[.agg (z16.map u8v).toArray, .int .i64 9]) ∧ Ext w w' := by
  obtain ⟨A, c', rfl, _, _⟩ := hD.form
  obtain ⟨arr, harr⟩ : ∃ r, (m.map u8v).toArray = r := ⟨_, rfl⟩
  rw [harr]
  clear hD harr
  have hcI : ¬ (c.length : Int) = 68 := by omega
  generalize c.length = n at *
  go_enter Tryd.func18, Tryd.ntmps18
  go_wp2
  refine bodyPost_ret (v := .tuple #[.agg (z16.map u8v).toArray, .int .i64 9]) (results_two digest_wide rfl (Blk.new' _ _ _ (by simp)) rfl rfl rfl) rfl ⟨rfl, ?_⟩
  exact (((Ext.refl w).alloc _).alloc _).alloc _

set_option maxRecDepth 100000 in
set_option maxHeartbeats 4000000 in
theorem recover_yes (m : List UInt8) (c : List (List UInt8)) (cv : Value) (w : World) (hM : ShaMem w) (hm : m.length = 16) (hc : c.length = 68) (hD : Digs w cv c) :
    Calls Tryd.prog 18 #[.agg (m.map u8v).toArray, cv] w fun e w' => e = .returned (.tuple #[.agg ((recoverS m (chainAt c)).map u8v).toArray, .int .i64 0]) ∧ Ext w w' := by
  obtain ⟨A, c', rfl, _, _⟩ := hD.form
  have hlt := hD.own_lt (by omega)
  have hsl := hM.lt
  have HDg := hide (fun (W : World) => digits_any m W hm)
  have HK := hide (fun (g bl B : Nat) (W : World) (hI : RecInv m c (.slice A c.length c') (w.heap.size + 1) bl g B W) (hB : B ≤ W.heap.size) =>
    key_any (F := 41) (caps := #[.pointer (some ⟨w.heap.size + 1, 0, none⟩), .pointer (some ⟨bl, 0, none⟩)]) (f := fun k => advS k (chainAt c k) (3 - digC m k)) (Inv := RecInv m c (.slice A c.length c') (w.heap.size + 1) bl g B) (B := B)
      ⟨call_enters Tryd.func41 (by kernel_rfl) rfl, fun k W hk hI => rec1_any k m c _ _ _ _ _ W hk hc hI, fun W W' hI hC => hI.keep hC, fun k => advS_length k _ (chainAt_length hD.1 k) _⟩ W hB hI.mem hI)
  have HM := hide (And.intro hM (And.intro hD (And.intro hlt hsl)))
  obtain ⟨arr, harr⟩ : ∃ r, (m.map u8v).toArray = r := ⟨_, rfl⟩
  rw [harr] at HDg ⊢
  have HR := hide (show keyOf (fun k => advS k (chainAt c k) (3 - digC m k)) = recoverS m (chainAt c) ∧ (recoverS m (chainAt c)).length = 16 from ⟨rfl, digestS_length _ _⟩)
  obtain ⟨res, hres⟩ : ∃ r, recoverS m (chainAt c) = r := ⟨_, rfl⟩
  rw [hres] at HR ⊢
  have hasz : arr.size = 16 := by rw [← harr]; simpa using hm
  have hmf := mkfun
  rw [hc] at HK ⊢
  rw [hc] at HM
  clear hM harr hres hD hlt hsl
  go_enter Tryd.func18, Tryd.ntmps18
  go_wp2_with (refine wpList_loadB (ty := 23) (t := 23) (x := .tmp 2) rfl rfl digest_wide rfl (((Blk.new w _ _).alloc _).alloc _) hasz ?_)
  refine (unhide HDg _).mono ?_
  rintro e w1 ⟨g, rfl, hb1, hg, hE1⟩
  have H1 := hide (And.intro hb1 (And.intro ((((Ext.refl w).alloc _).alloc _).alloc _ |>.trans hE1) (And.intro (Ext.cellv hE1 (old_cell _ _ (new_cell (w.alloc (.cells arr 23)) 24 #[.slice A 68 c'] (g := w.heap.size + 1) (by simp) (i := 0) rfl))) ((Blk.new' ((w.alloc (.cells arr 23)).alloc (.cells #[.slice A 68 c'] 24)) 23 (Array.replicate 16 (.int .u8 0)) (g := w.heap.size + 1 + 1) (by simp)).ext hE1))))
  clear hb1 hE1
  have hw1 : w.heap.size + 1 + 1 < w1.heap.size := (unhide H1).2.2.2.lt
  go_wp2_with fail
  refine (unhide HK g w1.heap.size (w1.heap.size + 1) _ ⟨(unhide HM).1.ext ((unhide H1).2.1.alloc _), (unhide HM).2.1.ext ((unhide H1).2.1.alloc _), old_cell _ _ (unhide H1).2.2.1, new_cell _ _ _ rfl rfl, (unhide H1).1.alloc _, fun k hk => by have := (unhide HM).2.2.1 k hk; omega, by omega, by omega, by have := (unhide H1).1.lt; omega, by have := (unhide HM).2.2.2; omega, by have := (unhide HM).2.2.2; omega⟩ (by simp)).mono ?_
  rintro e w2 ⟨rfl, hE2⟩
  rw [(unhide HR).1]
  have H2 := hide (((Ext.refl w1).alloc _).trans hE2)
  clear hE2 hmf
  go_wp2_with (refine wpList_storeB (ty := 23) (t := 23) (x := .tmp 4) (y := .tmp 14) rfl rfl digest_wide rfl rfl ((unhide H1).2.2.2.ext (unhide H2)) rfl (by simpa using (unhide HR).2) (bytes_one _) ?_; intro w7 hb7 hc7 hz7; have H7 := hide (And.intro hb7 hc7); clear hb7 hc7 hz7)
  refine bodyPost_ret (v := .tuple #[.agg (res.map u8v).toArray, .int .i64 0]) (results_two digest_wide rfl (unhide H7).1 (by simpa using (unhide HR).2) rfl rfl) rfl ⟨rfl, ?_⟩
  exact ((unhide H1).2.1.trans (unhide H2)).trans' (unhide H7).2 (fun _ _ h => h) (fun i hi e => by omega)

theorem recover_any (m : List UInt8) (c : List (List UInt8)) (cv : Value) (w : World) (hM : ShaMem w) (hm : m.length = 16) (hD : Digs w cv c) :
    Calls Tryd.prog 18 #[.agg (m.map u8v).toArray, cv] w fun e w' => e = .returned (recV m c) ∧ Ext w w' := by
  unfold recV
  split
  · rename_i h; exact recover_yes m c cv w hM hm h hD
  · rename_i h; exact recover_no m c cv w h hD

/-- The chain values of a signature. -/
def signS (seed : List UInt8) (index : Int) (m : List UInt8) (n : Nat) : List (List UInt8) := (List.range n).map (signAt seed index m)
theorem signAt_length (seed : List UInt8) (index : Int) (m : List UInt8) (k : Nat) : (signAt seed index m k).length = 16 := advS_length k _ (startS_length _ _ _) _
theorem signS_step (seed : List UInt8) (index : Int) (m : List UInt8) (n : Nat) : signS seed index m (n + 1) = signS seed index m n ++ [signAt seed index m n] := by unfold signS; rw [List.range_succ, List.map_append]; rfl
theorem signS_length (seed : List UInt8) (index : Int) (m : List UInt8) (n : Nat) : (signS seed index m n).length = n := by unfold signS; simp
theorem signS_16 (seed : List UInt8) (index : Int) (m : List UInt8) (n : Nat) : D16 (signS seed index m n) := fun d hd => by
  unfold signS at hd
  obtain ⟨k, _, rfl⟩ := List.mem_map.1 hd
  exact signAt_length _ _ _ _

set_option maxRecDepth 100000 in
set_option maxHeartbeats 4000000 in
theorem sign_any (seed : List UInt8) (index : Int) (m : List UInt8) (w : World) (hM : ShaMem w) (hv : seed.length = 16) (hm : m.length = 16) (h1 : -9223372036854775808 ≤ index) (h2 : index < 9223372036854775808) :
    Calls Tryd.prog 23 #[.agg (seed.map u8v).toArray, .int .i64 index, .agg (m.map u8v).toArray] w fun e w' => ∃ A c, e = .returned (.slice A 68 c) ∧ GD w w.heap.size (.slice A 68 c) 68 (signS seed index m 68) w' := by
  have HDg := hide (fun (W : World) => digits_any m W hm)
  have HS := hide (fun k (hk : k < 68) (W : World) (hE : Ext w W) => start_any k seed index W (hM.ext hE) hv (by omega) h1 h2)
  have HA := hide (fun k (hk : k < 68) (W : World) (hE : Ext w W) => adv_any k (digC m k) (startS seed index k) W (hM.ext hE) (startS_length _ _ _) (by omega) (by have := digC_le m k; omega))
  have HL := hide (signAt_length seed index m)
  have HT := hide (signS_step seed index m)
  have HG := hide (fun k (hk : k < 68) => icells_get (digC m) hk)
  have HQ := hide (fun k => show advS k (startS seed index k) (digC m k) = signAt seed index m k from rfl)
  obtain ⟨arr, harr⟩ : ∃ r, (seed.map u8v).toArray = r := ⟨_, rfl⟩
  obtain ⟨marr, hmarr⟩ : ∃ r, (m.map u8v).toArray = r := ⟨_, rfl⟩
  rw [harr] at HS ⊢
  rw [hmarr] at HDg ⊢
  have HSZ := hide (show arr.size = 16 ∧ marr.size = 16 from by rw [← harr, ← hmarr]; simp; omega)
  clear hM harr hmarr hv hm
  go_enter Tryd.func23, Tryd.ntmps23
  go_wp2_with (refine wpList_loadB (ty := 23) (t := 23) (x := .tmp 5) rfl rfl digest_wide rfl (Blk.new' _ _ _ (by simp)) (unhide HSZ).2 ?_)
  refine (unhide HDg _).mono ?_
  rintro e w1 ⟨g, rfl, hb1, hg, hE1⟩
  have H1 := hide (And.intro hb1 (And.intro ((((Ext.refl w).alloc _).alloc _).trans hE1) (((Blk.new w 23 arr).alloc _).ext hE1)))
  clear hb1 hE1 hg
  go_wp2_with fail
  go_loopw [7, 13] (fun b i wr => ∃ (k : Nat) (A : Option Addr) (c : Nat), k ≤ 68 ∧ i = .int .i64 k ∧ b = .slice A k c ∧ Hid (GD w w1.heap.size (.slice A k c) k (signS seed index m k) wr ∧ Blk wr w.heap.size 23 arr ∧ Blk wr g 68 (icells (digC m) 68).toArray)) (fun _ i _ => 68 - (intOf i).toNat)
  case atStart => exact ⟨0, none, 0, by omega, rfl, rfl, hide ⟨GD.nil (unhide H1).2.1 (unhide H1).2.1.size' (Nat.le_refl _), (unhide H1).2.2, (unhide H1).1⟩⟩
  case round =>
    obtain ⟨k, A, c, hk, rfl, rfl, HI⟩ := hrel
    by_cases hlt : k < 68
    · have cg : wr.cell? ⟨g, k, none⟩ = some (.int .i64 ((digC m k : Nat) : Int)) := by rw [(unhide HI).2.2.cell, List.getElem?_toArray]; exact unhide HG k hlt
      have HSk := hide (unhide HS k hlt)
      have HAk := hide (unhide HA k hlt)
      have HLk := hide (unhide HL k)
      have HTk := hide (unhide HT k)
      rw [unhide HQ k] at HAk
      generalize digC m k = dk at *
      generalize hst : ((startS seed index k).map u8v).toArray = st at *
      generalize signAt seed index m k = d at *
      have hkI : (k : Int) < 68 := by omega
      go_wp2_with (refine wpList_loadB (ty := 23) (t := 23) (x := .tmp 3) rfl rfl digest_wide rfl (unhide HI).2.1 (unhide HSZ).1 ?_)
      refine (unhide HSk _ (unhide HI).1.ext).mono ?_
      rintro e w2 ⟨rfl, hE2⟩
      have H2 := hide hE2
      clear hE2
      go_wp2_with fail
      refine (unhide HAk _ ((unhide HI).1.ext.trans (unhide H2))).mono ?_
      rintro e w3 ⟨rfl, hE3⟩
      have H3 := hide ((unhide H2).trans hE3)
      clear hE3
      go_wp2_with (first | (refine wpList_build1 (t := 24) (x := .tmp 25) rfl digs_row (by omega) rfl rfl (by simpa using unhide HLk) ?_) | at_builtin; refine wpList_app rfl rfl digs_row rfl ((unhide HI).1.to ((unhide H3).alloc _)).own rfl (Reads.newD _ _ _ (unhide HLk) rfl) (AllOne.u8 d) (by omega) ((unhide HI).1.to ((unhide H3).alloc _)).room ?_; intro A' c' w4 ho hc4 hv; have H4 := hide (And.intro ho hc4); clear ho hc4 hv)
      go_roundw
      case rel =>
        refine ⟨k + 1, A', c', by omega, by go_num, rfl, hide ⟨by rw [unhide HTk]; exact (unhide HI).1.step (unhide HLk) ((unhide H3).alloc _) (unhide H4).2 (unhide H4).1, ?_, ?_⟩⟩
        · exact ((unhide HI).2.1.ext ((unhide H3).alloc _)).chg (unhide H4).2 (fun e => by have h5 := ((unhide HI).1.own.lt _ e).1; have h6 := (unhide H1).2.2.lt; omega)
        · exact ((unhide HI).2.2.ext ((unhide H3).alloc _)).chg (unhide H4).2 (fun e => by have h5 := ((unhide HI).1.own.lt _ e).1; have h6 := (unhide H1).1.lt; omega)
      case measure => simp [intOf]; omega
    · obtain rfl : k = 68 := by omega
      go_wp2
      go_ret
      exact ⟨A, c, rfl, ⟨ownsRow_base (unhide HI).1.own (unhide H1).2.1.size', (unhide HI).1.all, (unhide HI).1.ext, Nat.le_refl _, (unhide HI).1.ext.size'⟩⟩

end Go.Proofs.YtjemfefkgfoikaaDoor

/-
  A range over a function whose loop variable lies in a box, as one law of the plain walk.
-/
namespace Go.Proofs.YtjemfefkgfoikaaDoor
open Go.RowKit

theorem KeepB.of_ext {w w' : World} (h : Ext w w') : KeepB w w' := fun _ _ hk _ => h.blk hk
theorem KeepB.own {β : Type} {B : Nat} {I : β → World → Prop} (h : ∀ s W W', I s W → KeepB W W' → I s W') : OwnFrom B I := by
  intro s W W' row hs hg hrow
  refine h s W W' hs fun k o hk ho => ?_
  rw [hg.block k (lt_of_heap hk) (fun e => ?_)]
  · exact hk
  · obtain ⟨_, q, hq, hqc⟩ := hrow k e.symm
    rw [hk] at hq
    cases hq
    rw [ho] at hqc
    cases hqc
theorem wp_rangeH {α : Type} {P : Program} {g : Operand} {ps : Array Tmp} {assign body : Code} {Q : Exit → Act → World → Prop} {a : Act} {w : World}
    {gf : Nat} {lb : Array Value} (hg : a.eval g = .func (.func gf) #[] lb) (eg : ∀ args w, (callFunc gf args).run P w = .ok (.enter gf args) w)
    {encs : α → Array Value} {S : Nat → Prop} {all : List α} {N : Nat}
    (hseq : SeqStopsK Fence.wide 2 P gf lb encs (KeepC S) (fun ys => ys = all) (fun _ => True) N w) (hps : ∀ x, (encs x).size = ps.size)
    (J : List α → World → Prop) (hJ : ∀ pre W W', J pre W → KeepB W W' → J pre W') (h0 : J [] w) (Ax : α → Act → World → Prop) (hAx : ∀ x a' W W', Ax x a' W → KeepB W W' → Ax x a' W')
    (hassign : ∀ (l : Nat) (pre : List α) (x : α) (W : World) (K : Act → World → Prop), Chg S w W → J pre W → (∀ a' W', Ext W W' → Ax x a' W' → K a' W') →
      assign.wpIn (Fence.wide.inRound l) 1 P (Exit.then K (fun _ _ _ => False)) { tmps := (ps.zip (encs x)).foldl (fun t (p, v) => t.setIfInBounds p v) a.tmps, defers := [] } W)
    (hbody : ∀ (l : Nat) (pre : List α) (x : α) (a' : Act) (W : World), Chg S w W → J pre W → Ax x a' W → pre.length < N →
      body.wpIn (Fence.wide.inRound l) 1 P (Exit.then (fun _ W' => Chg S W W' ∧ KeepsFrom w.heap.size W W' ∧ J (pre ++ [x]) W') (fun _ _ _ => False)) a' W)
    (hdone : ∀ (D : Nat) (W : World), w.heap.size ≤ D → Chg S w W → J all W → W.heap[D]? = some (.deferred (some [])) → Q .normal { a with defers := { target := .collected D, args := #[] } :: a.defers } W) :
    (Code.rangeFunc g ps assign body).wp P Q a w := by
  refine (wpIn_wide (n := 3)).1 ?_
  refine wpIn_rangeFunc_ownH (n := 3) (N := N) (w0 := w) rfl (by omega) hg trivial eg hseq (fun h k => h.trans k) (fun W l o o' _ h ho _ => KeepC.putObj W l o' h ho) (Below.refl _ _) hps
    (fun pre W => Chg S w W ∧ J pre W) (fun _ _ _ => False) ?hI (fun _ _ _ _ _ h _ _ => h) ⟨Chg.refl _ _, h0⟩ Ax (fun x a' => KeepB.own fun _ W W' h k => hAx x a' W W' h k) ?hassign ?hbody ?hdone (fun _ _ _ _ _ _ h _ => h.elim)
  case hI =>
    rintro pre W W' row ⟨hc, hj⟩ hgr hrow
    exact ⟨hc.grown hgr fun k e => .inr (hrow k e).1, KeepB.own (B := w.heap.size) hJ pre W W' row hj hgr hrow⟩
  case hassign =>
    rintro l pre x W K ⟨hc, hj⟩ hK
    refine hassign l pre x W K hc hj fun a' W' hE hA => hK a' W' ⟨hE.size', fun k o _ hk _ => hE.blk hk⟩ (KeepC.of_chg hE.chg) ⟨hc.ext hE, hJ _ _ _ hj (KeepB.of_ext hE)⟩ hA
  case hbody =>
    rintro l pre x a' W _ _ ⟨hc, hj⟩ hA hl
    refine wpIn_mono (hbody l pre x a' W hc hj hA hl) ?_
    rintro e b W' h
    cases e with
    | normal =>
      obtain ⟨h1, h3, h2⟩ := h
      exact ⟨h3, KeepC.of_chg h1, hc.trans h1, h2⟩
    | _ => exact h.elim
  case hdone =>
    rintro D xs W hD rfl ⟨hc, hj⟩ hd
    exact hdone D W hD hc hj hd
theorem keeps_ext (B : Nat) {w w' : World} (h : Ext w w') : KeepsFrom B w w' := ⟨h.size', fun _ _ _ hk _ => h.blk hk⟩
theorem keeps_own {B0 B : Nat} {w w' : World} {e : TypeId} {size : Nat} {v : Value} {n : Nat} {xs : List Value} (h : w.ownsRow B e size v n xs) (hc : Chg (fun k => v.ownBlock = some k) w w') : KeepsFrom B0 w w' := by
  refine ⟨hc.size, fun k o _ hk ho => hc.blk hk fun hv => ?_⟩
  rcases h.2 with ⟨rfl, _⟩ | ⟨g, cap, cur, rfl, _, hg, _⟩
  · simp [Value.ownBlock] at hv
  · simp only [Value.ownBlock, Option.some.injEq] at hv
    subst hv
    rw [hg] at hk
    cases hk
    simp [Obj.isCells] at ho
theorem KeepB.own' {w w' : World} (hk : KeepB w w') {B : Nat} {e : TypeId} {size : Nat} {v : Value} {n : Nat} {xs : List Value} (h : w.ownsRow B e size v n xs) : w'.ownsRow B e size v n xs := by
  refine ⟨h.1, ?_⟩
  rcases h.2 with hn | ⟨g, cap, cur, rfl, hb, hgg, rest⟩
  · exact .inl hn
  · exact .inr ⟨g, cap, cur, rfl, hb, hk _ _ hgg rfl, rest⟩
theorem grown_of_ext {w w' : World} (h : Ext w w') : w.grownBy w' none := ⟨h.os, h.tape, h.output, h.size', fun k hk _ => h.block k hk (fun h => h)⟩

end Go.Proofs.YtjemfefkgfoikaaDoor

/-
  Merkle trees as plain functions of lists of digests, proofs and what they keep: no program in sight.
-/
namespace Go.Proofs.YtjemfefkgfoikaaDoor

/-- The largest power of two below n, from k on. -/
def splitF : Nat → Nat → Nat → Nat
  | 0, k, _ => k
  | f + 1, k, n => if k < n - k then splitF f (2 * k) n else k
def splitS (n : Nat) : Nat := splitF n 1 n
theorem splitF_bounds : ∀ (f k n : Nat), 0 < k → k < n → 0 < splitF f k n ∧ splitF f k n < n
  | 0, k, n, h1, h2 => ⟨h1, h2⟩
  | f + 1, k, n, h1, h2 => by
    rw [splitF]
    split
    · exact splitF_bounds f (2 * k) n (by omega) (by omega)
    · exact ⟨h1, h2⟩
theorem splitS_bounds (n : Nat) (h : 1 < n) : 0 < splitS n ∧ splitS n < n := splitF_bounds n 1 n (by omega) h
def leafS (d : List UInt8) : List UInt8 := digestS 1 [d]
def nodeS (l r : List UInt8) : List UInt8 := digestS 2 [l, r]
theorem leafS_length (d : List UInt8) : (leafS d).length = 16 := digestS_length _ _
theorem nodeS_length (l r : List UInt8) : (nodeS l r).length = 16 := digestS_length _ _
/-- The root, with as much fuel as there are leaves. -/
def rootF : Nat → List (List UInt8) → List UInt8
  | _, [] => digestS 1 []
  | _, [d] => leafS d
  | 0, _ => []
  | f + 1, l => nodeS (rootF f (l.take (splitS l.length))) (rootF f (l.drop (splitS l.length)))
def rootS (l : List (List UInt8)) : List UInt8 := rootF l.length l
theorem rootF_fuel : ∀ (f g : Nat) (l : List (List UInt8)), l.length ≤ f → l.length ≤ g → rootF f l = rootF g l
  | f, g, [], _, _ => by cases f <;> cases g <;> rfl
  | f, g, [d], _, _ => by cases f <;> cases g <;> rfl
  | 0, g, a :: b :: l, h, _ => by simp at h
  | f + 1, 0, a :: b :: l, _, h => by simp at h
  | f + 1, g + 1, a :: b :: l, h1, h2 => by
    have hb := splitS_bounds (a :: b :: l).length (by simp)
    rw [rootF, rootF]
    rw [rootF_fuel f g ((a :: b :: l).take _) (by rw [List.length_take]; omega) (by rw [List.length_take]; omega), rootF_fuel f g ((a :: b :: l).drop _) (by rw [List.length_drop]; omega) (by rw [List.length_drop]; omega)]
    all_goals simp
theorem rootS_two (l : List (List UInt8)) (h : 1 < l.length) : rootS l = nodeS (rootS (l.take (splitS l.length))) (rootS (l.drop (splitS l.length))) := by
  have hb := splitS_bounds l.length h
  match l, h with
  | a :: b :: l, h =>
    unfold rootS
    rw [show (a :: b :: l).length = (b :: l).length + 1 from rfl, rootF]
    rw [rootF_fuel _ _ ((a :: b :: l).take _) (by rw [List.length_take]; simp at hb ⊢; omega) (Nat.le_refl _), rootF_fuel _ _ ((a :: b :: l).drop _) (by rw [List.length_drop]; simp at hb ⊢; omega) (Nat.le_refl _)]
    all_goals simp

end Go.Proofs.YtjemfefkgfoikaaDoor

/-
  Inclusion proofs in Merkle trees as plain functions, and what they keep: no program in sight.
-/
namespace Go.Proofs.YtjemfefkgfoikaaDoor

/-- The proof of a leaf, from the leaf to the root. -/
def proveF : Nat → List (List UInt8) → Nat → List (List UInt8)
  | 0, _, _ => []
  | f + 1, l, i =>
    if l.length ≤ 1 then []
    else if i < splitS l.length then proveF f (l.take (splitS l.length)) i ++ [rootS (l.drop (splitS l.length))]
    else proveF f (l.drop (splitS l.length)) (i - splitS l.length) ++ [rootS (l.take (splitS l.length))]
def proveS (l : List (List UInt8)) (i : Nat) : List (List UInt8) := proveF l.length l i
theorem proveF_fuel : ∀ (f g : Nat) (l : List (List UInt8)) (i : Nat), l.length ≤ f → l.length ≤ g → proveF f l i = proveF g l i
  | 0, 0, _, _, _, _ => rfl
  | 0, g + 1, l, i, h, _ => by rw [proveF, proveF, if_pos (by omega)]
  | f + 1, 0, l, i, _, h => by rw [proveF, proveF, if_pos (by omega)]
  | f + 1, g + 1, l, i, h1, h2 => by
    rw [proveF, proveF]
    by_cases h : l.length ≤ 1
    · rw [if_pos h, if_pos h]
    · have hb := splitS_bounds l.length (by omega)
      rw [if_neg h, if_neg h]
      rw [proveF_fuel f g (l.take _) i (by rw [List.length_take]; omega) (by rw [List.length_take]; omega), proveF_fuel f g (l.drop _) _ (by rw [List.length_drop]; omega) (by rw [List.length_drop]; omega)]
theorem proveS_one (l : List (List UInt8)) (i : Nat) (h : l.length ≤ 1) : proveS l i = [] := by
  unfold proveS
  rcases hl : l.length with _ | n
  · rfl
  · rw [proveF, if_pos (by omega)]
theorem proveS_left (l : List (List UInt8)) (i : Nat) (h : 1 < l.length) (hi : i < splitS l.length) : proveS l i = proveS (l.take (splitS l.length)) i ++ [rootS (l.drop (splitS l.length))] := by
  have hb := splitS_bounds l.length h
  have hn : l.length = (l.length - 1) + 1 := by omega
  unfold proveS
  rw [hn, proveF, ← hn, if_neg (by omega), if_pos hi, proveF_fuel _ _ (l.take _) i (by rw [List.length_take]; omega) (Nat.le_refl _)]
theorem proveS_right (l : List (List UInt8)) (i : Nat) (h : 1 < l.length) (hi : ¬ i < splitS l.length) : proveS l i = proveS (l.drop (splitS l.length)) (i - splitS l.length) ++ [rootS (l.take (splitS l.length))] := by
  have hb := splitS_bounds l.length h
  have hn : l.length = (l.length - 1) + 1 := by omega
  unfold proveS
  rw [hn, proveF, ← hn, if_neg (by omega), if_neg hi, proveF_fuel _ _ (l.drop _) _ (by rw [List.length_drop]; omega) (Nat.le_refl _)]

/-- On which side the path goes (true: to the left), from the root to the leaf. -/
def sidesF : Nat → Nat → Nat → List Bool
  | 0, _, _ => []
  | f + 1, n, i => if n ≤ 1 then [] else if i < splitS n then true :: sidesF f (splitS n) i else false :: sidesF f (n - splitS n) (i - splitS n)
def sidesS (n i : Nat) : List Bool := sidesF n n i
theorem sidesF_fuel : ∀ (f g n i : Nat), n ≤ f → n ≤ g → sidesF f n i = sidesF g n i
  | 0, 0, _, _, _, _ => rfl
  | 0, g + 1, n, i, h, _ => by rw [sidesF, sidesF, if_pos (by omega)]
  | f + 1, 0, n, i, _, h => by rw [sidesF, sidesF, if_pos (by omega)]
  | f + 1, g + 1, n, i, h1, h2 => by
    rw [sidesF, sidesF]
    by_cases h : n ≤ 1
    · rw [if_pos h, if_pos h]
    · have hb := splitS_bounds n (by omega)
      rw [if_neg h, if_neg h, sidesF_fuel f g (splitS n) i (by omega) (by omega), sidesF_fuel f g (n - splitS n) _ (by omega) (by omega)]
theorem sidesS_one (n i : Nat) (h : n ≤ 1) : sidesS n i = [] := by
  unfold sidesS
  rcases n with _ | n
  · rfl
  · rw [sidesF, if_pos h]
theorem sidesS_left (n i : Nat) (h : 1 < n) (hi : i < splitS n) : sidesS n i = true :: sidesS (splitS n) i := by
  have hb := splitS_bounds n h
  unfold sidesS
  obtain ⟨m, rfl⟩ : ∃ m, n = m + 1 := ⟨n - 1, by omega⟩
  rw [sidesF, if_neg (by omega), if_pos hi, sidesF_fuel m _ _ _ (by omega) (Nat.le_refl _)]
theorem sidesS_right (n i : Nat) (h : 1 < n) (hi : ¬ i < splitS n) : sidesS n i = false :: sidesS (n - splitS n) (i - splitS n) := by
  have hb := splitS_bounds n h
  unfold sidesS
  obtain ⟨m, rfl⟩ : ∃ m, n = m + 1 := ⟨n - 1, by omega⟩
  rw [sidesF, if_neg (by omega), if_neg hi, sidesF_fuel m _ _ _ (by omega) (Nat.le_refl _)]
theorem sidesF_le : ∀ (f n i : Nat), (sidesF f n i).length ≤ f
  | 0, _, _ => Nat.le_refl _
  | f + 1, n, i => by
    rw [sidesF]
    split
    · simp
    · split
      · have := sidesF_le f (splitS n) i; simp; omega
      · have := sidesF_le f (n - splitS n) (i - splitS n); simp; omega
theorem sidesS_le (n i : Nat) : (sidesS n i).length ≤ n := sidesF_le _ _ _

/-- Up from a digest: the sides from the leaf on. -/
def foldS (d : List UInt8) : List Bool → List (List UInt8) → List UInt8
  | s :: ss, p :: ps => foldS (if s then nodeS d p else nodeS p d) ss ps
  | _, _ => d
theorem foldS_nil (d : List UInt8) (ps : List (List UInt8)) : foldS d [] ps = d := by cases ps <;> rfl
theorem foldS_snoc : ∀ (ss : List Bool) (ps : List (List UInt8)) (d p : List UInt8) (s : Bool), ss.length = ps.length → foldS d (ss ++ [s]) (ps ++ [p]) = if s then nodeS (foldS d ss ps) p else nodeS p (foldS d ss ps)
  | [], [], d, p, s, _ => rfl
  | [], _ :: _, _, _, _, h => by simp at h
  | _ :: _, [], _, _, _, h => by simp at h
  | a :: ss, b :: ps, d, p, s, h => by
    rw [List.cons_append, List.cons_append, foldS, foldS]
    exact foldS_snoc ss ps _ p s (by simpa using h)
theorem foldS_length (d : List UInt8) (h : d.length = 16) : ∀ (ss : List Bool) (ps : List (List UInt8)), (foldS d ss ps).length = 16
  | [], _ => by rw [foldS_nil]; exact h
  | _ :: _, [] => h
  | s :: ss, p :: ps => by
    rw [foldS]
    apply foldS_length
    split <;> exact nodeS_length _ _
/-- One step more. -/
theorem foldS_take (d : List UInt8) (ss : List Bool) (ps : List (List UInt8)) (k : Nat) (h1 : k < ss.length) (h2 : k < ps.length) : foldS d (ss.take (k + 1)) (ps.take (k + 1)) = if ss[k] then nodeS (foldS d (ss.take k) (ps.take k)) ps[k] else nodeS ps[k] (foldS d (ss.take k) (ps.take k)) := by
  rw [List.take_succ_eq_append_getElem h1, List.take_succ_eq_append_getElem h2, foldS_snoc _ _ _ _ _ (by simp; omega)]
def verifyS (root : List UInt8) (n i : Nat) (leaf : List UInt8) (proof : List (List UInt8)) : Bool :=
  decide (i < n) && (decide ((sidesS n i).length = proof.length) && decide (foldS (leafS leaf) (sidesS n i).reverse proof = root))

theorem rootS_one (d : List UInt8) : rootS [d] = leafS d := rfl
theorem prove_spec : ∀ (n : Nat) (l : List (List UInt8)) (i : Nat) (d : List UInt8), l[i]? = some d → l.length ≤ n → (proveS l i).length = (sidesS l.length i).length ∧ foldS (leafS d) (sidesS l.length i).reverse (proveS l i) = rootS l
  | 0, l, i, d, hd, h => by
    obtain rfl : l = [] := List.eq_nil_of_length_eq_zero (by omega)
    simp at hd
  | n + 1, l, i, d, hd, h => by
    have hi : i < l.length := (List.getElem?_eq_some_iff.1 hd).1
    rcases Nat.lt_or_ge 1 l.length with h1 | h1
    · have hb := splitS_bounds l.length h1
      rw [rootS_two l h1]
      by_cases hk : i < splitS l.length
      · have hlen : (l.take (splitS l.length)).length = splitS l.length := by rw [List.length_take]; omega
        obtain ⟨e1, e2⟩ := prove_spec n (l.take (splitS l.length)) i d (by rw [List.getElem?_take, if_pos hk]; exact hd) (by omega)
        rw [hlen] at e1 e2
        rw [proveS_left l i h1 hk, sidesS_left _ i h1 hk]
        refine ⟨by simp [e1], ?_⟩
        rw [List.reverse_cons, foldS_snoc _ _ _ _ _ (by simp [e1]), e2]
        rfl
      · have hlen : (l.drop (splitS l.length)).length = l.length - splitS l.length := by rw [List.length_drop]
        obtain ⟨e1, e2⟩ := prove_spec n (l.drop (splitS l.length)) (i - splitS l.length) d (by rw [List.getElem?_drop, show splitS l.length + (i - splitS l.length) = i from by omega]; exact hd) (by omega)
        rw [hlen] at e1 e2
        rw [proveS_right l i h1 hk, sidesS_right _ i h1 hk]
        refine ⟨by simp [e1], ?_⟩
        rw [List.reverse_cons, foldS_snoc _ _ _ _ _ (by simp [e1]), e2]
        rfl
    · match l, hd with
      | [a], hd =>
        obtain rfl : i = 0 := by simpa using hi
        cases hd
        exact ⟨rfl, rfl⟩
      | a :: b :: l, _ => simp at h1
theorem prove_verifies (l : List (List UInt8)) (i : Nat) (d : List UInt8) (hd : l[i]? = some d) : verifyS (rootS l) l.length i d (proveS l i) = true := by
  have hi : i < l.length := (List.getElem?_eq_some_iff.1 hd).1
  obtain ⟨e1, e2⟩ := prove_spec l.length l i d hd (Nat.le_refl _)
  unfold verifyS
  rw [decide_eq_true hi, decide_eq_true e1.symm, decide_eq_true e2]
  rfl
theorem rootS_length (l : List (List UInt8)) : (rootS l).length = 16 := by
  rcases Nat.lt_or_ge 1 l.length with h | h
  · rw [rootS_two l h]; exact nodeS_length _ _
  · match l with
    | [] => exact digestS_length _ _
    | [d] => exact leafS_length d
    | a :: b :: l => simp at h
theorem proveS_16 : ∀ (n : Nat) (l : List (List UInt8)) (i : Nat), l.length ≤ n → ∀ d ∈ proveS l i, d.length = 16
  | 0, l, i, h, d, hd => by rw [proveS_one l i (by omega)] at hd; cases hd
  | n + 1, l, i, h, d, hd => by
    rcases Nat.lt_or_ge 1 l.length with h1 | h1
    · have hb := splitS_bounds l.length h1
      by_cases hk : i < splitS l.length
      · rw [proveS_left l i h1 hk, List.mem_append] at hd
        rcases hd with hd | hd
        · exact proveS_16 n _ i (by rw [List.length_take]; omega) d hd
        · simp at hd; subst hd; exact rootS_length _
      · rw [proveS_right l i h1 hk, List.mem_append] at hd
        rcases hd with hd | hd
        · exact proveS_16 n _ _ (by rw [List.length_drop]; omega) d hd
        · simp at hd; subst hd; exact rootS_length _
    · rw [proveS_one l i h1] at hd; cases hd

/-- As the reference says it: from the proof's end. -/
def combineF : Nat → Nat → Nat → List UInt8 → List (List UInt8) → List UInt8 × Bool
  | 0, _, _, leaf, p => (leafS leaf, p.isEmpty)
  | f + 1, n, i, leaf, p =>
    if n ≤ 1 then (leafS leaf, p.isEmpty)
    else match p.getLast? with
      | none => (List.replicate 16 0, false)
      | some q =>
        if i < splitS n then (nodeS (combineF f (splitS n) i leaf p.dropLast).1 q, (combineF f (splitS n) i leaf p.dropLast).2)
        else (nodeS q (combineF f (n - splitS n) (i - splitS n) leaf p.dropLast).1, (combineF f (n - splitS n) (i - splitS n) leaf p.dropLast).2)
theorem combine_spec : ∀ (f n i : Nat) (leaf : List UInt8) (p : List (List UInt8)), n ≤ f →
    (combineF f n i leaf p).2 = decide ((sidesS n i).length = p.length) ∧ ((sidesS n i).length = p.length → (combineF f n i leaf p).1 = foldS (leafS leaf) (sidesS n i).reverse p)
  | 0, n, i, leaf, p, h => by
    rw [sidesS_one n i (by omega)]
    cases p with
    | nil => exact ⟨rfl, fun _ => rfl⟩
    | cons a p => exact ⟨by simp [combineF], fun h => by simp at h⟩
  | f + 1, n, i, leaf, p, h => by
    rw [combineF]
    by_cases h1 : n ≤ 1
    · rw [if_pos h1, sidesS_one n i h1]
      cases p with
      | nil => exact ⟨rfl, fun _ => rfl⟩
      | cons a p => exact ⟨by simp, fun h => by simp at h⟩
    · have hb := splitS_bounds n (by omega)
      rw [if_neg h1]
      rcases List.eq_nil_or_concat p with rfl | ⟨ps, q, rfl⟩
      · by_cases hk : i < splitS n
        · rw [sidesS_left n i (by omega) hk]; exact ⟨by simp, fun h => by simp at h⟩
        · rw [sidesS_right n i (by omega) hk]; exact ⟨by simp, fun h => by simp at h⟩
      · simp only [List.concat_eq_append, List.getLast?_concat, List.dropLast_concat]
        by_cases hk : i < splitS n
        · obtain ⟨e1, e2⟩ := combine_spec f (splitS n) i leaf ps (by omega)
          rw [if_pos hk, sidesS_left n i (by omega) hk]
          refine ⟨by rw [e1]; simp, fun he => ?_⟩
          have he' : (sidesS (splitS n) i).length = ps.length := by simpa using he
          rw [List.reverse_cons, foldS_snoc _ _ _ _ _ (by simpa using he'), e2 he']
          rfl
        · obtain ⟨e1, e2⟩ := combine_spec f (n - splitS n) (i - splitS n) leaf ps (by omega)
          rw [if_neg hk, sidesS_right n i (by omega) hk]
          refine ⟨by rw [e1]; simp, fun he => ?_⟩
          have he' : (sidesS (n - splitS n) (i - splitS n)).length = ps.length := by simpa using he
          rw [List.reverse_cons, foldS_snoc _ _ _ _ _ (by simpa using he'), e2 he']
          rfl
theorem combine_verify (root : List UInt8) (n i : Nat) (leaf : List UInt8) (p : List (List UInt8)) (hi : i < n) : ((combineF n n i leaf p).2 && decide ((combineF n n i leaf p).1 = root)) = verifyS root n i leaf p := by
  obtain ⟨e1, e2⟩ := combine_spec n n i leaf p (Nat.le_refl _)
  unfold verifyS
  rw [e1, decide_eq_true hi, Bool.true_and]
  by_cases h : (sidesS n i).length = p.length
  · rw [e2 h]
  · rw [decide_eq_false h, Bool.false_and, Bool.false_and]

/-! ### Trees of 2 to the height -/
theorem sides_pow : ∀ h, h ≤ 4 → ∀ i, i < 2 ^ h → (sidesS (2 ^ h) i).reverse = (List.range h).map fun j => decide (i / 2 ^ j % 2 = 0) := by decide +kernel
theorem sides_pow_length (h : Nat) (hh : h ≤ 4) (i : Nat) (hi : i < 2 ^ h) : (sidesS (2 ^ h) i).length = h := by
  have := congrArg List.length (sides_pow h hh i hi)
  simpa using this
/-- As the law folds: by the bits of the index. -/
def upS (d : List UInt8) (i : Nat) : List (List UInt8) → List UInt8
  | [] => d
  | p :: ps => upS (if i % 2 = 0 then nodeS d p else nodeS p d) (i / 2) ps
theorem upS_fold : ∀ (ps : List (List UInt8)) (d : List UInt8) (i : Nat), foldS d ((List.range ps.length).map fun j => decide (i / 2 ^ j % 2 = 0)) ps = upS d i ps
  | [], d, i => rfl
  | p :: ps, d, i => by
    rw [List.length_cons, List.range_succ_eq_map, List.map_cons, foldS, upS, ← upS_fold ps _ (i / 2), List.map_map]
    congr 1
    · simp
    · apply List.map_congr_left
      intro j _
      simp [Nat.pow_succ, Nat.div_div_eq_div_mul, Nat.mul_comm]
theorem verify_up (root : List UInt8) (h i : Nat) (leaf : List UInt8) (p : List (List UInt8)) (hh : h ≤ 4) (hi : i < 2 ^ h) (hv : verifyS root (2 ^ h) i leaf p = true) : p.length = h ∧ upS (leafS leaf) i p = root := by
  unfold verifyS at hv
  rw [Bool.and_eq_true, Bool.and_eq_true, decide_eq_true_eq, decide_eq_true_eq, decide_eq_true_eq, sides_pow_length h hh i hi] at hv
  obtain ⟨_, h1, h2⟩ := hv
  refine ⟨h1.symm, ?_⟩
  rw [sides_pow h hh i hi] at h2
  rw [← upS_fold, ← h1]
  exact h2

end Go.Proofs.YtjemfefkgfoikaaDoor
