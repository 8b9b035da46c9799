/-
  Several texts in one file: each has its own heading below.
-/
import Derived.Test.YtgndblhpfjkfhaaDoorQaJ
import Derived.Deep.RegionLaw
import Derived.Deep.Cut
import Derived.Test.YtgndblhpfjkfhaaDoorQaH
import Derived.Test.YtgndblhpfjkfhaaDoorQaI
import Derived.Test.YtgndblhpfjkfhaaDoorQaE

/-
  Inclusion proofs in Merkle trees as plain functions, and what they keep: no program in sight.
-/
namespace Go.Proofs.YtgndblhpfjkfhaaDoor

/-- The proof of a leaf, from the leaf to the root. -/
def proveF : Nat → List (List UInt8) → Nat → List (List UInt8)
  | 0, _, _ => []
  | f + 1, l, i =>
    if l.length ≤ 1 then []
    else if i < splitS l.length then proveF f (l.take (splitS l.length)) i ++ [rootS (l.drop (splitS l.length))]
    else proveF f (l.drop (splitS l.length)) (i - splitS l.length) ++ [rootS (l.take (splitS l.length))]
def proveS (l : List (List UInt8)) (i : Nat) : List (List UInt8) := proveF l.length l i
theorem proveF_fuel : ∀ (f g : Nat) (l : List (List UInt8)) (i : Nat), l.length ≤ f → l.length ≤ g → proveF f l i = proveF g l i
  | 0, 0, _, _, _, _ => rfl
  | 0, g + 1, l, i, h, _ => by rw [proveF, proveF, if_pos (by omega)]
  | f + 1, 0, l, i, _, h => by rw [proveF, proveF, if_pos (by omega)]
  | f + 1, g + 1, l, i, h1, h2 => by
    rw [proveF, proveF]
    by_cases h : l.length ≤ 1
    · rw [if_pos h, if_pos h]
    · have hb := splitS_bounds l.length (by omega)
      rw [if_neg h, if_neg h]
      rw [proveF_fuel f g (l.take _) i (by rw [List.length_take]; omega) (by rw [List.length_take]; omega), proveF_fuel f g (l.drop _) _ (by rw [List.length_drop]; omega) (by rw [List.length_drop]; omega)]
theorem proveS_one (l : List (List UInt8)) (i : Nat) (h : l.length ≤ 1) : proveS l i = [] := by
  unfold proveS
  rcases hl : l.length with _ | n
  · rfl
  · rw [proveF, if_pos (by omega)]
theorem proveS_left (l : List (List UInt8)) (i : Nat) (h : 1 < l.length) (hi : i < splitS l.length) : proveS l i = proveS (l.take (splitS l.length)) i ++ [rootS (l.drop (splitS l.length))] := by
  have hb := splitS_bounds l.length h
  have hn : l.length = (l.length - 1) + 1 := by omega
  unfold proveS
  rw [hn, proveF, ← hn, if_neg (by omega), if_pos hi, proveF_fuel _ _ (l.take _) i (by rw [List.length_take]; omega) (Nat.le_refl _)]
theorem proveS_right (l : List (List UInt8)) (i : Nat) (h : 1 < l.length) (hi : ¬ i < splitS l.length) : proveS l i = proveS (l.drop (splitS l.length)) (i - splitS l.length) ++ [rootS (l.take (splitS l.length))] := by
  have hb := splitS_bounds l.length h
  have hn : l.length = (l.length - 1) + 1 := by omega
  unfold proveS
  rw [hn, proveF, ← hn, if_neg (by omega), if_neg hi, proveF_fuel _ _ (l.drop _) _ (by rw [List.length_drop]; omega) (Nat.le_refl _)]

/-- On which side the path goes (true: to the left), from the root to the leaf. -/
def sidesF : Nat → Nat → Nat → List Bool
  | 0, _, _ => []
  | f + 1, n, i => if n ≤ 1 then [] else if i < splitS n then true :: sidesF f (splitS n) i else false :: sidesF f (n - splitS n) (i - splitS n)
def sidesS (n i : Nat) : List Bool := sidesF n n i
theorem sidesF_fuel : ∀ (f g n i : Nat), n ≤ f → n ≤ g → sidesF f n i = sidesF g n i
  | 0, 0, _, _, _, _ => rfl
  | 0, g + 1, n, i, h, _ => by rw [sidesF, sidesF, if_pos (by omega)]
  | f + 1, 0, n, i, _, h => by rw [sidesF, sidesF, if_pos (by omega)]
  | f + 1, g + 1, n, i, h1, h2 => by
    rw [sidesF, sidesF]
    by_cases h : n ≤ 1
    · rw [if_pos h, if_pos h]
    · have hb := splitS_bounds n (by omega)
      rw [if_neg h, if_neg h, sidesF_fuel f g (splitS n) i (by omega) (by omega), sidesF_fuel f g (n - splitS n) _ (by omega) (by omega)]
theorem sidesS_one (n i : Nat) (h : n ≤ 1) : sidesS n i = [] := by
  unfold sidesS
  rcases n with _ | n
  · rfl
  · rw [sidesF, if_pos h]
theorem sidesS_left (n i : Nat) (h : 1 < n) (hi : i < splitS n) : sidesS n i = true :: sidesS (splitS n) i := by
  have hb := splitS_bounds n h
  unfold sidesS
  obtain ⟨m, rfl⟩ : ∃ m, n = m + 1 := ⟨n - 1, by omega⟩
  rw [sidesF, if_neg (by omega), if_pos hi, sidesF_fuel m _ _ _ (by omega) (Nat.le_refl _)]
theorem sidesS_right (n i : Nat) (h : 1 < n) (hi : ¬ i < splitS n) : sidesS n i = false :: sidesS (n - splitS n) (i - splitS n) := by
  have hb := splitS_bounds n h
  unfold sidesS
  obtain ⟨m, rfl⟩ : ∃ m, n = m + 1 := ⟨n - 1, by omega⟩
  rw [sidesF, if_neg (by omega), if_neg hi, sidesF_fuel m _ _ _ (by omega) (Nat.le_refl _)]
theorem sidesF_le : ∀ (f n i : Nat), (sidesF f n i).length ≤ f
  | 0, _, _ => Nat.le_refl _
  | f + 1, n, i => by
    rw [sidesF]
    split
    · simp
    · split
      · have := sidesF_le f (splitS n) i; simp; omega
      · have := sidesF_le f (n - splitS n) (i - splitS n); simp; omega
theorem sidesS_le (n i : Nat) : (sidesS n i).length ≤ n := sidesF_le _ _ _

/-- Up from a digest: the sides from the leaf on. -/
def foldS (d : List UInt8) : List Bool → List (List UInt8) → List UInt8
  | s :: ss, p :: ps => foldS (if s then nodeS d p else nodeS p d) ss ps
  | _, _ => d
theorem foldS_nil (d : List UInt8) (ps : List (List UInt8)) : foldS d [] ps = d := by cases ps <;> rfl
theorem foldS_snoc : ∀ (ss : List Bool) (ps : List (List UInt8)) (d p : List UInt8) (s : Bool), ss.length = ps.length → foldS d (ss ++ [s]) (ps ++ [p]) = if s then nodeS (foldS d ss ps) p else nodeS p (foldS d ss ps)
  | [], [], d, p, s, _ => rfl
  | [], _ :: _, _, _, _, h => by simp at h
  | _ :: _, [], _, _, _, h => by simp at h
  | a :: ss, b :: ps, d, p, s, h => by
    rw [List.cons_append, List.cons_append, foldS, foldS]
    exact foldS_snoc ss ps _ p s (by simpa using h)
theorem foldS_length (d : List UInt8) (h : d.length = 16) : ∀ (ss : List Bool) (ps : List (List UInt8)), (foldS d ss ps).length = 16
  | [], _ => by rw [foldS_nil]; exact h
  | _ :: _, [] => h
  | s :: ss, p :: ps => by
    rw [foldS]
    apply foldS_length
    split <;> exact nodeS_length _ _
/-- One step more. -/
theorem foldS_take (d : List UInt8) (ss : List Bool) (ps : List (List UInt8)) (k : Nat) (h1 : k < ss.length) (h2 : k < ps.length) : foldS d (ss.take (k + 1)) (ps.take (k + 1)) = if ss[k] then nodeS (foldS d (ss.take k) (ps.take k)) ps[k] else nodeS ps[k] (foldS d (ss.take k) (ps.take k)) := by
  rw [List.take_succ_eq_append_getElem h1, List.take_succ_eq_append_getElem h2, foldS_snoc _ _ _ _ _ (by simp; omega)]
def verifyS (root : List UInt8) (n i : Nat) (leaf : List UInt8) (proof : List (List UInt8)) : Bool :=
  decide (i < n) && (decide ((sidesS n i).length = proof.length) && decide (foldS (leafS leaf) (sidesS n i).reverse proof = root))

theorem rootS_one (d : List UInt8) : rootS [d] = leafS d := rfl
theorem prove_spec : ∀ (n : Nat) (l : List (List UInt8)) (i : Nat) (d : List UInt8), l[i]? = some d → l.length ≤ n → (proveS l i).length = (sidesS l.length i).length ∧ foldS (leafS d) (sidesS l.length i).reverse (proveS l i) = rootS l
  | 0, l, i, d, hd, h => by
    obtain rfl : l = [] := List.eq_nil_of_length_eq_zero (by omega)
    simp at hd
  | n + 1, l, i, d, hd, h => by
    have hi : i < l.length := (List.getElem?_eq_some_iff.1 hd).1
    rcases Nat.lt_or_ge 1 l.length with h1 | h1
    · have hb := splitS_bounds l.length h1
      rw [rootS_two l h1]
      by_cases hk : i < splitS l.length
      · have hlen : (l.take (splitS l.length)).length = splitS l.length := by rw [List.length_take]; omega
        obtain ⟨e1, e2⟩ := prove_spec n (l.take (splitS l.length)) i d (by rw [List.getElem?_take, if_pos hk]; exact hd) (by omega)
        rw [hlen] at e1 e2
        rw [proveS_left l i h1 hk, sidesS_left _ i h1 hk]
        refine ⟨by simp [e1], ?_⟩
        rw [List.reverse_cons, foldS_snoc _ _ _ _ _ (by simp [e1]), e2]
        rfl
      · have hlen : (l.drop (splitS l.length)).length = l.length - splitS l.length := by rw [List.length_drop]
        obtain ⟨e1, e2⟩ := prove_spec n (l.drop (splitS l.length)) (i - splitS l.length) d (by rw [List.getElem?_drop, show splitS l.length + (i - splitS l.length) = i from by omega]; exact hd) (by omega)
        rw [hlen] at e1 e2
        rw [proveS_right l i h1 hk, sidesS_right _ i h1 hk]
        refine ⟨by simp [e1], ?_⟩
        rw [List.reverse_cons, foldS_snoc _ _ _ _ _ (by simp [e1]), e2]
        rfl
    · match l, hd with
      | [a], hd =>
        obtain rfl : i = 0 := by simpa using hi
        cases hd
        exact ⟨rfl, rfl⟩
      | a :: b :: l, _ => simp at h1
theorem prove_verifies (l : List (List UInt8)) (i : Nat) (d : List UInt8) (hd : l[i]? = some d) : verifyS (rootS l) l.length i d (proveS l i) = true := by
  have hi : i < l.length := (List.getElem?_eq_some_iff.1 hd).1
  obtain ⟨e1, e2⟩ := prove_spec l.length l i d hd (Nat.le_refl _)
  unfold verifyS
  rw [decide_eq_true hi, decide_eq_true e1.symm, decide_eq_true e2]
  rfl
theorem rootS_length (l : List (List UInt8)) : (rootS l).length = 16 := by
  rcases Nat.lt_or_ge 1 l.length with h | h
  · rw [rootS_two l h]; exact nodeS_length _ _
  · match l with
    | [] => exact digestS_length _ _
    | [d] => exact leafS_length d
    | a :: b :: l => simp at h
theorem proveS_16 : ∀ (n : Nat) (l : List (List UInt8)) (i : Nat), l.length ≤ n → ∀ d ∈ proveS l i, d.length = 16
  | 0, l, i, h, d, hd => by rw [proveS_one l i (by omega)] at hd; cases hd
  | n + 1, l, i, h, d, hd => by
    rcases Nat.lt_or_ge 1 l.length with h1 | h1
    · have hb := splitS_bounds l.length h1
      by_cases hk : i < splitS l.length
      · rw [proveS_left l i h1 hk, List.mem_append] at hd
        rcases hd with hd | hd
        · exact proveS_16 n _ i (by rw [List.length_take]; omega) d hd
        · simp at hd; subst hd; exact rootS_length _
      · rw [proveS_right l i h1 hk, List.mem_append] at hd
        rcases hd with hd | hd
        · exact proveS_16 n _ _ (by rw [List.length_drop]; omega) d hd
        · simp at hd; subst hd; exact rootS_length _
    · rw [proveS_one l i h1] at hd; cases hd

/-- As the reference says it: from the proof's end. -/
def combineF : Nat → Nat → Nat → List UInt8 → List (List UInt8) → List UInt8 × Bool
  | 0, _, _, leaf, p => (leafS leaf, p.isEmpty)
  | f + 1, n, i, leaf, p =>
    if n ≤ 1 then (leafS leaf, p.isEmpty)
    else match p.getLast? with
      | none => (List.replicate 16 0, false)
      | some q =>
        if i < splitS n then (nodeS (combineF f (splitS n) i leaf p.dropLast).1 q, (combineF f (splitS n) i leaf p.dropLast).2)
        else (nodeS q (combineF f (n - splitS n) (i - splitS n) leaf p.dropLast).1, (combineF f (n - splitS n) (i - splitS n) leaf p.dropLast).2)
theorem combine_spec : ∀ (f n i : Nat) (leaf : List UInt8) (p : List (List UInt8)), n ≤ f →
    (combineF f n i leaf p).2 = decide ((sidesS n i).length = p.length) ∧ ((sidesS n i).length = p.length → (combineF f n i leaf p).1 = foldS (leafS leaf) (sidesS n i).reverse p)
  | 0, n, i, leaf, p, h => by
    rw [sidesS_one n i (by omega)]
    cases p with
    | nil => exact ⟨rfl, fun _ => rfl⟩
    | cons a p => exact ⟨by simp [combineF], fun h => by simp at h⟩
  | f + 1, n, i, leaf, p, h => by
    rw [combineF]
    by_cases h1 : n ≤ 1
    · rw [if_pos h1, sidesS_one n i h1]
      cases p with
      | nil => exact ⟨rfl, fun _ => rfl⟩
      | cons a p => exact ⟨by simp, fun h => by simp at h⟩
    · have hb := splitS_bounds n (by omega)
      rw [if_neg h1]
      rcases List.eq_nil_or_concat p with rfl | ⟨ps, q, rfl⟩
      · by_cases hk : i < splitS n
        · rw [sidesS_left n i (by omega) hk]; exact ⟨by simp, fun h => by simp at h⟩
        · rw [sidesS_right n i (by omega) hk]; exact ⟨by simp, fun h => by simp at h⟩
      · simp only [List.concat_eq_append, List.getLast?_concat, List.dropLast_concat]
        by_cases hk : i < splitS n
        · obtain ⟨e1, e2⟩ := combine_spec f (splitS n) i leaf ps (by omega)
          rw [if_pos hk, sidesS_left n i (by omega) hk]
          refine ⟨by rw [e1]; simp, fun he => ?_⟩
          have he' : (sidesS (splitS n) i).length = ps.length := by simpa using he
          rw [List.reverse_cons, foldS_snoc _ _ _ _ _ (by simpa using he'), e2 he']
          rfl
        · obtain ⟨e1, e2⟩ := combine_spec f (n - splitS n) (i - splitS n) leaf ps (by omega)
          rw [if_neg hk, sidesS_right n i (by omega) hk]
          refine ⟨by rw [e1]; simp, fun he => ?_⟩
          have he' : (sidesS (n - splitS n) (i - splitS n)).length = ps.length := by simpa using he
          rw [List.reverse_cons, foldS_snoc _ _ _ _ _ (by simpa using he'), e2 he']
          rfl
theorem combine_verify (root : List UInt8) (n i : Nat) (leaf : List UInt8) (p : List (List UInt8)) (hi : i < n) : ((combineF n n i leaf p).2 && decide ((combineF n n i leaf p).1 = root)) = verifyS root n i leaf p := by
  obtain ⟨e1, e2⟩ := combine_spec n n i leaf p (Nat.le_refl _)
  unfold verifyS
  rw [e1, decide_eq_true hi, Bool.true_and]
  by_cases h : (sidesS n i).length = p.length
  · rw [e2 h]
  · rw [decide_eq_false h, Bool.false_and, Bool.false_and]

/-! ### Trees of 2 to the height -/
theorem sides_pow : ∀ h, h ≤ 4 → ∀ i, i < 2 ^ h → (sidesS (2 ^ h) i).reverse = (List.range h).map fun j => decide (i / 2 ^ j % 2 = 0) := by decide +kernel
theorem sides_pow_length (h : Nat) (hh : h ≤ 4) (i : Nat) (hi : i < 2 ^ h) : (sidesS (2 ^ h) i).length = h := by
  have := congrArg List.length (sides_pow h hh i hi)
  simpa using this
/-- As the law folds: by the bits of the index. -/
def upS (d : List UInt8) (i : Nat) : List (List UInt8) → List UInt8
  | [] => d
  | p :: ps => upS (if i % 2 = 0 then nodeS d p else nodeS p d) (i / 2) ps
theorem upS_fold : ∀ (ps : List (List UInt8)) (d : List UInt8) (i : Nat), foldS d ((List.range ps.length).map fun j => decide (i / 2 ^ j % 2 = 0)) ps = upS d i ps
  | [], d, i => rfl
  | p :: ps, d, i => by
    rw [List.length_cons, List.range_succ_eq_map, List.map_cons, foldS, upS, ← upS_fold ps _ (i / 2), List.map_map]
    congr 1
    · simp
    · apply List.map_congr_left
      intro j _
      simp [Nat.pow_succ, Nat.div_div_eq_div_mul, Nat.mul_comm]
theorem verify_up (root : List UInt8) (h i : Nat) (leaf : List UInt8) (p : List (List UInt8)) (hh : h ≤ 4) (hi : i < 2 ^ h) (hv : verifyS root (2 ^ h) i leaf p = true) : p.length = h ∧ upS (leafS leaf) i p = root := by
  unfold verifyS at hv
  rw [Bool.and_eq_true, Bool.and_eq_true, decide_eq_true_eq, decide_eq_true_eq, decide_eq_true_eq, sides_pow_length h hh i hi] at hv
  obtain ⟨_, h1, h2⟩ := hv
  refine ⟨h1.symm, ?_⟩
  rw [sides_pow h hh i hi] at h2
  rw [← upS_fold, ← h1]
  exact h2

end Go.Proofs.YtgndblhpfjkfhaaDoor

/-
  Merkle trees: the digests of a leaf and of a node, the split, of the program and of the reference.
-/
namespace Go.Proofs.YtgndblhpfjkfhaaDoor
open Go.RowKit

set_option maxRecDepth 100000 in
set_option maxHeartbeats 2000000 in
theorem leaf_any (d : List UInt8) (w : World) (hM : ShaMem w) (hd : d.length = 16) :
    Calls Tryd.prog 121 #[.agg (d.map u8v).toArray] w fun e w' => e = .returned (.agg ((leafS d).map u8v).toArray) ∧ Ext w w' := by
  have HD := hide (fun (W : World) (pv : Value) (hE : Ext w W) (h1 : Reads W 1 pv 1 [.slice (some ⟨w.heap.size, 0, none⟩) 16 16]) (h3 : Blk W w.heap.size 23 (d.map u8v).toArray) =>
    digest_any 1 [d] pv W (hM.ext hE) (Parts.one h1 (h3.digR hd)) (by simp) (fun p hp => by simp at hp; subst hp; omega))
  obtain ⟨arr, harr⟩ : ∃ r, (d.map u8v).toArray = r := ⟨_, rfl⟩
  rw [harr] at HD ⊢
  have HR := hide (And.intro (show digestS 1 [d] = leafS d from rfl) (leafS_length d))
  obtain ⟨res, hres⟩ : ∃ r, leafS d = r := ⟨_, rfl⟩
  rw [hres] at HR ⊢
  clear harr hres hd
  go_enter Tryd.func121, Tryd.ntmps121
  go_wp2_with (first
    | (go_at_call 82; refine (unhide HD _ _ ((((Ext.refl w).alloc _).alloc _).alloc _) (Reads.new1' _ _ _ (g := w.heap.size + 1 + 1) (by simp)) (((Blk.new w _ _).alloc _).alloc _)).mono ?_; rintro e w5 ⟨rfl, hE5⟩; rw [(unhide HR).1]; have H5 := hide (And.intro (((((Ext.refl w).alloc _).alloc _).alloc _).trans hE5) (((Blk.new' (w.alloc (.cells arr 23)) 23 (Array.replicate 16 (.int .u8 0)) (g := w.heap.size + 1) (by simp)).alloc _).ext hE5)); clear hE5)
    | (refine wpList_storeB (ty := 23) (t := 23) (x := .tmp 2) (y := .tmp 5) rfl rfl digest_wide rfl rfl (unhide H5).2 rfl (by simpa using (unhide HR).2) (bytes_one _) ?_; intro w7 hb7 hc7 hz7; have H7 := hide (And.intro hb7 hc7); clear hb7 hc7 hz7))
  refine bodyPost_ret (v := .agg (res.map u8v).toArray) (results_blk digest_wide rfl (unhide H7).1 (by simpa using (unhide HR).2) rfl) rfl ⟨rfl, ?_⟩
  exact (unhide H5).1.trans' (unhide H7).2 (fun _ _ h => h) (fun i hi e => by omega)
set_option maxRecDepth 100000 in
set_option maxHeartbeats 2000000 in
theorem rleaf_any (d : List UInt8) (w : World)  (hd : d.length = 16) :
    Calls Tryd.prog 141 #[.agg (d.map u8v).toArray] w fun e w' => e = .returned (.agg ((leafS d).map u8v).toArray) ∧ Ext w w' := by
  have HD := hide (fun (W : World) (pv : Value) (hE : Ext w W) (h1 : Reads W 1 pv 1 [.slice (some ⟨w.heap.size, 0, none⟩) 16 16]) (h3 : Blk W w.heap.size 23 (d.map u8v).toArray) =>
    rdigest_any 1 [d] pv W  (Parts.one h1 (h3.digR hd)) (by simp) (fun p hp => by simp at hp; subst hp; omega))
  obtain ⟨arr, harr⟩ : ∃ r, (d.map u8v).toArray = r := ⟨_, rfl⟩
  rw [harr] at HD ⊢
  have HR := hide (And.intro (show digestS 1 [d] = leafS d from rfl) (leafS_length d))
  obtain ⟨res, hres⟩ : ∃ r, leafS d = r := ⟨_, rfl⟩
  rw [hres] at HR ⊢
  clear harr hres hd
  go_enter Tryd.func141, Tryd.ntmps141
  go_wp2_with (first
    | (go_at_call 139; refine (unhide HD _ _ ((((Ext.refl w).alloc _).alloc _).alloc _) (Reads.new1' _ _ _ (g := w.heap.size + 1 + 1) (by simp)) (((Blk.new w _ _).alloc _).alloc _)).mono ?_; rintro e w5 ⟨rfl, hE5⟩; rw [(unhide HR).1]; have H5 := hide (And.intro (((((Ext.refl w).alloc _).alloc _).alloc _).trans hE5) (((Blk.new' (w.alloc (.cells arr 23)) 23 (Array.replicate 16 (.int .u8 0)) (g := w.heap.size + 1) (by simp)).alloc _).ext hE5)); clear hE5)
    | (refine wpList_storeB (ty := 23) (t := 23) (x := .tmp 2) (y := .tmp 5) rfl rfl digest_wide rfl rfl (unhide H5).2 rfl (by simpa using (unhide HR).2) (bytes_one _) ?_; intro w7 hb7 hc7 hz7; have H7 := hide (And.intro hb7 hc7); clear hb7 hc7 hz7))
  refine bodyPost_ret (v := .agg (res.map u8v).toArray) (results_blk digest_wide rfl (unhide H7).1 (by simpa using (unhide HR).2) rfl) rfl ⟨rfl, ?_⟩
  exact (unhide H5).1.trans' (unhide H7).2 (fun _ _ h => h) (fun i hi e => by omega)
set_option maxRecDepth 100000 in
set_option maxHeartbeats 2000000 in
theorem node_any (l r : List UInt8) (w : World) (hM : ShaMem w) (hl : l.length = 16) (hr : r.length = 16) :
    Calls Tryd.prog 122 #[.agg (l.map u8v).toArray, .agg (r.map u8v).toArray] w fun e w' => e = .returned (.agg ((nodeS l r).map u8v).toArray) ∧ Ext w w' := by
  have HD := hide (fun (W : World) (pv : Value) (hE : Ext w W) (h1 : Reads W 1 pv 2 [.slice (some ⟨w.heap.size, 0, none⟩) 16 16, .slice (some ⟨w.heap.size + 1, 0, none⟩) 16 16]) (h3 : Blk W w.heap.size 23 (l.map u8v).toArray) (h4 : Blk W (w.heap.size + 1) 23 (r.map u8v).toArray) =>
    digest_any 2 [l, r] pv W (hM.ext hE) (Parts.two h1 (h3.digR hl) (h4.digR hr)) (by simp) (fun p hp => by simp at hp; rcases hp with rfl | rfl <;> omega))
  obtain ⟨la, hla⟩ : ∃ x, (l.map u8v).toArray = x := ⟨_, rfl⟩
  obtain ⟨ra, hra⟩ : ∃ x, (r.map u8v).toArray = x := ⟨_, rfl⟩
  rw [hla, hra] at HD ⊢
  have HR := hide (And.intro (show digestS 2 [l, r] = nodeS l r from rfl) (nodeS_length l r))
  obtain ⟨res, hres⟩ : ∃ x, nodeS l r = x := ⟨_, rfl⟩
  rw [hres] at HR ⊢
  clear hla hra hres hl hr
  go_enter Tryd.func122, Tryd.ntmps122
  go_upto_region 1 with fail
  refine wp_region_held_drew (S := fun _ => True) (by kernel_rfl) trivial (fun hHeld => ?_)
  refine wpAnyH_take (i := 0) (oi := _) (v := ?_) rfl (by kernel_rfl) (by kernel_rfl) (by kernel_rfl) (fun _ _ _ h => h) (Or.inl ⟨by rfl, fun wz hSz => ?_⟩) (by assumption) ?_
  rotate_left
  · (first | (go_simp; done) | (go_simp; with_reducible rfl))
  try simp only [Act.put, List.setIfInBounds_toArray, List.set_cons_zero, List.set_cons_succ, List.getElem_toArray, List.getElem_cons_zero]
  refine wpAnyH_take (i := 1) (oi := _) (v := ?_) rfl (by kernel_rfl) (by kernel_rfl) (by kernel_rfl) (fun _ _ _ h => h) (Or.inl ⟨by rfl, fun wz hSz => ?_⟩) (by assumption) ?_
  rotate_left
  · (first | (go_simp; done) | (go_simp; with_reducible rfl))
  try simp only [Act.put, List.setIfInBounds_toArray, List.set_cons_zero, List.set_cons_succ, List.getElem_toArray, List.getElem_cons_succ, List.getElem_cons_zero]
  refine wpAnyH_ready (rs := [2]) (by kernel_rfl) (by simp) (AllReadyH.cons (o := _) rfl (fun K hK => ?_) AllReadyH.nil)
  try go_simp
  (have hS : True := trivial; clear hHeld)
  refine hK.out _ _ ?_ (fun hHeld => ?_)
  · exact hS
  clear hK K
  try simp only [Act.put, List.setIfInBounds_toArray, List.set_cons_zero, List.set_cons_succ, List.getElem_toArray, List.getElem_cons_succ, List.getElem_cons_zero]
  refine wpAnyH_ready (rs := [3]) (by kernel_rfl) (by simp) (AllReadyH.cons (o := _) rfl (fun K hK => ?_) AllReadyH.nil)
  try go_simp
  (refine (unhide HD _ _ (((((Ext.refl w).alloc _).alloc _).alloc _).alloc _).drew ((Reads.new2 _ _ _ _ (g := w.heap.size + 1 + 1 + 1) (by simp)).ext (Ext.refl _).drew) (((((Blk.new w _ _).alloc _).alloc _).alloc _).drew) ((((Blk.new' _ _ _ (by simp)).alloc _).alloc _).drew)).mono ?_; rintro e w3 ⟨rfl, hE3⟩; rw [(unhide HR).1]; have H3 := hide (And.intro ((((((Ext.refl w).alloc _).alloc _).alloc _).alloc _).drew.trans hE3) ((((Blk.new' ((w.alloc (.cells la 23)).alloc (.cells ra 23)) 23 (Array.replicate 16 (.int .u8 0)) (g := w.heap.size + 1 + 1) (by simp)).alloc _).drew).ext hE3)); have hS : True := trivial; clear hHeld hE3)
  refine hK.out _ _ ?_ (fun hHeld => ?_)
  · exact hS
  clear hK K
  try simp only [Act.put, List.setIfInBounds_toArray, List.set_cons_zero, List.set_cons_succ, List.getElem_toArray, List.getElem_cons_succ, List.getElem_cons_zero]
  refine wpAnyH_ready (rs := [4]) (by kernel_rfl) (by simp) (AllReadyH.cons (o := _) rfl (fun K hK => ?_) AllReadyH.nil)
  (refine step_storeB (ty := 23) (t := 23) (x := .tmp 4) (y := .tmp 8) rfl rfl digest_wide rfl rfl (unhide H3).2 rfl (by simpa using (unhide HR).2) (bytes_one _) ?_; intro w7 hb7 hc7 hz7; have H7 := hide (And.intro hb7 (Chg.trans' (unhide H3).1 hc7 (fun _ _ h => h) (fun i hi e => by omega))); have hS : True := trivial; clear hHeld hb7 hc7 hz7)
  refine hK.out _ _ ?_ (fun hHeld => ?_)
  · exact hS
  clear hK K
  try simp only [Act.put, List.getElem_toArray, List.getElem_cons_succ, List.getElem_cons_zero]
  refine wpAnyH_done (by kernel_rfl) ?_ _
  go_wp2
  refine bodyPost_ret (v := .agg (res.map u8v).toArray) (results_blk digest_wide rfl (unhide H7).1 (by simpa using (unhide HR).2) rfl) rfl ⟨rfl, ?_⟩
  exact (unhide H7).2
set_option maxRecDepth 100000 in
set_option maxHeartbeats 2000000 in
theorem rnode_any (l r : List UInt8) (w : World)  (hl : l.length = 16) (hr : r.length = 16) :
    Calls Tryd.prog 143 #[.agg (l.map u8v).toArray, .agg (r.map u8v).toArray] w fun e w' => e = .returned (.agg ((nodeS l r).map u8v).toArray) ∧ Ext w w' := by
  have HD := hide (fun (W : World) (pv : Value) (hE : Ext w W) (h1 : Reads W 1 pv 2 [.slice (some ⟨w.heap.size, 0, none⟩) 16 16, .slice (some ⟨w.heap.size + 1, 0, none⟩) 16 16]) (h3 : Blk W w.heap.size 23 (l.map u8v).toArray) (h4 : Blk W (w.heap.size + 1) 23 (r.map u8v).toArray) =>
    rdigest_any 2 [l, r] pv W  (Parts.two h1 (h3.digR hl) (h4.digR hr)) (by simp) (fun p hp => by simp at hp; rcases hp with rfl | rfl <;> omega))
  obtain ⟨la, hla⟩ : ∃ x, (l.map u8v).toArray = x := ⟨_, rfl⟩
  obtain ⟨ra, hra⟩ : ∃ x, (r.map u8v).toArray = x := ⟨_, rfl⟩
  rw [hla, hra] at HD ⊢
  have HR := hide (And.intro (show digestS 2 [l, r] = nodeS l r from rfl) (nodeS_length l r))
  obtain ⟨res, hres⟩ : ∃ x, nodeS l r = x := ⟨_, rfl⟩
  rw [hres] at HR ⊢
  clear hla hra hres hl hr
  go_enter Tryd.func143, Tryd.ntmps143
  go_upto_region 1 with fail
  refine wp_region_held_drew (S := fun _ => True) (by kernel_rfl) trivial (fun hHeld => ?_)
  refine wpAnyH_take (i := 0) (oi := _) (v := ?_) rfl (by kernel_rfl) (by kernel_rfl) (by kernel_rfl) (fun _ _ _ h => h) (Or.inl ⟨by rfl, fun wz hSz => ?_⟩) (by assumption) ?_
  rotate_left
  · (first | (go_simp; done) | (go_simp; with_reducible rfl))
  try simp only [Act.put, List.setIfInBounds_toArray, List.set_cons_zero, List.set_cons_succ, List.getElem_toArray, List.getElem_cons_zero]
  refine wpAnyH_take (i := 1) (oi := _) (v := ?_) rfl (by kernel_rfl) (by kernel_rfl) (by kernel_rfl) (fun _ _ _ h => h) (Or.inl ⟨by rfl, fun wz hSz => ?_⟩) (by assumption) ?_
  rotate_left
  · (first | (go_simp; done) | (go_simp; with_reducible rfl))
  try simp only [Act.put, List.setIfInBounds_toArray, List.set_cons_zero, List.set_cons_succ, List.getElem_toArray, List.getElem_cons_succ, List.getElem_cons_zero]
  refine wpAnyH_ready (rs := [2]) (by kernel_rfl) (by simp) (AllReadyH.cons (o := _) rfl (fun K hK => ?_) AllReadyH.nil)
  try go_simp
  (have hS : True := trivial; clear hHeld)
  refine hK.out _ _ ?_ (fun hHeld => ?_)
  · exact hS
  clear hK K
  try simp only [Act.put, List.setIfInBounds_toArray, List.set_cons_zero, List.set_cons_succ, List.getElem_toArray, List.getElem_cons_succ, List.getElem_cons_zero]
  refine wpAnyH_ready (rs := [3]) (by kernel_rfl) (by simp) (AllReadyH.cons (o := _) rfl (fun K hK => ?_) AllReadyH.nil)
  try go_simp
  (refine (unhide HD _ _ (((((Ext.refl w).alloc _).alloc _).alloc _).alloc _).drew ((Reads.new2 _ _ _ _ (g := w.heap.size + 1 + 1 + 1) (by simp)).ext (Ext.refl _).drew) (((((Blk.new w _ _).alloc _).alloc _).alloc _).drew) ((((Blk.new' _ _ _ (by simp)).alloc _).alloc _).drew)).mono ?_; rintro e w3 ⟨rfl, hE3⟩; rw [(unhide HR).1]; have H3 := hide (And.intro ((((((Ext.refl w).alloc _).alloc _).alloc _).alloc _).drew.trans hE3) ((((Blk.new' ((w.alloc (.cells la 23)).alloc (.cells ra 23)) 23 (Array.replicate 16 (.int .u8 0)) (g := w.heap.size + 1 + 1) (by simp)).alloc _).drew).ext hE3)); have hS : True := trivial; clear hHeld hE3)
  refine hK.out _ _ ?_ (fun hHeld => ?_)
  · exact hS
  clear hK K
  try simp only [Act.put, List.setIfInBounds_toArray, List.set_cons_zero, List.set_cons_succ, List.getElem_toArray, List.getElem_cons_succ, List.getElem_cons_zero]
  refine wpAnyH_ready (rs := [4]) (by kernel_rfl) (by simp) (AllReadyH.cons (o := _) rfl (fun K hK => ?_) AllReadyH.nil)
  (refine step_storeB (ty := 23) (t := 23) (x := .tmp 4) (y := .tmp 8) rfl rfl digest_wide rfl rfl (unhide H3).2 rfl (by simpa using (unhide HR).2) (bytes_one _) ?_; intro w7 hb7 hc7 hz7; have H7 := hide (And.intro hb7 (Chg.trans' (unhide H3).1 hc7 (fun _ _ h => h) (fun i hi e => by omega))); have hS : True := trivial; clear hHeld hb7 hc7 hz7)
  refine hK.out _ _ ?_ (fun hHeld => ?_)
  · exact hS
  clear hK K
  try simp only [Act.put, List.getElem_toArray, List.getElem_cons_succ, List.getElem_cons_zero]
  refine wpAnyH_done (by kernel_rfl) ?_ _
  go_wp2
  refine bodyPost_ret (v := .agg (res.map u8v).toArray) (results_blk digest_wide rfl (unhide H7).1 (by simpa using (unhide HR).2) rfl) rfl ⟨rfl, ?_⟩
  exact (unhide H7).2

/-- The loop of the split: as many steps as are left. -/
theorem split_exit (f k n : Nat) (h : ¬ k < n - k) : splitF f k n = k := by
  cases f with
  | zero => rfl
  | succ f => rw [splitF, if_neg h]
theorem split_step (f k n : Nat) (h : k < n - k) (hk : 0 < k) (hf : n ≤ f + k) : ∃ g, n ≤ g + 2 * k ∧ splitF g (2 * k) n = splitF f k n := by
  cases f with
  | zero => omega
  | succ f => exact ⟨f, by omega, by rw [splitF, if_pos h]⟩
set_option maxHeartbeats 1000000 in
theorem split_any (n : Nat) (w : World) (h1 : 1 < n) (h2 : n ≤ 1000000) : Calls Tryd.prog 120 #[.int .i64 (n : Int)] w fun e w' => e = .returned (.int .i64 ((splitS n : Nat) : Int)) ∧ w = w' := by
  have HB := hide (show splitF n 1 n = splitS n from rfl)
  go_enter Tryd.func120, Tryd.ntmps120
  go_wp2
  go_loop [3] (fun x => ∃ k : Nat, 0 < k ∧ k < n ∧ x = .int .i64 k ∧ Hid (∃ f, n ≤ f + k ∧ splitF f k n = splitS n)) (fun x => n - (intOf x).toNat)
  case atStart => exact ⟨1, by omega, h1, rfl, hide ⟨n, by omega, unhide HB⟩⟩
  case round =>
    obtain ⟨k, hk0, hk, rfl, HF⟩ := hrel
    by_cases hlt : k < n - k
    · have hltI : (k : Int) < (n : Int) - k := by omega
      go_wp2
      go_round
      case rel =>
        obtain ⟨f, hf, he⟩ := unhide HF
        obtain ⟨g, hg, hge⟩ := split_step f k n hlt hk0 hf
        exact ⟨2 * k, by omega, by omega, by go_num, hide ⟨g, hg, hge.trans he⟩⟩
      case measure => simp [intOf]; omega
    · have hltI : ¬ (k : Int) < (n : Int) - k := by omega
      go_wp2
      go_ret
      obtain ⟨f, hf, he⟩ := unhide HF
      rw [split_exit f k n hlt] at he
      exact ⟨ret_int (by omega), rfl⟩
set_option maxHeartbeats 1000000 in
theorem rsplit_any (n : Nat) (w : World) (h1 : 1 < n) (h2 : n ≤ 1000000) : Calls Tryd.prog 142 #[.int .i64 (n : Int)] w fun e w' => e = .returned (.int .i64 ((splitS n : Nat) : Int)) ∧ w = w' := by
  have HB := hide (show splitF n 1 n = splitS n from rfl)
  go_enter Tryd.func142, Tryd.ntmps142
  go_wp2
  go_loop [3] (fun x => ∃ k : Nat, 0 < k ∧ k < n ∧ x = .int .i64 k ∧ Hid (∃ f, n ≤ f + k ∧ splitF f k n = splitS n)) (fun x => n - (intOf x).toNat)
  case atStart => exact ⟨1, by omega, h1, rfl, hide ⟨n, by omega, unhide HB⟩⟩
  case round =>
    obtain ⟨k, hk0, hk, rfl, HF⟩ := hrel
    by_cases hlt : k < n - k
    · have hltI : (k : Int) < (n : Int) - k := by omega
      go_wp2
      go_round
      case rel =>
        obtain ⟨f, hf, he⟩ := unhide HF
        obtain ⟨g, hg, hge⟩ := split_step f k n hlt hk0 hf
        exact ⟨2 * k, by omega, by omega, by go_num, hide ⟨g, hg, hge.trans he⟩⟩
      case measure => simp [intOf]; omega
    · have hltI : ¬ (k : Int) < (n : Int) - k := by omega
      go_wp2
      go_ret
      obtain ⟨f, hf, he⟩ := unhide HF
      rw [split_exit f k n hlt] at he
      exact ⟨ret_int (by omega), rfl⟩

end Go.Proofs.YtgndblhpfjkfhaaDoor

/-
  Merkle trees: the root, of the program and of the reference.
-/
namespace Go.Proofs.YtgndblhpfjkfhaaDoor
open Go.RowKit

theorem take_eq (l : List (List UInt8)) (k : Nat) : (l.drop 0).take k = l.take k := by rw [List.drop_zero]
theorem drop_eq (l : List (List UInt8)) (k : Nat) : (l.drop k).take (l.length - k) = l.drop k := by rw [List.take_of_length_le (by rw [List.length_drop]; omega)]
/-- A tree of no or one leaf. -/
theorem rootS_nil : rootS [] = digestS 1 [] := rfl
theorem Digs.one {w : World} {v : Value} {d : List UInt8} (h : Digs w v [d]) : ∃ b o c, v = .slice (some ⟨b, o, none⟩) 1 c ∧ b < w.heap.size ∧ w.rangeAt b o (d.map u8v) := by
  obtain ⟨b, o, c, h1, _, _, h2, h3⟩ := h.at (k := 0) (by simp)
  exact ⟨b, o, c, h1, h2, by simpa using h3⟩
/-- The two parts of a list of more than one. -/
theorem Digs.parts {w : World} {v : Value} {ds : List (List UInt8)} (h : Digs w v ds) (hn : 1 < ds.length) {k : Nat} (h1 : 0 < k) (h2 : k < ds.length) : ∃ b o c, v = .slice (some ⟨b, o, none⟩) ds.length c ∧ ds.length ≤ c ∧ c ≤ maxLen ∧ b < w.heap.size ∧
    (∀ c', k ≤ c' → c' ≤ maxLen → Digs w (.slice (some ⟨b, o, none⟩) k c') (ds.take k)) ∧ (∀ c', ds.length - k ≤ c' → c' ≤ maxLen → Digs w (.slice (some ⟨b, o + k * 16, none⟩) (ds.length - k) c') (ds.drop k)) := by
  obtain ⟨b, o, c, rfl, hc1, hc2, hb, _⟩ := h.at (k := 0) (by omega)
  refine ⟨b, o, c, rfl, hc1, hc2, hb, fun c' h3 h4 => ?_, fun c' h3 h4 => ?_⟩
  · obtain ⟨b', o', c2, e, hD⟩ := h.sub 0 k c' (by omega) h1 h3 h4
    cases e
    rw [take_eq, Nat.zero_mul, Nat.add_zero] at hD
    exact hD
  · obtain ⟨b', o', c2, e, hD⟩ := h.sub k (ds.length - k) c' (by omega) (by omega) h3 h4
    cases e
    rw [drop_eq] at hD
    exact hD

set_option maxRecDepth 100000 in
set_option maxHeartbeats 4000000 in
theorem root_any (N : Nat) : ∀ (ds : List (List UInt8)) (v : Value) (w : World), ShaMem w → ds.length ≤ N → ds.length ≤ 100000 → Digs w v ds →
    Calls Tryd.prog 106 #[v] w fun e w' => e = .returned (.agg ((rootS ds).map u8v).toArray) ∧ Ext w w' := by
  induction N with
  | zero =>
    intro ds v w hM hN _ hD
    obtain rfl : ds = [] := List.eq_nil_of_length_eq_zero (by omega)
    obtain ⟨A, c, rfl, _, _⟩ := hD.form
    have HG := hide (fun (W : World) (hE : Ext w W) => digest_any 1 [] (.slice none 0 0) W (hM.ext hE) (Parts.nil W) (by simp) (fun p hp => by cases hp))
    have HR := hide (And.intro (show digestS 1 [] = rootS [] from rfl) (rootS_length []))
    obtain ⟨res, hres⟩ : ∃ x, rootS [] = x := ⟨_, rfl⟩
    rw [hres] at HR ⊢
    clear hres hD
    go_enter Tryd.func106, Tryd.ntmps106
    go_wp2_with (first
      | (go_at_call 82; refine (unhide HG _ ((Ext.refl w).alloc _)).mono ?_; rintro e w5 ⟨rfl, hE5⟩; rw [(unhide HR).1]; have H5 := hide (And.intro (((Ext.refl w).alloc _).trans hE5) ((Blk.new w 23 (Array.replicate 16 (.int .u8 0))).ext hE5)); clear hE5)
      | (refine wpList_storeB (ty := 23) (t := 23) (x := .tmp 2) (y := .tmp 24) rfl rfl digest_wide rfl rfl (unhide H5).2 rfl (by simpa using (unhide HR).2) (bytes_one _) ?_; intro w7 hb7 hc7 hz7; have H7 := hide (And.intro hb7 hc7); clear hb7 hc7 hz7))
    refine bodyPost_ret (v := .agg (res.map u8v).toArray) (results_blk digest_wide rfl (unhide H7).1 (by simpa using (unhide HR).2) rfl) rfl ⟨rfl, ?_⟩
    exact (unhide H5).1.trans' (unhide H7).2 (fun _ _ h => h) (fun i hi e => by omega)
  | succ N ih =>
    intro ds v w hM hN h5 hD
    rcases (by omega : ds.length = 0 ∨ ds.length = 1 ∨ 1 < ds.length) with h | h | h
    · obtain rfl : ds = [] := List.eq_nil_of_length_eq_zero h
      obtain ⟨A, c, rfl, _, _⟩ := hD.form
      have HG := hide (fun (W : World) (hE : Ext w W) => digest_any 1 [] (.slice none 0 0) W (hM.ext hE) (Parts.nil W) (by simp) (fun p hp => by cases hp))
      have HR := hide (And.intro (show digestS 1 [] = rootS [] from rfl) (rootS_length []))
      obtain ⟨res, hres⟩ : ∃ x, rootS [] = x := ⟨_, rfl⟩
      rw [hres] at HR ⊢
      clear hres hD ih
      go_enter Tryd.func106, Tryd.ntmps106
      go_wp2_with (first
        | (go_at_call 82; refine (unhide HG _ ((Ext.refl w).alloc _)).mono ?_; rintro e w5 ⟨rfl, hE5⟩; rw [(unhide HR).1]; have H5 := hide (And.intro (((Ext.refl w).alloc _).trans hE5) ((Blk.new w 23 (Array.replicate 16 (.int .u8 0))).ext hE5)); clear hE5)
        | (refine wpList_storeB (ty := 23) (t := 23) (x := .tmp 2) (y := .tmp 24) rfl rfl digest_wide rfl rfl (unhide H5).2 rfl (by simpa using (unhide HR).2) (bytes_one _) ?_; intro w7 hb7 hc7 hz7; have H7 := hide (And.intro hb7 hc7); clear hb7 hc7 hz7))
      refine bodyPost_ret (v := .agg (res.map u8v).toArray) (results_blk digest_wide rfl (unhide H7).1 (by simpa using (unhide HR).2) rfl) rfl ⟨rfl, ?_⟩
      exact (unhide H5).1.trans' (unhide H7).2 (fun _ _ h => h) (fun i hi e => by omega)
    · obtain ⟨d, rfl⟩ : ∃ d, ds = [d] := by
        match ds, h with
        | [d], _ => exact ⟨d, rfl⟩
      have hd : d.length = 16 := hD.1 d (by simp)
      obtain ⟨b, o, c, rfl, hb, hR⟩ := hD.one
      have HG := hide (fun (W : World) (hE : Ext w W) => leaf_any d W (hM.ext hE) hd)
      have HR := hide (And.intro (rootS_one d) (rootS_length [d]))
      obtain ⟨res, hres⟩ : ∃ x, rootS [d] = x := ⟨_, rfl⟩
      rw [hres] at HR ⊢
      obtain ⟨cs, hcs⟩ : ∃ x, d.map u8v = x := ⟨_, rfl⟩
      have hcl : cs.length = 16 := by rw [← hcs]; simpa using hd
      rw [hcs] at HG hR
      have HA := hide (rangeAt_ext hR ((Ext.refl w).alloc (.cells (Array.replicate 16 (.int .u8 0)) 23)))
      clear hres hD ih hcs hR
      go_enter Tryd.func106, Tryd.ntmps106
      go_wp2_with (first
        | (refine wpList_loadMG (by rfl) (ty := 23) (x := .tmp 28) rfl digest_wide rfl (unhide HA) hcl ?_)
        | (go_at_call 121; refine (unhide HG _ ((Ext.refl w).alloc _)).mono ?_; rintro e w5 ⟨rfl, hE5⟩; rw [← (unhide HR).1]; have H5 := hide (And.intro (((Ext.refl w).alloc _).trans hE5) ((Blk.new w 23 (Array.replicate 16 (.int .u8 0))).ext hE5)); clear hE5)
        | (refine wpList_storeB (ty := 23) (t := 23) (x := .tmp 2) (y := .tmp 30) rfl rfl digest_wide rfl rfl (unhide H5).2 rfl (by simpa using (unhide HR).2) (bytes_one _) ?_; intro w7 hb7 hc7 hz7; have H7 := hide (And.intro hb7 hc7); clear hb7 hc7 hz7))
      refine bodyPost_ret (v := .agg (res.map u8v).toArray) (results_blk digest_wide rfl (unhide H7).1 (by simpa using (unhide HR).2) rfl) rfl ⟨rfl, ?_⟩
      exact (unhide H5).1.trans' (unhide H7).2 (fun _ _ h => h) (fun i hi e => by omega)
    · have hb := splitS_bounds ds.length h
      have HSp := hide (fun W => split_any ds.length W h (by omega))
      obtain ⟨b, o, c, rfl, hc1, hc2, hbl, hL, hRt⟩ := hD.parts h hb.1 hb.2
      have e16 : 16 = 16 := rfl
      have hll : (ds.take (splitS ds.length)).length = splitS ds.length := by rw [List.length_take]; omega
      have hrl : (ds.drop (splitS ds.length)).length = ds.length - splitS ds.length := by rw [List.length_drop]
      have HA := hide (fun (W : World) (hE : Ext w W) => ih (ds.take (splitS ds.length)) (.slice (some ⟨b, o, none⟩) (splitS ds.length) (splitS ds.length)) W (hM.ext hE) (by omega) (by omega) ((hL (splitS ds.length) (by omega) (by omega)).ext hE))
      have HB := hide (fun (W : World) (hE : Ext w W) => ih (ds.drop (splitS ds.length)) (.slice (some ⟨b, o + splitS ds.length * 16, none⟩) (ds.length - splitS ds.length) (ds.length - splitS ds.length)) W (hM.ext hE) (by omega) (by omega) ((hRt (ds.length - splitS ds.length) (by omega) (by omega)).ext hE))
      have HN := hide (fun (W : World) (hE : Ext w W) => node_any (rootS (ds.take (splitS ds.length))) (rootS (ds.drop (splitS ds.length))) W (hM.ext hE) (rootS_length _) (rootS_length _))
      have HR := hide (And.intro (rootS_two ds h) (rootS_length ds))
      obtain ⟨res, hres⟩ : ∃ x, rootS ds = x := ⟨_, rfl⟩
      rw [hres] at HR ⊢
      generalize splitS ds.length = k at *
      generalize rootS (ds.take k) = ra at *
      generalize rootS (ds.drop k) = rb at *
      generalize ds.length = n at *
      unfold maxLen at hc2
      have hk1 : k ≤ n := by omega
      have hk2 : k ≤ c := by omega
      have hk3 : ¬ n = k := by omega
      have hk4 : ¬ c = k := by omega
      clear hres hD ih hL hRt hll hrl
      go_enter Tryd.func106, Tryd.ntmps106
      go_upto_region 4 with (go_at_call 120; refine (unhide HSp _).mono ?_; rintro e w1 ⟨rfl, rfl⟩)
      refine wp_region_held_drew (S := fun _ => True) (by kernel_rfl) trivial (fun hHeld => ?_)
      refine wpAnyH_take (i := 0) (oi := _) (v := ?_) rfl (by kernel_rfl) (by kernel_rfl) (by kernel_rfl) (fun _ _ _ h => h) (Or.inl ⟨by rfl, fun wz hSz => ?_⟩) (by assumption) ?_
      rotate_left
      · (first | (go_simp; done) | (go_simp; with_reducible rfl))
      try simp only [Act.put, List.setIfInBounds_toArray, List.set_cons_zero, List.set_cons_succ, List.getElem_toArray, List.getElem_cons_zero]
      refine wpAnyH_take (i := 1) (oi := _) (v := ?_) rfl (by kernel_rfl) (by kernel_rfl) (by kernel_rfl) (fun _ _ _ h => h) (Or.inl ⟨by rfl, fun wz hSz => ?_⟩) (by assumption) ?_
      rotate_left
      · (first | (go_simp; done) | (go_simp; with_reducible rfl))
      try simp only [Act.put, List.setIfInBounds_toArray, List.set_cons_zero, List.set_cons_succ, List.getElem_toArray, List.getElem_cons_succ, List.getElem_cons_zero]
      refine wpAnyH_take (i := 2) (oi := _) (v := ?_) rfl (by kernel_rfl) (by kernel_rfl) (by kernel_rfl) (fun _ _ _ h => h) (Or.inl ⟨by rfl, fun wz hSz => ?_⟩) (by assumption) ?_
      rotate_left
      · (first | (go_simp; done) | (go_simp; with_reducible rfl))
      try simp only [Act.put, List.setIfInBounds_toArray, List.set_cons_zero, List.set_cons_succ, List.getElem_toArray, List.getElem_cons_succ, List.getElem_cons_zero]
      refine wpAnyH_take (i := 3) (oi := _) (v := ?_) rfl (by kernel_rfl) (by kernel_rfl) (by kernel_rfl) (fun _ _ _ h => h) (Or.inl ⟨by rfl, fun wz hSz => ?_⟩) (by assumption) ?_
      rotate_left
      · (first | (go_simp; done) | (go_simp; with_reducible rfl))
      try simp only [Act.put, List.setIfInBounds_toArray, List.set_cons_zero, List.set_cons_succ, List.getElem_toArray, List.getElem_cons_succ, List.getElem_cons_zero]
      refine wpAnyH_take (i := 5) (oi := _) (v := ?_) rfl (by kernel_rfl) (by kernel_rfl) (by kernel_rfl) (fun _ _ _ h => h) (Or.inl ⟨by rfl, fun wz hSz => ?_⟩) (by assumption) ?_
      rotate_left
      · (first | (go_simp; done) | (go_simp; with_reducible rfl))
      try simp only [Act.put, List.setIfInBounds_toArray, List.set_cons_zero, List.set_cons_succ, List.getElem_toArray, List.getElem_cons_succ, List.getElem_cons_zero]
      refine wpAnyH_take (i := 6) (oi := _) (v := ?_) rfl (by kernel_rfl) (by kernel_rfl) (by kernel_rfl) (fun _ _ _ h => h) (Or.inl ⟨by rfl, fun wz hSz => ?_⟩) (by assumption) ?_
      rotate_left
      · (first | (go_simp; done) | (go_simp; with_reducible rfl))
      try simp only [Act.put, List.setIfInBounds_toArray, List.set_cons_zero, List.set_cons_succ, List.getElem_toArray, List.getElem_cons_succ, List.getElem_cons_zero]
      refine wpAnyH_take (i := 7) (oi := _) (v := ?_) rfl (by kernel_rfl) (by kernel_rfl) (by kernel_rfl) (fun _ _ _ h => h) (Or.inl ⟨by rfl, fun wz hSz => ?_⟩) (by assumption) ?_
      rotate_left
      · (first | (go_simp; done) | (go_simp; with_reducible rfl))
      try simp only [Act.put, List.setIfInBounds_toArray, List.set_cons_zero, List.set_cons_succ, List.getElem_toArray, List.getElem_cons_succ, List.getElem_cons_zero]
      refine wpAnyH_take (i := 8) (oi := _) (v := ?_) rfl (by kernel_rfl) (by kernel_rfl) (by kernel_rfl) (fun _ _ _ h => h) (Or.inl ⟨by rfl, fun wz hSz => ?_⟩) (by assumption) ?_
      rotate_left
      · (first | (go_simp; done) | (go_simp; with_reducible rfl))
      try simp only [Act.put, List.setIfInBounds_toArray, List.set_cons_zero, List.set_cons_succ, List.getElem_toArray, List.getElem_cons_succ, List.getElem_cons_zero]
      refine wpAnyH_take (i := 9) (oi := _) (v := ?_) rfl (by kernel_rfl) (by kernel_rfl) (by kernel_rfl) (fun _ _ _ h => h) (Or.inl ⟨by rfl, fun wz hSz => ?_⟩) (by assumption) ?_
      rotate_left
      · (first | (go_simp; done) | (go_simp; with_reducible rfl))
      try simp only [Act.put, List.setIfInBounds_toArray, List.set_cons_zero, List.set_cons_succ, List.getElem_toArray, List.getElem_cons_succ, List.getElem_cons_zero]
      refine wpAnyH_ready (rs := [4]) (by kernel_rfl) (by simp) (AllReadyH.cons (o := _) rfl (fun K hK => ?_) AllReadyH.nil)
      try go_simp
      (refine (unhide HA _ (((Ext.refl w).alloc _).drew)).mono ?_; rintro e w3 ⟨rfl, hE3⟩; have H3 := hide (And.intro ((((Ext.refl w).alloc _).drew).trans hE3) (((Blk.new w 23 (Array.replicate 16 (.int .u8 0))).drew).ext hE3)); have hS : True := trivial; clear hHeld hE3)
      refine hK.out _ _ ?_ (fun hHeld => ?_)
      · exact hS
      clear hK K
      try simp only [Act.put, List.setIfInBounds_toArray, List.set_cons_zero, List.set_cons_succ, List.getElem_toArray, List.getElem_cons_succ, List.getElem_cons_zero]
      refine wpAnyH_ready (rs := [10]) (by kernel_rfl) (by simp) (AllReadyH.cons (o := _) rfl (fun K hK => ?_) AllReadyH.nil)
      try go_simp
      (refine (unhide HB _ (unhide H3).1).mono ?_; rintro e w4 ⟨rfl, hE4⟩; have H4 := hide (And.intro ((unhide H3).1.trans hE4) ((unhide H3).2.ext hE4)); have hS : True := trivial; clear hHeld hE4 H3)
      refine hK.out _ _ ?_ (fun hHeld => ?_)
      · exact hS
      clear hK K
      try simp only [Act.put, List.setIfInBounds_toArray, List.set_cons_zero, List.set_cons_succ, List.getElem_toArray, List.getElem_cons_succ, List.getElem_cons_zero]
      refine wpAnyH_ready (rs := [11]) (by kernel_rfl) (by simp) (AllReadyH.cons (o := _) rfl (fun K hK => ?_) AllReadyH.nil)
      try go_simp
      (refine (unhide HN _ (unhide H4).1).mono ?_; rintro e w5 ⟨rfl, hE5⟩; rw [← (unhide HR).1]; have H5 := hide (And.intro ((unhide H4).1.trans hE5) ((unhide H4).2.ext hE5)); have hS : True := trivial; clear hHeld hE5 H4)
      refine hK.out _ _ ?_ (fun hHeld => ?_)
      · exact hS
      clear hK K
      try simp only [Act.put, List.setIfInBounds_toArray, List.set_cons_zero, List.set_cons_succ, List.getElem_toArray, List.getElem_cons_succ, List.getElem_cons_zero]
      refine wpAnyH_ready (rs := [12]) (by kernel_rfl) (by simp) (AllReadyH.cons (o := _) rfl (fun K hK => ?_) AllReadyH.nil)
      (refine step_storeB (ty := 23) (t := 23) (x := .tmp 2) (y := .tmp 21) rfl rfl digest_wide rfl rfl (unhide H5).2 rfl (by simpa using (unhide HR).2) (bytes_one _) ?_; intro w7 hb7 hc7 hz7; have H7 := hide (And.intro hb7 (Chg.trans' (unhide H5).1 hc7 (fun _ _ h => h) (fun i hi e => by omega))); have hS : True := trivial; clear hHeld hb7 hc7 hz7)
      refine hK.out _ _ ?_ (fun hHeld => ?_)
      · exact hS
      clear hK K
      try simp only [Act.put, List.getElem_toArray, List.getElem_cons_succ, List.getElem_cons_zero]
      refine wpAnyH_done (by kernel_rfl) ?_ _
      go_wp2
      refine bodyPost_ret (v := .agg (res.map u8v).toArray) (results_blk digest_wide rfl (unhide H7).1 (by simpa using (unhide HR).2) rfl) rfl ⟨rfl, ?_⟩
      exact (unhide H7).2
set_option maxRecDepth 100000 in
set_option maxHeartbeats 4000000 in
theorem rroot_any (N : Nat) : ∀ (ds : List (List UInt8)) (v : Value) (w : World),  ds.length ≤ N → ds.length ≤ 100000 → Digs w v ds →
    Calls Tryd.prog 110 #[v] w fun e w' => e = .returned (.agg ((rootS ds).map u8v).toArray) ∧ Ext w w' := by
  induction N with
  | zero =>
    intro ds v w  hN _ hD
    obtain rfl : ds = [] := List.eq_nil_of_length_eq_zero (by omega)
    obtain ⟨A, c, rfl, _, _⟩ := hD.form
    have HG := hide (fun (W : World) (hE : Ext w W) => rdigest_any 1 [] (.slice none 0 0) W  (Parts.nil W) (by simp) (fun p hp => by cases hp))
    have HR := hide (And.intro (show digestS 1 [] = rootS [] from rfl) (rootS_length []))
    obtain ⟨res, hres⟩ : ∃ x, rootS [] = x := ⟨_, rfl⟩
    rw [hres] at HR ⊢
    clear hres hD
    go_enter Tryd.func110, Tryd.ntmps110
    go_wp2_with (first
      | (go_at_call 139; refine (unhide HG _ ((Ext.refl w).alloc _)).mono ?_; rintro e w5 ⟨rfl, hE5⟩; rw [(unhide HR).1]; have H5 := hide (And.intro (((Ext.refl w).alloc _).trans hE5) ((Blk.new w 23 (Array.replicate 16 (.int .u8 0))).ext hE5)); clear hE5)
      | (refine wpList_storeB (ty := 23) (t := 23) (x := .tmp 2) (y := .tmp 7) rfl rfl digest_wide rfl rfl (unhide H5).2 rfl (by simpa using (unhide HR).2) (bytes_one _) ?_; intro w7 hb7 hc7 hz7; have H7 := hide (And.intro hb7 hc7); clear hb7 hc7 hz7))
    refine bodyPost_ret (v := .agg (res.map u8v).toArray) (results_blk digest_wide rfl (unhide H7).1 (by simpa using (unhide HR).2) rfl) rfl ⟨rfl, ?_⟩
    exact (unhide H5).1.trans' (unhide H7).2 (fun _ _ h => h) (fun i hi e => by omega)
  | succ N ih =>
    intro ds v w  hN h5 hD
    rcases (by omega : ds.length = 0 ∨ ds.length = 1 ∨ 1 < ds.length) with h | h | h
    · obtain rfl : ds = [] := List.eq_nil_of_length_eq_zero h
      obtain ⟨A, c, rfl, _, _⟩ := hD.form
      have HG := hide (fun (W : World) (hE : Ext w W) => rdigest_any 1 [] (.slice none 0 0) W  (Parts.nil W) (by simp) (fun p hp => by cases hp))
      have HR := hide (And.intro (show digestS 1 [] = rootS [] from rfl) (rootS_length []))
      obtain ⟨res, hres⟩ : ∃ x, rootS [] = x := ⟨_, rfl⟩
      rw [hres] at HR ⊢
      clear hres hD ih
      go_enter Tryd.func110, Tryd.ntmps110
      go_wp2_with (first
        | (go_at_call 139; refine (unhide HG _ ((Ext.refl w).alloc _)).mono ?_; rintro e w5 ⟨rfl, hE5⟩; rw [(unhide HR).1]; have H5 := hide (And.intro (((Ext.refl w).alloc _).trans hE5) ((Blk.new w 23 (Array.replicate 16 (.int .u8 0))).ext hE5)); clear hE5)
        | (refine wpList_storeB (ty := 23) (t := 23) (x := .tmp 2) (y := .tmp 7) rfl rfl digest_wide rfl rfl (unhide H5).2 rfl (by simpa using (unhide HR).2) (bytes_one _) ?_; intro w7 hb7 hc7 hz7; have H7 := hide (And.intro hb7 hc7); clear hb7 hc7 hz7))
      refine bodyPost_ret (v := .agg (res.map u8v).toArray) (results_blk digest_wide rfl (unhide H7).1 (by simpa using (unhide HR).2) rfl) rfl ⟨rfl, ?_⟩
      exact (unhide H5).1.trans' (unhide H7).2 (fun _ _ h => h) (fun i hi e => by omega)
    · obtain ⟨d, rfl⟩ : ∃ d, ds = [d] := by
        match ds, h with
        | [d], _ => exact ⟨d, rfl⟩
      have hd : d.length = 16 := hD.1 d (by simp)
      obtain ⟨b, o, c, rfl, hb, hR⟩ := hD.one
      have HG := hide (fun (W : World) (hE : Ext w W) => rleaf_any d W  hd)
      have HR := hide (And.intro (rootS_one d) (rootS_length [d]))
      obtain ⟨res, hres⟩ : ∃ x, rootS [d] = x := ⟨_, rfl⟩
      rw [hres] at HR ⊢
      obtain ⟨cs, hcs⟩ : ∃ x, d.map u8v = x := ⟨_, rfl⟩
      have hcl : cs.length = 16 := by rw [← hcs]; simpa using hd
      rw [hcs] at HG hR
      have HA := hide (rangeAt_ext hR ((Ext.refl w).alloc (.cells (Array.replicate 16 (.int .u8 0)) 23)))
      clear hres hD ih hcs hR
      go_enter Tryd.func110, Tryd.ntmps110
      go_wp2_with (first
        | (refine wpList_loadMG (by rfl) (ty := 23) (x := .tmp 12) rfl digest_wide rfl (unhide HA) hcl ?_)
        | (go_at_call 141; refine (unhide HG _ ((Ext.refl w).alloc _)).mono ?_; rintro e w5 ⟨rfl, hE5⟩; rw [← (unhide HR).1]; have H5 := hide (And.intro (((Ext.refl w).alloc _).trans hE5) ((Blk.new w 23 (Array.replicate 16 (.int .u8 0))).ext hE5)); clear hE5)
        | (refine wpList_storeB (ty := 23) (t := 23) (x := .tmp 2) (y := .tmp 14) rfl rfl digest_wide rfl rfl (unhide H5).2 rfl (by simpa using (unhide HR).2) (bytes_one _) ?_; intro w7 hb7 hc7 hz7; have H7 := hide (And.intro hb7 hc7); clear hb7 hc7 hz7))
      refine bodyPost_ret (v := .agg (res.map u8v).toArray) (results_blk digest_wide rfl (unhide H7).1 (by simpa using (unhide HR).2) rfl) rfl ⟨rfl, ?_⟩
      exact (unhide H5).1.trans' (unhide H7).2 (fun _ _ h => h) (fun i hi e => by omega)
    · have hb := splitS_bounds ds.length h
      have HSp := hide (fun W => rsplit_any ds.length W h (by omega))
      obtain ⟨b, o, c, rfl, hc1, hc2, hbl, hL, hRt⟩ := hD.parts h hb.1 hb.2
      have e16 : 16 = 16 := rfl
      have hll : (ds.take (splitS ds.length)).length = splitS ds.length := by rw [List.length_take]; omega
      have hrl : (ds.drop (splitS ds.length)).length = ds.length - splitS ds.length := by rw [List.length_drop]
      have HA := hide (fun (W : World) (hE : Ext w W) => ih (ds.take (splitS ds.length)) (.slice (some ⟨b, o, none⟩) (splitS ds.length) c) W  (by omega) (by omega) ((hL c (by omega) (by omega)).ext hE))
      have HB := hide (fun (W : World) (hE : Ext w W) => ih (ds.drop (splitS ds.length)) (.slice (some ⟨b, o + splitS ds.length * 16, none⟩) (ds.length - splitS ds.length) (c - splitS ds.length)) W  (by omega) (by omega) ((hRt (c - splitS ds.length) (by omega) (by omega)).ext hE))
      have HN := hide (fun (W : World) (hE : Ext w W) => rnode_any (rootS (ds.take (splitS ds.length))) (rootS (ds.drop (splitS ds.length))) W  (rootS_length _) (rootS_length _))
      have HR := hide (And.intro (rootS_two ds h) (rootS_length ds))
      obtain ⟨res, hres⟩ : ∃ x, rootS ds = x := ⟨_, rfl⟩
      rw [hres] at HR ⊢
      generalize splitS ds.length = k at *
      generalize rootS (ds.take k) = ra at *
      generalize rootS (ds.drop k) = rb at *
      generalize ds.length = n at *
      unfold maxLen at hc2
      have hk1 : k ≤ n := by omega
      have hk2 : k ≤ c := by omega
      have hk3 : ¬ n = k := by omega
      have hk4 : ¬ c = k := by omega
      clear hres hD ih hL hRt hll hrl
      go_enter Tryd.func110, Tryd.ntmps110
      go_upto_region 6 with (go_at_call 142; refine (unhide HSp _).mono ?_; rintro e w1 ⟨rfl, rfl⟩)
      refine wp_region_held_drew (S := fun _ => True) (by kernel_rfl) trivial (fun hHeld => ?_)
      refine wpAnyH_take (i := 0) (oi := _) (v := ?_) rfl (by kernel_rfl) (by kernel_rfl) (by kernel_rfl) (fun _ _ _ h => h) (Or.inl ⟨by rfl, fun wz hSz => ?_⟩) (by assumption) ?_
      rotate_left
      · (first | (go_simp; done) | (go_simp; with_reducible rfl))
      try simp only [Act.put, List.setIfInBounds_toArray, List.set_cons_zero, List.set_cons_succ, List.getElem_toArray, List.getElem_cons_zero]
      refine wpAnyH_take (i := 1) (oi := _) (v := ?_) rfl (by kernel_rfl) (by kernel_rfl) (by kernel_rfl) (fun _ _ _ h => h) (Or.inl ⟨by rfl, fun wz hSz => ?_⟩) (by assumption) ?_
      rotate_left
      · (first | (go_simp; done) | (go_simp; with_reducible rfl))
      try simp only [Act.put, List.setIfInBounds_toArray, List.set_cons_zero, List.set_cons_succ, List.getElem_toArray, List.getElem_cons_succ, List.getElem_cons_zero]
      refine wpAnyH_take (i := 2) (oi := _) (v := ?_) rfl (by kernel_rfl) (by kernel_rfl) (by kernel_rfl) (fun _ _ _ h => h) (Or.inl ⟨by rfl, fun wz hSz => ?_⟩) (by assumption) ?_
      rotate_left
      · (first | (go_simp; done) | (go_simp; with_reducible rfl))
      try simp only [Act.put, List.setIfInBounds_toArray, List.set_cons_zero, List.set_cons_succ, List.getElem_toArray, List.getElem_cons_succ, List.getElem_cons_zero]
      refine wpAnyH_take (i := 4) (oi := _) (v := ?_) rfl (by kernel_rfl) (by kernel_rfl) (by kernel_rfl) (fun _ _ _ h => h) (Or.inl ⟨by rfl, fun wz hSz => ?_⟩) (by assumption) ?_
      rotate_left
      · (first | (go_simp; done) | (go_simp; with_reducible rfl))
      try simp only [Act.put, List.setIfInBounds_toArray, List.set_cons_zero, List.set_cons_succ, List.getElem_toArray, List.getElem_cons_succ, List.getElem_cons_zero]
      refine wpAnyH_take (i := 5) (oi := _) (v := ?_) rfl (by kernel_rfl) (by kernel_rfl) (by kernel_rfl) (fun _ _ _ h => h) (Or.inl ⟨by rfl, fun wz hSz => ?_⟩) (by assumption) ?_
      rotate_left
      · (first | (go_simp; done) | (go_simp; with_reducible rfl))
      try simp only [Act.put, List.setIfInBounds_toArray, List.set_cons_zero, List.set_cons_succ, List.getElem_toArray, List.getElem_cons_succ, List.getElem_cons_zero]
      refine wpAnyH_take (i := 6) (oi := _) (v := ?_) rfl (by kernel_rfl) (by kernel_rfl) (by kernel_rfl) (fun _ _ _ h => h) (Or.inl ⟨by rfl, fun wz hSz => ?_⟩) (by assumption) ?_
      rotate_left
      · (first | (go_simp; done) | (go_simp; with_reducible rfl))
      try simp only [Act.put, List.setIfInBounds_toArray, List.set_cons_zero, List.set_cons_succ, List.getElem_toArray, List.getElem_cons_succ, List.getElem_cons_zero]
      refine wpAnyH_ready (rs := [3]) (by kernel_rfl) (by simp) (AllReadyH.cons (o := _) rfl (fun K hK => ?_) AllReadyH.nil)
      try go_simp
      (refine (unhide HA _ (((Ext.refl w).alloc _).drew)).mono ?_; rintro e w3 ⟨rfl, hE3⟩; have H3 := hide (And.intro ((((Ext.refl w).alloc _).drew).trans hE3) (((Blk.new w 23 (Array.replicate 16 (.int .u8 0))).drew).ext hE3)); have hS : True := trivial; clear hHeld hE3)
      refine hK.out _ _ ?_ (fun hHeld => ?_)
      · exact hS
      clear hK K
      try simp only [Act.put, List.setIfInBounds_toArray, List.set_cons_zero, List.set_cons_succ, List.getElem_toArray, List.getElem_cons_succ, List.getElem_cons_zero]
      refine wpAnyH_ready (rs := [7]) (by kernel_rfl) (by simp) (AllReadyH.cons (o := _) rfl (fun K hK => ?_) AllReadyH.nil)
      try go_simp
      (refine (unhide HB _ (unhide H3).1).mono ?_; rintro e w4 ⟨rfl, hE4⟩; have H4 := hide (And.intro ((unhide H3).1.trans hE4) ((unhide H3).2.ext hE4)); have hS : True := trivial; clear hHeld hE4 H3)
      refine hK.out _ _ ?_ (fun hHeld => ?_)
      · exact hS
      clear hK K
      try simp only [Act.put, List.setIfInBounds_toArray, List.set_cons_zero, List.set_cons_succ, List.getElem_toArray, List.getElem_cons_succ, List.getElem_cons_zero]
      refine wpAnyH_ready (rs := [8]) (by kernel_rfl) (by simp) (AllReadyH.cons (o := _) rfl (fun K hK => ?_) AllReadyH.nil)
      try go_simp
      (refine (unhide HN _ (unhide H4).1).mono ?_; rintro e w5 ⟨rfl, hE5⟩; rw [← (unhide HR).1]; have H5 := hide (And.intro ((unhide H4).1.trans hE5) ((unhide H4).2.ext hE5)); have hS : True := trivial; clear hHeld hE5 H4)
      refine hK.out _ _ ?_ (fun hHeld => ?_)
      · exact hS
      clear hK K
      try simp only [Act.put, List.setIfInBounds_toArray, List.set_cons_zero, List.set_cons_succ, List.getElem_toArray, List.getElem_cons_succ, List.getElem_cons_zero]
      refine wpAnyH_ready (rs := [9]) (by kernel_rfl) (by simp) (AllReadyH.cons (o := _) rfl (fun K hK => ?_) AllReadyH.nil)
      (refine step_storeB (ty := 23) (t := 23) (x := .tmp 2) (y := .tmp 26) rfl rfl digest_wide rfl rfl (unhide H5).2 rfl (by simpa using (unhide HR).2) (bytes_one _) ?_; intro w7 hb7 hc7 hz7; have H7 := hide (And.intro hb7 (Chg.trans' (unhide H5).1 hc7 (fun _ _ h => h) (fun i hi e => by omega))); have hS : True := trivial; clear hHeld hb7 hc7 hz7)
      refine hK.out _ _ ?_ (fun hHeld => ?_)
      · exact hS
      clear hK K
      try simp only [Act.put, List.getElem_toArray, List.getElem_cons_succ, List.getElem_cons_zero]
      refine wpAnyH_done (by kernel_rfl) ?_ _
      go_wp2
      refine bodyPost_ret (v := .agg (res.map u8v).toArray) (results_blk digest_wide rfl (unhide H7).1 (by simpa using (unhide HR).2) rfl) rfl ⟨rfl, ?_⟩
      exact (unhide H7).2

end Go.Proofs.YtgndblhpfjkfhaaDoor

/-
  The abstract machine: specifications of the functions of the lower layers, out of their contracts.
-/
namespace Go.Proofs.YtgndblhpfjkfhaaDoor.Pv
open Go.RowKit

theorem u8w_v : u8w = u8v := rfl
theorem rl_bytes {C : Ctx} {k : Nat} {bs : List UInt8} {cs : Array Value} (h : RL C [.bs k bs] cs.toList) : bs.length = k ∧ cs = (bs.map u8v).toArray := by
  obtain ⟨h1, h2⟩ := h.bs1
  exact ⟨h1, by apply Array.ext'; simpa [u8w_v] using h2⟩
theorem rv_dig {C : Ctx} {k : Nat} {bs : List UInt8} {v : Value} (h : RV C (.w (.agg [.bs k bs])) v) : bs.length = k ∧ v = .agg (bs.map u8v).toArray := by
  cases h with
  | w h => cases h with
    | agg h =>
      obtain ⟨h1, h2⟩ := rl_bytes h
      exact ⟨h1, by rw [h2]⟩
theorem rv_of_dig {C : Ctx} {bs : List UInt8} {k : Nat} (h : bs.length = k) : RV C (.w (.agg [.bs k bs])) (.agg (bs.map u8v).toArray) :=
  .w (.agg (by simpa [u8w_v] using RL.cons (R.bs (C := C) h) RL.nil))
/-! ### Parts, one by one -/
def varN : Nat → (Nat → List PC) → (List (List UInt8) → M) → M
  | 0, _, k => k []
  | n + 1, f, k => varN n f fun l => (match f n with
    | [c] => bytesM (pv1 c) fun b => k (l ++ [b])
    | _ => .fail)
def varM (v : PV) (k : List (List UInt8) → M) : M := match v with
  | .w (.one (.ow x ver n off len)) => .obj x fun g vr ob => guardT g (match Nat.beq ver vr, Nat.beq n 1, Nat.beq off 0, ob with
    | true, true, true, .arr _ m tot f => (match Nat.beq n m, Nat.beq len tot with
      | true, true => varN len f k
      | _, _ => .fail)
    | _, _, _, _ => .fail)
  | .w (.one (.lit (.slice none 0 0))) => k []
  | _ => .fail
section
variable {A : Amb} {s : St} {a : Act} {w : World} {env : Env} {F : Option Bool → PV → Wr → Prop}
theorem varN_ok (h : GamE A s a w env) {vs : List Value} {f : Nat → List PC} : ∀ {n : Nat} {k : List (List UInt8) → M}, n ≤ vs.length → (∀ i, i < n → RL (ctxOf A w env) (f i) ((vs.drop (i * 1)).take 1)) → (varN n f k).ok none s F →
    ∃ ps, ps.length = n ∧ (∀ (i : Nat) (p : List UInt8), ps[i]? = some p → ∃ u, vs[i]? = some u ∧ Reads w 1 u p.length (p.map u8v)) ∧ (k ps).ok none s F
  | 0, k, _, _, hk => ⟨[], rfl, fun i p hp => by simp at hp, hk⟩
  | n + 1, k, hn, hr, hk => by
    obtain ⟨ps, h1, h2, hk⟩ := varN_ok h (n := n) (by omega) (fun i hi => hr i (by omega)) hk
    split at hk
    · rename_i c hfc
      have h3 := hr n (by omega)
      rw [hfc] at h3
      have hv : (vs.drop (n * 1)).take 1 = [vs[n]] := by
        apply List.ext_getElem?
        intro q
        rw [List.getElem?_take, List.getElem?_drop, Nat.mul_one]
        cases q with
        | zero => rw [if_pos (by omega), Nat.add_zero, List.getElem?_eq_getElem (by omega)]; rfl
        | succ q => rw [if_neg (by omega)]; simp
      rw [hv] at h3
      obtain ⟨l, h4, hk⟩ := bytesM_ok h (.w (.one h3.single)) hk
      refine ⟨ps ++ [l], by simp [h1], fun i p hp => ?_, hk⟩
      rcases Nat.lt_or_ge i n with hlt | hge
      · rw [List.getElem?_append_left (by omega)] at hp
        exact h2 i p hp
      · rw [List.getElem?_append_right (by omega)] at hp
        have hi : i = n := by
          rcases Nat.eq_or_lt_of_le hge with e | e
          · exact e.symm
          · rw [List.getElem?_eq_none (by simp; omega)] at hp; cases hp
        subst hi
        rw [h1, Nat.sub_self] at hp
        cases hp
        exact ⟨vs[i], List.getElem?_eq_getElem _, h4⟩
    · exact hk.elim
theorem varM_ok (h : GamE A s a w env) {v : PV} {val : Value} (hv : RV (ctxOf A w env) v val) {k : List (List UInt8) → M} (hk : (varM v k).ok none s F) : ∃ ps, Parts w val ps ∧ (k ps).ok none s F := by
  unfold varM at hk
  split at hk
  · rename_i x ver n off len
    obtain ⟨g, vr, ob, hfo, hk⟩ := hk
    have hk2 := guardT_ok hk
    clear hk
    obtain ⟨hg, hk⟩ := hk2
    obtain ⟨hd, hev, hob⟩ := obj_at h hfo hg
    cases hb : Nat.beq ver vr <;> cases hb2 : Nat.beq n 1 <;> cases hb3 : Nat.beq off 0 <;> cases ob <;> simp only [hb, hb2, hb3] at hk <;> try exact hk.elim
    rename_i e m tot f
    obtain rfl := beqT hb
    obtain rfl := beqT hb2
    obtain rfl := beqT hb3
    cases hb4 : Nat.beq 1 m <;> cases hb5 : Nat.beq len tot <;> simp only [hb4, hb5] at hk <;> try exact hk.elim
    obtain rfl := beqT hb4
    obtain rfl := beqT hb5
    obtain ⟨A0, n0, c0, rfl, hle0, rfl⟩ := hv.ow_inv hev
    obtain ⟨vs, hown, hel⟩ := hob
    have hrd := Reads.of_own hown
    have hn0 : n0 = len := by
      obtain ⟨_, A1, c1, e1, _⟩ := hrd
      cases e1; rfl
    subst hn0
    have hsl := reads_slice (off := 0) (m := n0) (by omega) hrd
    rw [Nat.zero_mul, List.drop_zero, List.take_of_length_le (by rw [hown.1]; omega)] at hsl
    obtain ⟨ps, h1, h2, hk⟩ := varN_ok h (vs := vs) (by rw [hown.1]; omega) hel hk
    exact ⟨ps, ⟨vs, by rw [hown.1, h1]; omega, by rw [h1, Nat.zero_mul]; exact hsl, h2⟩, hk⟩
  · have := hv.lit_inv
    subst this
    exact ⟨[], Parts.nil w, hk⟩
  · exact hk.elim
/-! ### Rows of digests -/
def digAt : List PC → List UInt8
  | [.bs _ l] => l
  | _ => []
def isDig : List PC → Bool
  | [.bs n _] => Nat.beq n 16
  | _ => false
def digF (l : List (List UInt8)) : Nat → List PC := fun i => [.bs 16 (l.getD i [])]
def rowD (len : Nat) (f : Nat → List PC) : List (List UInt8) := (List.range len).map fun i => digAt (f i)
def IsDRow (len : Nat) (f : Nat → List PC) : Prop := ∀ i, i < len → isDig (f i) = true
theorem rowD_length (n : Nat) (f : Nat → List PC) : (rowD n f).length = n := by simp [rowD]
@[simp] theorem isDRow_digF (n : Nat) (l : List (List UInt8)) : IsDRow n (digF l) := fun _ _ => rfl
@[simp] theorem rowD_digF (l : List (List UInt8)) : rowD l.length (digF l) = l := by
  apply List.ext_getElem (rowD_length _ _)
  intro i h1 h2
  simp only [rowD, List.getElem_map, List.getElem_range, digF, digAt]
  rw [List.getD_eq_getElem?_getD, List.getElem?_eq_getElem h2]
  rfl
theorem drow_cells {C : Ctx} {len : Nat} {f : Nat → List PC} {vs : List Value} (hl : vs.length = len * 16) (h : ∀ i, i < len → RL C (f i) ((vs.drop (i * 16)).take 16)) (hb : IsDRow len f) : vs = dcells (rowD len f) ∧ D16 (rowD len f) := by
  have key : ∀ i, i < len → (vs.drop (i * 16)).take 16 = (digAt (f i)).map u8v ∧ (digAt (f i)).length = 16 := by
    intro i hi
    have h1 := h i hi
    have h2 := hb i hi
    generalize f i = c at h1 h2
    unfold isDig at h2
    split at h2
    · obtain ⟨h3, h4⟩ := h1.bs1
      rw [beqT h2] at h3
      exact ⟨h4, h3⟩
    · cases h2
  have hD : D16 (rowD len f) := by
    intro d hd
    obtain ⟨i, hi, rfl⟩ := List.mem_map.1 hd
    exact (key i (List.mem_range.1 hi)).2
  refine ⟨?_, hD⟩
  have : ∀ n, n ≤ len → vs.take (n * 16) = dcells (rowD n f) := by
    intro n
    induction n with
    | zero => intro _; simp [rowD, dcells]
    | succ n ih =>
      intro hn
      have e1 : rowD (n + 1) f = rowD n f ++ [digAt (f n)] := by simp [rowD, List.range_succ]
      rw [e1, dcells, List.flatMap_append]
      have e2 : vs.take ((n + 1) * 16) = vs.take (n * 16) ++ (vs.drop (n * 16)).take 16 := by
        rw [show (n + 1) * 16 = n * 16 + 16 from by omega, List.take_add]
      rw [e2, ih (by omega), (key n (by omega)).1]
      simp [dcells]
  have h1 := this len (Nat.le_refl _)
  rwa [← hl, List.take_length] at h1
def digsM (v : PV) (k : List (List UInt8) → M) : M := match v with
  | .w (.one (.sl n len f)) => (match Nat.beq n 16 with
    | true => .need (IsDRow len f) (k (rowD len f))
    | false => .fail)
  | .w (.one (.ow x ver n off len)) => .obj x fun g vr ob => guardT g (match Nat.beq ver vr, Nat.beq n 16, Nat.beq off 0, ob with
    | true, true, true, .arr _ m tot f => (match Nat.beq n m with
      | true => .need (len ≤ tot ∧ IsDRow len f) (k (rowD len f))
      | false => .fail)
    | _, _, _, _ => .fail)
  | .w (.one (.lit (.slice none 0 0))) => k []
  | _ => .fail
theorem digsM_ok (h : GamE A s a w env) {v : PV} {val : Value} (hv : RV (ctxOf A w env) v val) {k : List (List UInt8) → M} (hk : (digsM v k).ok none s F) : ∃ l, Digs w val l ∧ (k l).ok none s F := by
  unfold digsM at hk
  split at hk
  · rename_i n len f
    cases hb : Nat.beq n 16 <;> rw [hb] at hk
    · exact hk.elim
    obtain rfl := beqT hb
    obtain ⟨hrow, hk⟩ := hk
    cases hv.inv with
    | sl hr hbb he =>
      obtain ⟨e1, e2⟩ := drow_cells hr.1 he hrow
      refine ⟨_, ⟨e2, ?_⟩, hk⟩
      rw [← e1, rowD_length]
      exact hr
  · rename_i x ver n off len
    obtain ⟨g, vr, ob, hfo, hk⟩ := hk
    have hk2 := guardT_ok hk
    clear hk
    obtain ⟨hg, hk⟩ := hk2
    obtain ⟨hd, hev, hob⟩ := obj_at h hfo hg
    cases hb : Nat.beq ver vr <;> cases hb2 : Nat.beq n 16 <;> cases hb3 : Nat.beq off 0 <;> cases ob <;> simp only [hb, hb2, hb3] at hk <;> try exact hk.elim
    rename_i e m tot f
    obtain rfl := beqT hb
    obtain rfl := beqT hb2
    obtain rfl := beqT hb3
    cases hb4 : Nat.beq 16 m <;> rw [hb4] at hk
    · exact hk.elim
    obtain rfl := beqT hb4
    obtain ⟨⟨hle, hrow⟩, hk⟩ := hk
    obtain ⟨A0, n0, c0, rfl, hle0, rfl⟩ := hv.ow_inv hev
    obtain ⟨vs, hown, hel⟩ := hob
    have hrd := Reads.of_own hown
    have hn0 : n0 = tot := by
      obtain ⟨_, A1, c1, e1, _⟩ := hrd
      cases e1; rfl
    subst hn0
    have hsl := reads_slice (off := 0) (m := len) (by omega) hrd
    obtain ⟨e1, e2⟩ := drow_cells (C := ctxOf A w env) (len := len) (f := f) (vs := (vs.drop (0 * 16)).take (len * 16)) hsl.1 (fun i hi => by rw [window_window vs hi, Nat.zero_add]; exact hel i (by omega)) hrow
    refine ⟨_, ⟨e2, ?_⟩, hk⟩
    rw [← e1, rowD_length]
    exact hsl
  · have := hv.lit_inv
    subst this
    exact ⟨[], ⟨D16.nil, Reads.nil w 16⟩, hk⟩
  · exact hk.elim
end

/-! ### The functions -/
def i64P (n : Int) : Prop := -9223372036854775808 ≤ n ∧ n < 9223372036854775808
def spInt : Spec := fun nm xs => match xs with
  | [.w (.one (.lit (.int .i64 n)))] => .need (i64P n) (.new nm (.arr 5 1 (wInt n).length (byF (wInt n))) fun v => .ret (pv1 (.ow nm v 1 0 (wInt n).length)))
  | _ => .fail
def spBytes : Spec := fun nm xs => match xs with
  | [.w (.one (.lit (.string b)))] => .need (b.size ≤ 1000000000) (.new nm (.arr 5 1 (wBytes b.data.toList).length (byF (wBytes b.data.toList))) fun v => .ret (pv1 (.ow nm v 1 0 (wBytes b.data.toList).length)))
  | _ => .fail
def spDigest : Spec := fun _ xs => match xs with
  | [.w (.one (.lit (.int .i64 tag))), ps] => varM ps fun pl => .need (pl.length ≤ 1000 ∧ ∀ p ∈ pl, p.length ≤ 10000) (.ret (.w (.agg [.bs 16 (digestS tag pl)])))
  | _ => .fail
def spDerive : Spec := fun _ xs => match xs with
  | [k, .w (.one (.lit (.string b))), ps] => bytesM k fun kb => varM ps fun pl => .need (kb.length ≤ 10000 ∧ b.size ≤ 10000 ∧ pl.length ≤ 90 ∧ ∀ p ∈ pl, p.length ≤ 10000) (.ret (.w (.agg [.bs 16 (deriveS kb b.data.toList pl)])))
  | _ => .fail
def spMac : Spec := fun _ xs => match xs with
  | [k, b] => bytesM k fun kb => bytesM b fun bb => .need (kb.length ≤ 1000000 ∧ bb.length ≤ 1000000) (.ret (.w (.agg [.bs 16 (mac kb bb)])))
  | _ => .fail
def spSeal (lim : Nat) : Spec := fun _ xs => match xs with
  | [.w (.agg [.bs 16 k]), .w (.one (.lit (.int .i64 n))), .w (.one (.lit (.string b)))] => .need (i64P n ∧ b.size ≤ lim) (.ret (.w (.agg [.lit (.int .i64 n), .lit (.string (strOf (applyS k n b.data.toList))), .bs 16 (tagS k n (applyS k n b.data.toList))])))
  | _ => .fail
def opened (k : List UInt8) (n : Int) (c : ByteArray) (t : List UInt8) : Bool := tagS k n c.data.toList == t
def spOpen (lim : Nat) : Spec := fun _ xs => match xs with
  | [.w (.agg [.bs 16 k]), .w (.agg [.lit (.int .i64 n), .lit (.string c), .bs 16 t])] => .need (i64P n ∧ c.size ≤ lim) (.ret (.tup [.one (.lit (.string (bif opened k n c t then strOf (applyS k n c.data.toList) else { data := #[] }))), .one (.lit (.int .i64 (bif opened k n c t then 0 else 8)))]))
  | _ => .fail
def spRoot : Spec := fun _ xs => match xs with
  | [v] => digsM v fun ds => .need (ds.length ≤ 100000) (.ret (.w (.agg [.bs 16 (rootS ds)])))
  | _ => .fail
theorem rv_box {C : Ctx} {n : Int} {c : ByteArray} {t : List UInt8} {v : Value} (h : RV C (.w (.agg [.lit (.int .i64 n), .lit (.string c), .bs 16 t])) v) : t.length = 16 ∧ v = .agg (boxV n c t) := by
  cases h with
  | w h => cases h with
    | @agg _ cs h =>
      generalize hq : cs.toList = q at h
      cases h with
      | cons h1 h => cases h with
        | cons h2 h =>
          cases h1; cases h2
          obtain ⟨h3, h4⟩ := h.bs1
          refine ⟨h3, ?_⟩
          congr 1
          apply Array.ext'
          rw [hq, h4]
          rfl
theorem rv_of_box {C : Ctx} {n : Int} {c : ByteArray} {t : List UInt8} (h : t.length = 16) : RV C (.w (.agg [.lit (.int .i64 n), .lit (.string c), .bs 16 t])) (.agg (boxV n c t)) :=
  .w (.agg (by
    have := RL.cons (C := C) (R.lit (v := .int .i64 n) rfl) (RL.cons (R.lit (v := .string c) rfl) (RL.cons (R.bs h) RL.nil))
    simpa [boxV, u8w_v] using this))
set_option maxRecDepth 100000 in
theorem int_ok : SpecOk Tryd.prog ShaMem 17 spInt := by
  refine ⟨call_enters Tryd.func17 (by kernel_rfl) rfl, fun A s a w env nm pvs vs F h hI hv hk => ?_⟩
  unfold spInt at hk
  split at hk
  rotate_left
  · exact hk.elim
  rename_i n
  obtain ⟨hn, hk⟩ := hk
  match vs, hv with
  | [v], ⟨h1, _⟩ =>
    obtain rfl := RV.lit_inv (show RV _ _ _ from h1)
    refine (wint_any n w hn.1 hn.2).mono ?_
    rintro e w' ⟨A1, c, rfl, ho, hE⟩
    obtain ⟨env', h3, h4⟩ := h.new_own nm 5 1 (wInt n).length (f := byF (wInt n)) hE ho (fun C i hi => byF_cells C (wInt n) i hi)
    exact .inl ⟨_, _, _, env', rfl, hk, h3, h4⟩
set_option maxRecDepth 100000 in
theorem rint_ok : SpecOk Tryd.prog ShaMem 60 spInt := by
  refine ⟨call_enters Tryd.func60 (by kernel_rfl) rfl, fun A s a w env nm pvs vs F h hI hv hk => ?_⟩
  unfold spInt at hk
  split at hk
  rotate_left
  · exact hk.elim
  rename_i n
  obtain ⟨hn, hk⟩ := hk
  match vs, hv with
  | [v], ⟨h1, _⟩ =>
    obtain rfl := RV.lit_inv (show RV _ _ _ from h1)
    refine (rint_any n w hn.1 hn.2).mono ?_
    rintro e w' ⟨A1, c, rfl, ho, hE⟩
    obtain ⟨env', h3, h4⟩ := h.new_own nm 5 1 (wInt n).length (f := byF (wInt n)) hE ho (fun C i hi => byF_cells C (wInt n) i hi)
    exact .inl ⟨_, _, _, env', rfl, hk, h3, h4⟩
set_option maxRecDepth 100000 in
theorem bytes_ok : SpecOk Tryd.prog ShaMem 18 spBytes := by
  refine ⟨call_enters Tryd.func18 (by kernel_rfl) rfl, fun A s a w env nm pvs vs F h hI hv hk => ?_⟩
  unfold spBytes at hk
  split at hk
  rotate_left
  · exact hk.elim
  rename_i b
  obtain ⟨hn, hk⟩ := hk
  match vs, hv with
  | [v], ⟨h1, _⟩ =>
    obtain rfl := RV.lit_inv (show RV _ _ _ from h1)
    refine (wbytes_any b w hn).mono ?_
    rintro e w' ⟨A1, c, rfl, ho, hE⟩
    obtain ⟨env', h3, h4⟩ := h.new_own nm 5 1 (wBytes b.data.toList).length (f := byF (wBytes b.data.toList)) hE ho (fun C i hi => byF_cells C _ i hi)
    exact .inl ⟨_, _, _, env', rfl, hk, h3, h4⟩
set_option maxRecDepth 100000 in
theorem rbytes_ok : SpecOk Tryd.prog ShaMem 72 spBytes := by
  refine ⟨call_enters Tryd.func72 (by kernel_rfl) rfl, fun A s a w env nm pvs vs F h hI hv hk => ?_⟩
  unfold spBytes at hk
  split at hk
  rotate_left
  · exact hk.elim
  rename_i b
  obtain ⟨hn, hk⟩ := hk
  match vs, hv with
  | [v], ⟨h1, _⟩ =>
    obtain rfl := RV.lit_inv (show RV _ _ _ from h1)
    refine (rbytes_any b w hn).mono ?_
    rintro e w' ⟨A1, c, rfl, ho, hE⟩
    obtain ⟨env', h3, h4⟩ := h.new_own nm 5 1 (wBytes b.data.toList).length (f := byF (wBytes b.data.toList)) hE ho (fun C i hi => byF_cells C _ i hi)
    exact .inl ⟨_, _, _, env', rfl, hk, h3, h4⟩
set_option maxRecDepth 100000 in
theorem digest_ok : SpecOk Tryd.prog ShaMem 82 spDigest := by
  refine ⟨call_enters Tryd.func82 (by kernel_rfl) rfl, fun A s a w env nm pvs vs F h hI hv hk => ?_⟩
  unfold spDigest at hk
  split at hk
  rotate_left
  · exact hk.elim
  rename_i tag ps
  match vs, hv with
  | [v, pv], ⟨h1, h2, _⟩ =>
    obtain rfl := RV.lit_inv (show RV _ _ _ from h1)
    obtain ⟨pl, hp, hk⟩ := varM_ok h h2 hk
    obtain ⟨⟨c1, c2⟩, hk⟩ := hk
    refine (digest_any tag pl pv w (hI.mem w h.chg) hp c1 c2).mono ?_
    rintro e w' ⟨rfl, hE⟩
    exact .inl ⟨_, [], _, env, rfl, hk, h.ext hE, rv_of_dig (digestS_length _ _)⟩
set_option maxRecDepth 100000 in
theorem rdigest_ok : SpecOk Tryd.prog ShaMem 139 spDigest := by
  refine ⟨call_enters Tryd.func139 (by kernel_rfl) rfl, fun A s a w env nm pvs vs F h hI hv hk => ?_⟩
  unfold spDigest at hk
  split at hk
  rotate_left
  · exact hk.elim
  rename_i tag ps
  match vs, hv with
  | [v, pv], ⟨h1, h2, _⟩ =>
    obtain rfl := RV.lit_inv (show RV _ _ _ from h1)
    obtain ⟨pl, hp, hk⟩ := varM_ok h h2 hk
    obtain ⟨⟨c1, c2⟩, hk⟩ := hk
    refine (rdigest_any tag pl pv w  hp c1 c2).mono ?_
    rintro e w' ⟨rfl, hE⟩
    exact .inl ⟨_, [], _, env, rfl, hk, h.ext hE, rv_of_dig (digestS_length _ _)⟩
set_option maxRecDepth 100000 in
theorem derive_ok : SpecOk Tryd.prog ShaMem 15 spDerive := by
  refine ⟨call_enters Tryd.func15 (by kernel_rfl) rfl, fun A s a w env nm pvs vs F h hI hv hk => ?_⟩
  unfold spDerive at hk
  split at hk
  rotate_left
  · exact hk.elim
  rename_i k b ps
  match vs, hv with
  | [kv, v, pv], ⟨h0, h1, h2, _⟩ =>
    obtain rfl := RV.lit_inv (show RV _ _ _ from h1)
    obtain ⟨kb, hkb, hk⟩ := bytesM_ok h h0 hk
    obtain ⟨pl, hp, hk⟩ := varM_ok h h2 hk
    obtain ⟨⟨c0, c1, c2, c3⟩, hk⟩ := hk
    refine (derive_any kb kv b pl pv w (hI.mem w h.chg) hkb c0 c1 hp c2 c3).mono ?_
    rintro e w' ⟨rfl, hE⟩
    exact .inl ⟨_, [], _, env, rfl, hk, h.ext hE, rv_of_dig (deriveS_length _ _ _)⟩
set_option maxRecDepth 100000 in
theorem rderive_ok : SpecOk Tryd.prog ShaMem 58 spDerive := by
  refine ⟨call_enters Tryd.func58 (by kernel_rfl) rfl, fun A s a w env nm pvs vs F h hI hv hk => ?_⟩
  unfold spDerive at hk
  split at hk
  rotate_left
  · exact hk.elim
  rename_i k b ps
  match vs, hv with
  | [kv, v, pv], ⟨h0, h1, h2, _⟩ =>
    obtain rfl := RV.lit_inv (show RV _ _ _ from h1)
    obtain ⟨kb, hkb, hk⟩ := bytesM_ok h h0 hk
    obtain ⟨pl, hp, hk⟩ := varM_ok h h2 hk
    obtain ⟨⟨c0, c1, c2, c3⟩, hk⟩ := hk
    refine (rderive_any kb kv b pl pv w  hkb c0 c1 hp c2 c3).mono ?_
    rintro e w' ⟨rfl, hE⟩
    exact .inl ⟨_, [], _, env, rfl, hk, h.ext hE, rv_of_dig (deriveS_length _ _ _)⟩
set_option maxRecDepth 100000 in
theorem mac_ok : SpecOk Tryd.prog ShaMem 16 spMac := by
  refine ⟨call_enters Tryd.func16 (by kernel_rfl) rfl, fun A s a w env nm pvs vs F h hI hv hk => ?_⟩
  unfold spMac at hk
  split at hk
  rotate_left
  · exact hk.elim
  rename_i k b
  match vs, hv with
  | [kv, bv], ⟨h0, h1, _⟩ =>
    obtain ⟨kb, hkb, hk⟩ := bytesM_ok h h0 hk
    obtain ⟨bb, hbb, hk⟩ := bytesM_ok h h1 hk
    obtain ⟨⟨c0, c1⟩, hk⟩ := hk
    refine (mac_any kb bb kv bv w (hI.mem w h.chg) hkb hbb c0 c1).mono ?_
    rintro e w' ⟨rfl, hE⟩
    exact .inl ⟨_, [], _, env, rfl, hk, h.ext hE, rv_of_dig (mac_length _ _)⟩
set_option maxRecDepth 100000 in
theorem rmac_ok : SpecOk Tryd.prog ShaMem 100 spMac := by
  refine ⟨call_enters Tryd.func100 (by kernel_rfl) rfl, fun A s a w env nm pvs vs F h hI hv hk => ?_⟩
  unfold spMac at hk
  split at hk
  rotate_left
  · exact hk.elim
  rename_i k b
  match vs, hv with
  | [kv, bv], ⟨h0, h1, _⟩ =>
    obtain ⟨kb, hkb, hk⟩ := bytesM_ok h h0 hk
    obtain ⟨bb, hbb, hk⟩ := bytesM_ok h h1 hk
    obtain ⟨⟨c0, c1⟩, hk⟩ := hk
    refine (rmac_any kb bb kv bv w  hkb hbb c0 c1).mono ?_
    rintro e w' ⟨rfl, hE⟩
    exact .inl ⟨_, [], _, env, rfl, hk, h.ext hE, rv_of_dig (mac_length _ _)⟩
set_option maxRecDepth 100000 in
theorem seal_ok : SpecOk Tryd.prog ShaMem 13 (spSeal 100000) := by
  refine ⟨call_enters Tryd.func13 (by kernel_rfl) rfl, fun A s a w env nm pvs vs F h hI hv hk => ?_⟩
  unfold spSeal at hk
  split at hk
  rotate_left
  · exact hk.elim
  rename_i k n b
  obtain ⟨⟨⟨c0, c1⟩, c2⟩, hk⟩ := hk
  match vs, hv with
  | [kv, nv, v], ⟨h0, h1, h2, _⟩ =>
    obtain rfl := RV.lit_inv (show RV _ _ _ from h1)
    obtain rfl := RV.lit_inv (show RV _ _ _ from h2)
    obtain ⟨hkl, rfl⟩ := rv_dig h0
    refine (seal_any k n b w (hI.mem w h.chg) hkl c0 c1 c2).mono ?_
    rintro e w' ⟨rfl, hE⟩
    exact .inl ⟨_, [], _, env, rfl, hk, h.ext hE, rv_of_box (tagS_length _ _ _)⟩
set_option maxRecDepth 100000 in
theorem rseal_ok : SpecOk Tryd.prog ShaMem 57 (spSeal 10000) := by
  refine ⟨call_enters Tryd.func57 (by kernel_rfl) rfl, fun A s a w env nm pvs vs F h hI hv hk => ?_⟩
  unfold spSeal at hk
  split at hk
  rotate_left
  · exact hk.elim
  rename_i k n b
  obtain ⟨⟨⟨c0, c1⟩, c2⟩, hk⟩ := hk
  match vs, hv with
  | [kv, nv, v], ⟨h0, h1, h2, _⟩ =>
    obtain rfl := RV.lit_inv (show RV _ _ _ from h1)
    obtain rfl := RV.lit_inv (show RV _ _ _ from h2)
    obtain ⟨hkl, rfl⟩ := rv_dig h0
    refine (rseal_any k n b w  hkl c0 c1 c2).mono ?_
    rintro e w' ⟨rfl, hE⟩
    exact .inl ⟨_, [], _, env, rfl, hk, h.ext hE, rv_of_box (tagS_length _ _ _)⟩
set_option maxRecDepth 100000 in
theorem open_ok : SpecOk Tryd.prog ShaMem 14 (spOpen 100000) := by
  refine ⟨call_enters Tryd.func14 (by kernel_rfl) rfl, fun A s a w env nm pvs vs F h hI hv hk => ?_⟩
  unfold spOpen at hk
  split at hk
  rotate_left
  · exact hk.elim
  rename_i k n c t
  obtain ⟨⟨⟨c0, c1⟩, c2⟩, hk⟩ := hk
  match vs, hv with
  | [kv, v], ⟨h0, h1, _⟩ =>
    obtain ⟨hkl, rfl⟩ := rv_dig h0
    obtain ⟨htl, rfl⟩ := rv_box h1
    by_cases ht : tagS k n c.data.toList = t
    · refine (open_yes k n c t w (hI.mem w h.chg) hkl htl c0 c1 c2 ht).mono ?_
      rintro e w' ⟨rfl, hE⟩
      refine .inl ⟨_, [], _, env, rfl, hk, h.ext hE, .tup rfl (fun i x hx => ?_)⟩
      have ho : opened k n c t = true := by unfold opened; rw [ht]; simp
      rw [ho] at hx
      match i, hx with
      | 0, hx => cases hx; exact ⟨_, rfl, .one (.lit rfl)⟩
      | 1, hx => cases hx; exact ⟨_, rfl, .one (.lit rfl)⟩
      | i + 2, hx => cases hx
    · refine (open_no k n c t w (hI.mem w h.chg) hkl htl c0 c1 c2 ht).mono ?_
      rintro e w' ⟨rfl, hE⟩
      refine .inl ⟨_, [], _, env, rfl, hk, h.ext hE, .tup rfl (fun i x hx => ?_)⟩
      have ho : opened k n c t = false := by unfold opened; simpa using ht
      rw [ho] at hx
      match i, hx with
      | 0, hx => cases hx; exact ⟨_, rfl, .one (.lit rfl)⟩
      | 1, hx => cases hx; exact ⟨_, rfl, .one (.lit rfl)⟩
      | i + 2, hx => cases hx
set_option maxRecDepth 100000 in
theorem ropen_ok : SpecOk Tryd.prog ShaMem 61 (spOpen 10000) := by
  refine ⟨call_enters Tryd.func61 (by kernel_rfl) rfl, fun A s a w env nm pvs vs F h hI hv hk => ?_⟩
  unfold spOpen at hk
  split at hk
  rotate_left
  · exact hk.elim
  rename_i k n c t
  obtain ⟨⟨⟨c0, c1⟩, c2⟩, hk⟩ := hk
  match vs, hv with
  | [kv, v], ⟨h0, h1, _⟩ =>
    obtain ⟨hkl, rfl⟩ := rv_dig h0
    obtain ⟨htl, rfl⟩ := rv_box h1
    by_cases ht : tagS k n c.data.toList = t
    · refine (ropen_yes k n c t w  hkl htl c0 c1 c2 ht).mono ?_
      rintro e w' ⟨rfl, hE⟩
      refine .inl ⟨_, [], _, env, rfl, hk, h.ext hE, .tup rfl (fun i x hx => ?_)⟩
      have ho : opened k n c t = true := by unfold opened; rw [ht]; simp
      rw [ho] at hx
      match i, hx with
      | 0, hx => cases hx; exact ⟨_, rfl, .one (.lit rfl)⟩
      | 1, hx => cases hx; exact ⟨_, rfl, .one (.lit rfl)⟩
      | i + 2, hx => cases hx
    · refine (ropen_no k n c t w  hkl htl c0 c1 c2 ht).mono ?_
      rintro e w' ⟨rfl, hE⟩
      refine .inl ⟨_, [], _, env, rfl, hk, h.ext hE, .tup rfl (fun i x hx => ?_)⟩
      have ho : opened k n c t = false := by unfold opened; simpa using ht
      rw [ho] at hx
      match i, hx with
      | 0, hx => cases hx; exact ⟨_, rfl, .one (.lit rfl)⟩
      | 1, hx => cases hx; exact ⟨_, rfl, .one (.lit rfl)⟩
      | i + 2, hx => cases hx
set_option maxRecDepth 100000 in
theorem root_ok : SpecOk Tryd.prog ShaMem 106 spRoot := by
  refine ⟨call_enters Tryd.func106 (by kernel_rfl) rfl, fun A s a w env nm pvs vs F h hI hv hk => ?_⟩
  unfold spRoot at hk
  split at hk
  rotate_left
  · exact hk.elim
  rename_i dv
  match vs, hv with
  | [v], ⟨h1, _⟩ =>
    obtain ⟨ds, hd, hk⟩ := digsM_ok h h1 hk
    obtain ⟨c0, hk⟩ := hk
    refine (root_any ds.length ds v w (hI.mem w h.chg) (Nat.le_refl _) c0 hd).mono ?_
    rintro e w' ⟨rfl, hE⟩
    exact .inl ⟨_, [], _, env, rfl, hk, h.ext hE, rv_of_dig (rootS_length _)⟩
set_option maxRecDepth 100000 in
theorem rroot_ok : SpecOk Tryd.prog ShaMem 110 spRoot := by
  refine ⟨call_enters Tryd.func110 (by kernel_rfl) rfl, fun A s a w env nm pvs vs F h hI hv hk => ?_⟩
  unfold spRoot at hk
  split at hk
  rotate_left
  · exact hk.elim
  rename_i dv
  match vs, hv with
  | [v], ⟨h1, _⟩ =>
    obtain ⟨ds, hd, hk⟩ := digsM_ok h h1 hk
    obtain ⟨c0, hk⟩ := hk
    refine (rroot_any ds.length ds v w  (Nat.le_refl _) c0 hd).mono ?_
    rintro e w' ⟨rfl, hE⟩
    exact .inl ⟨_, [], _, env, rfl, hk, h.ext hE, rv_of_dig (rootS_length _)⟩

end Go.Proofs.YtgndblhpfjkfhaaDoor.Pv
